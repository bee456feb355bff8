-- Printed for this claim by a program of this session (wip/tools/printx.py) over the kit's print, with functions of its own.
import Derived.Test.YtdmklkajjddkkaaX0
import Derived.WalkMore
import Derived.ScopeJumps
import Derived.Scope
namespace Go.Proofs.Ytdmklkajjddkkaa.X
open Go.RowKit Go.Proofs.YtdmklkajjddkkaaW.PrintWords Go.Proofs.YtdmklkajjddkkaaW.PrintLast Go.Proofs.YtdmklkajjddkkaaW.PrintMore
attribute [local go_sem] max2_int min2_int max_two min_two max_three min_three max_four min_four   -- for this text's walks alone
set_option linter.unusedVariables false
set_option linter.unusedSimpArgs false

/-! ### join_head: function 24 -/
def join_head.l0 : Nat → List Int → Int → Option (Int)
  | 0, _, _ => none
  | k + 1, x0, x1 => if 0 ≤ x1 then (if x1 < (x0.length : Int) then (if (rd x0 x1) = x1 then (some x1) else (join_head.l0 k x0 (rd x0 x1))) else (none)) else (none)
def join_head.f (k : Nat) (l0 : List Int) (a1 : Int) : Option (Int) := join_head.l0 k l0 a1
theorem join_head.mono_l : ∀ k, (∀ y0 y1, LeO (join_head.l0 k y0 y1) (join_head.l0 (k + 1) y0 y1))
  | 0 => fun _ _ r h => by simp [join_head.l0] at h
  | k + 1 => by
    have ih0 := join_head.mono_l k
    · intro y0 y1
      unfold join_head.l0
      repeat' first
      | (with_reducible exact ih0 _ _)
      | (with_reducible exact LeO.refl _)
      | (with_reducible exact LeO.none _)
      | (with_reducible refine LeO.ite ?_ ?_)
      | exact ih0 _ _
      | exact LeO.none _
      | refine LeO.ite ?_ ?_
theorem join_head.mono : ∀ a0 a1 k, LeO (join_head.f k a0 a1) (join_head.f (k + 1) a0 a1) := fun a0 a1 k => join_head.mono_l k a0 a1
/-- A scope in which the run jumps back to one label; what gets less is told beside the frame. -/
theorem scope_jumps_ghost {P : Program} {a : Act} {w : World} {Q : Exit → Act → World → Prop} {c rest : Code} (l : Nat) (J : Nat → Act → World → Prop) (hf : findLabel c l = some rest)
    (first : c.wp P (Exit.jump l (fun a w => ∃ g, J g a w) Q) a w)
    (pass : ∀ g a w, J g a w → rest.wp P (Exit.jump l (fun a' w' => ∃ g', g' < g ∧ J g' a' w') Q) a w) : (Code.scope c).wp P Q a w := by
  intro b k cs
  have hg : gotoIn l (.inScope c :: k) = some (.code rest :: .inScope c :: k) := by simp [gotoIn, hf]
  have key : ∀ n a w, J n a w → ∃ e a' w', Q e a' w' ∧ Arrives P (lone (b.at a (.code rest :: .inScope c :: k)) cs w) b k cs e a' w' := by
    intro n
    induction n using Nat.strongRecOn with
    | _ n ih =>
      intro a w hJ
      obtain ⟨e, a₁, w₁, hq, harr⟩ := pass n a w hJ b (.inScope c :: k) cs
      cases e with
      | normal => exact ⟨.normal, a₁, w₁, hq, Steps.trans harr (.one step_inScope)⟩
      | exit id => exact ⟨.exit id, a₁, w₁, hq, fun k' hk => harr k' (by simp [exitTo, hk])⟩
      | goto l' =>
        obtain ⟨rfl, g', hlt, hJ'⟩ := hq
        obtain ⟨e₂, a₂, w₂, hq₂, harr₂⟩ := ih g' hlt a₁ w₁ hJ'
        exact ⟨e₂, a₂, w₂, hq₂, .of_steps (harr _ hg) harr₂⟩
      | ret => exact ⟨_, a₁, w₁, hq, harr⟩
      | panic ch => exact ⟨_, a₁, w₁, hq, harr⟩
      | outgrown => exact ⟨_, a₁, w₁, hq, harr⟩
  obtain ⟨e, a₁, w₁, hq, harr⟩ := first b (.inScope c :: k) cs
  cases e with
  | normal => exact ⟨.normal, a₁, w₁, hq, .head step_scope (Steps.trans harr (.one step_inScope))⟩
  | exit id => exact ⟨.exit id, a₁, w₁, hq, fun k' hk => .head step_scope (harr k' (by simp [exitTo, hk]))⟩
  | goto l' =>
    obtain ⟨rfl, g, hJ'⟩ := hq
    obtain ⟨e₂, a₂, w₂, hq₂, harr₂⟩ := key g a₁ w₁ hJ'
    exact ⟨e₂, a₂, w₂, hq₂, .of_steps (.head step_scope (harr _ hg)) harr₂⟩
  | ret => exact ⟨_, a₁, w₁, hq, .of_steps (.one step_scope) harr⟩
  | panic ch => exact ⟨_, a₁, w₁, hq, .of_steps (.one step_scope) harr⟩
  | outgrown => exact ⟨_, a₁, w₁, hq, .of_steps (.one step_scope) harr⟩
set_option maxHeartbeats 8000000 in
set_option maxRecDepth 100000 in
theorem join_head.calls (k : Nat) (A0 : Option Addr) (c0 : Nat) (l0 : List Int) (a1 : Int) (r : Int) (w : World) (hr0 : Kd.C (Kd.int .i64) w A0 l0.length l0) (hc0 : l0.length ≤ c0) (h : join_head.f k l0 a1 = some r) :
    Calls Try.prog 24 #[.slice A0 l0.length c0, .int .i64 a1] w fun e w' => e = .returned (.int .i64 r) ∧ Drawn0 w w' := by
  have HR0 := Aside0.mk hr0
  have HC0 := Aside0.mk hc0
  clear hr0 hc0
  have H : (join_head.l0 k l0 a1) = some r := h
  clear h
  go_enter Try.func24, Try.ntmps24
  go_wp2
  refine scope_jumps_ghost 0 (fun g a' w' => w' = w ∧ ∃ (x : Int) (u5 u6 u7 u8 u9 u10 u11 u12 u13 u14 u15 : Value), a' = { tmps := #[.slice A0 l0.length c0, .int .i64 x, undef, undef, .int .i64 0, u5, u6, u7, u8, u9, u10, u11, u12, u13, u14, u15], defers := [] } ∧ Aside0 (join_head.l0 g l0 x = some r)) rfl ?_ ?_
  · cases k with
    | zero => exact absurd H (by simp [join_head.l0])
    | succ g =>
      simp only [join_head.l0] at H
      go_wp2
      go_step3
      by_cases c3 : 0 ≤ a1
      case neg => rw [if_neg c3] at H; exact absurd H (by simp)
      rw [if_pos c3] at H
      by_cases c4 : a1 < (l0.length : Int)
      case neg => rw [if_neg c4] at H; exact absurd H (by simp)
      rw [if_pos c4] at H
      obtain ⟨ad, e1, hx⟩ := Kd.at_int HR0.out a1 c3 c4
      cases e1
      replace c3 := eq_true c3
      replace c4 := eq_true c4
      by_cases c5 : (rd l0 a1) = a1
      · rw [if_pos c5] at H
        have c5b0 : ((rd l0 a1) == a1) = true := beq_iff_eq.mpr c5
        clear c5
        obtain rfl := Option.some.inj H
        clear H
        go_wp2
        simp only [Exit.jump]
        go_ret
        exact ⟨rfl, Drawn0.refl _⟩
      rw [if_neg c5] at H
      have c5b0 : ((rd l0 a1) == a1) = false := beq_eq_false_iff_ne.mpr c5
      clear c5
      have H' := Aside0.mk H
      clear H
      go_wp2
      go_step3
      · exact ⟨rfl, g, rfl, rd l0 a1, _, _, _, _, _, _, _, _, _, _, _, rfl, H'⟩
  · rintro g a' w' ⟨rfl, x, u5, u6, u7, u8, u9, u10, u11, u12, u13, u14, u15, rfl, HA⟩
    cases g with
    | zero => exact absurd HA.out (by simp [join_head.l0])
    | succ g =>
      have H := HA.out
      clear HA
      simp only [join_head.l0] at H
      by_cases c3 : 0 ≤ x
      case neg => rw [if_neg c3] at H; exact absurd H (by simp)
      rw [if_pos c3] at H
      by_cases c4 : x < (l0.length : Int)
      case neg => rw [if_neg c4] at H; exact absurd H (by simp)
      rw [if_pos c4] at H
      obtain ⟨ad, e1, hx⟩ := Kd.at_int HR0.out x c3 c4
      cases e1
      replace c3 := eq_true c3
      replace c4 := eq_true c4
      by_cases c5 : (rd l0 x) = x
      · rw [if_pos c5] at H
        have c5b0 : ((rd l0 x) == x) = true := beq_iff_eq.mpr c5
        clear c5
        obtain rfl := Option.some.inj H
        clear H
        go_wp2
        simp only [Exit.jump]
        go_ret
        exact ⟨rfl, Drawn0.refl _⟩
      rw [if_neg c5] at H
      have c5b0 : ((rd l0 x) == x) = false := beq_eq_false_iff_ne.mpr c5
      clear c5
      have H' := Aside0.mk H
      clear H
      go_wp2
      go_step3
      · exact ⟨rfl, g, by omega, rfl, rd l0 x, _, _, _, _, _, _, _, _, _, _, _, rfl, H'⟩

end Go.Proofs.Ytdmklkajjddkkaa.X
