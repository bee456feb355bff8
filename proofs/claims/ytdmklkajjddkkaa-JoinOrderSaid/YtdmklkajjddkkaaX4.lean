-- Printed for this claim by a program of this session (wip/tools/printx.py) over the kit's print, with functions of its own.
import Derived.Test.YtdmklkajjddkkaaX0
import Derived.Test.YtdmklkajjddkkaaLMach
import Derived.Test.YtdmklkajjddkkaaLMap1
namespace Go.Proofs.Ytdmklkajjddkkaa.X
open Go.RowKit Go.Proofs.YtdmklkajjddkkaaW.PrintWords Go.Proofs.YtdmklkajjddkkaaW.PrintLast Go.Proofs.YtdmklkajjddkkaaW.PrintMore
attribute [local go_sem] max2_int min2_int max_two min_two max_three min_three max_four min_four   -- for this text's walks alone
set_option linter.unusedVariables false
set_option linter.unusedSimpArgs false

/-! ### join_flat: function 27 -/
/-- What is told of thing i. -/
def join_flat.step (l : List Int) (a b : Int) (i : Nat) (out : List Int) : List Int :=
  if rd (if rd l i = i then out.set i (i : Int) else (out.set i (i : Int)).set i (rd (out.set i (i : Int)) (rd l i))) i = a
  then (if rd l i = i then out.set i (i : Int) else (out.set i (i : Int)).set i (rd (out.set i (i : Int)) (rd l i))).set i b
  else (if rd l i = i then out.set i (i : Int) else (out.set i (i : Int)).set i (rd (out.set i (i : Int)) (rd l i)))
def join_flat.upto (l : List Int) (a b : Int) : Nat → List Int
  | 0 => List.replicate l.length 0
  | i + 1 => join_flat.step l a b i (join_flat.upto l a b i)
def join_flat.Ok (l : List Int) : Prop := l.length ≤ 35184372088832 ∧ ∀ i : Nat, i < l.length → 0 ≤ rd l i ∧ rd l i < l.length
instance (l : List Int) : Decidable (join_flat.Ok l) := inferInstanceAs (Decidable (_ ∧ ∀ i : Nat, i < l.length → _))
def join_flat.f (l : List Int) (a b : Int) : Option (List Int) := if join_flat.Ok l then some (join_flat.upto l a b l.length) else none
theorem join_flat.step_length (l : List Int) (a b : Int) (i : Nat) (out : List Int) : (join_flat.step l a b i out).length = out.length := by
  unfold join_flat.step; split <;> split <;> simp
theorem join_flat.upto_length (l : List Int) (a b : Int) : ∀ i, (join_flat.upto l a b i).length = l.length
  | 0 => by simp [join_flat.upto]
  | i + 1 => by rw [join_flat.upto, join_flat.step_length, join_flat.upto_length]
theorem join_flat.put {w : World} {base : Nat} {ok : Nat → Prop} {g n cap B : Nat} {xs : List Int} {o : Obj} (h : Kd.R (Kd.int .i64) 3 w base ok (.slice (some ⟨g, 0, none⟩) n cap) xs) (hB : B < base) (hm : w.heap[B]? = some o) (i : Nat) (x : Int) :
    Kd.R (Kd.int .i64) 3 (w.setCell ⟨g, i, none⟩ (.int .i64 x)) base ok (.slice (some ⟨g, 0, none⟩) n cap) (xs.set i x) ∧ (w.setCell ⟨g, i, none⟩ (.int .i64 x)).heap[B]? = some o ∧ (∀ w0, ∀ b, b ≤ B → Below b w0 w → Below b w0 (w.setCell ⟨g, i, none⟩ (.int .i64 x))) := by
  have hg : base ≤ g := Kd.R_base h g rfl
  have h1 := Kd.R_putg h (i : Int) x
  simp only [Int.toNat_natCast] at h1
  refine ⟨h1.1, ?_, ?_⟩
  · rw [Below.heap_setCell w _ _ B (by simp; omega)]; exact hm
  · intro w0 b hb hw; exact hw.setCell (by simp; omega) _
theorem join_flat.cell {w : World} {base : Nat} {ok : Nat → Prop} {g n cap : Nat} {xs : List Int} (h : Kd.R (Kd.int .i64) 3 w base ok (.slice (some ⟨g, 0, none⟩) n cap) xs) (i : Nat) (hi : i < n) :
    w.cell? ⟨g, i, none⟩ = some (.int .i64 (rd xs i)) ∧ w.frozen? ⟨g, i, none⟩ = false := by
  have := Kd.R_celln 0 h (i : Int) (by omega) (by omega)
  simpa [rdOf, rd] using this
set_option maxHeartbeats 8000000 in
set_option maxRecDepth 100000 in
theorem join_flat.calls (A0 : Option Addr) (c0 : Nat) (l0 : List Int) (a1 : Int) (a2 : Int) (r : List Int) (w : World) (hr0 : Kd.C (Kd.int .i64) w A0 l0.length l0) (hc0 : l0.length ≤ c0) (h : join_flat.f l0 a1 a2 = some r) :
    Calls Try.prog 27 #[.slice A0 l0.length c0, .int .i64 a1, .int .i64 a2] w fun e w' => ∃ v0_ : Value, e = .returned (v0_) ∧ Kd.R (Kd.int .i64) 3 w' w.heap.size (fun _ => True) v0_ r ∧ Below w.heap.size w w' := by
  unfold join_flat.f at h
  by_cases ho : join_flat.Ok l0
  case neg => rw [if_neg ho] at h; exact absurd h (by simp)
  rw [if_pos ho] at h
  obtain rfl := Option.some.inj h
  clear h
  have HR0 := Aside0.mk hr0
  have HC0 := Aside0.mk hc0
  have HOK := Aside0.mk ho
  have hn1 : (l0.length : Int).toNat ≤ 35184372088832 := by simpa using ho.1
  have hn0 : (0 : Int) ≤ l0.length := by omega
  clear hr0 hc0 ho
  have c5b0 := eq_true hn1
  have c4b0 := eq_true hn0
  have c4b1 : decide (0 ≤ (l0.length : Int)) = true := decide_eq_true hn0
  have c5b1 : decide ((l0.length : Int).toNat ≤ 35184372088832) = true := decide_eq_true hn1
  have hmm := @run_makeMap Try.prog
  have hins := L.run_insert_new (P := Try.prog) Try.underlying50 Try.underlying3 a1 (.int .i64 a2) w
  refine L.calls_of_wp_builtin Try.func27 rfl ?_
  simp only [Try.ntmps27, List.size_toArray, List.length_cons, List.length_nil, Nat.reduceAdd, Nat.reduceSub, Array.replicate_succ,
     Array.replicate_zero, List.push_toArray, List.append_toArray, List.nil_append, List.cons_append]
  go_wp2_with ((with_reducible refine gate_dst (N := 20) rfl ?_); refine Kd.R_make (Kd.int .i64) _ 3 rfl (N := 20) rfl 22 _ _ rfl (l0.length : Int) rfl rfl Try.underlying22 (.int .i64 0) 8 info3 rfl (by decide) (by omega) 0 (ok := fun _ => True) (okp := fun _ => True) rfl (fun _ hk => hk) trivial (of_decide_eq_true (by first | (with_reducible assumption) | assumption)) (Nat.le_trans (Nat.mul_le_mul_right _ (of_decide_eq_true (by first | (with_reducible assumption) | assumption) : (l0.length : Int).toNat ≤ 35184372088832)) (by omega)) (Below.refl _ _) (Nat.le_refl _) ?_; intro v136 w6 ho7 hb hg_ hnew_; clear hg_ hnew_; simp only [Int.toNat_natCast] at ho7; have HO := Aside0.mk ho7; have HBB := Aside0.mk hb; clear ho7 hb)
  have hs : (w.alloc (.map #[⟨.int .i64 a1, .int .i64 a2, 0⟩] 1)).heap.size = w.heap.size + 1 := by simp
  have HM : Aside0 (w6.heap[w.heap.size]? = some (.map #[⟨.int .i64 a1, .int .i64 a2, 0⟩] 1)) := ⟨by rw [HBB.out.block _ (by rw [hs]; omega)]; exact heap_alloc_new w _⟩
  have HO' : Aside0 (Kd.R (Kd.int .i64) 3 w6 (w.heap.size + 1) (fun _ => True) v136 (join_flat.upto l0 a1 a2 0)) := ⟨by rw [← hs]; exact HO.out⟩
  have HB : Aside0 (Below w.heap.size w w6) := ⟨((Below.refl _ _).alloc (Nat.le_refl _) _).trans (HBB.out.mono (by rw [hs]; omega))⟩
  clear HO HBB hs hins hmm c5b0 c4b0 c4b1 c5b1 hn1 hn0
  go_loopg [23] l0.length (fun kq v23 w' => ∃ i : Nat, v23 = .int .i64 i ∧ Aside0 (i + kq = l0.length) ∧ Aside0 (Kd.R (Kd.int .i64) 3 w' (w.heap.size + 1) (fun _ => True) v136 (join_flat.upto l0 a1 a2 i)) ∧ Aside0 (w'.heap[w.heap.size]? = some (.map #[⟨.int .i64 a1, .int .i64 a2, 0⟩] 1)) ∧ Aside0 (Below w.heap.size w w'))
  case atStart => exact ⟨0, rfl, ⟨by omega⟩, HO', HM, HB⟩
  case round =>
    clear HO' HM HB
    obtain ⟨i, rfl, HI, HO, HM, HB⟩ := hrel
    have hi := HI.out
    have hmax := HOK.out.1
    by_cases hlt : i < l0.length
    case neg =>
      obtain rfl : gk = 0 := by omega
      have hge : ¬ ((i : Int) < l0.length) := by omega
      obtain rfl : i = l0.length := by omega
      clear hi
      go_wp2
      refine ⟨.clear, _, _, _, _, _, _, _, rfl, L.run_clear_map (P := Try.prog) Try.underlying50 _ _ _ _ _ HM.out, results_tmp rfl _ _ _, _, rfl, ?_, ?_⟩
      · refine Kd.R_lower (Kd.R_step (Kd.R_bound HO.out) (fun k hk _ => L.setBlk_other (by have := hk.2.1; omega) _)) (by omega) |> fun h => Kd.R_mono h (fun _ _ => trivial)
      · exact L.setBlk_below HB.out (by omega) _
    case pos =>
      have hlen : (join_flat.upto l0 a1 a2 i).length = l0.length := join_flat.upto_length ..
      obtain ⟨g, cap, ev, hgb, hgl, hcl⟩ := Kd.R_form HO.out (by omega)
      rw [hlen] at ev
      cases ev
      clear hgb hgl hcl
      have hnn := HOK.out.2 i hlt
      obtain ⟨ad, ea, hx⟩ := Kd.at_int HR0.out (i : Int) (by omega) (by omega)
      cases ea
      replace hx := (HB.out.cell (World.block_lt_of_cell? w _ hx)).trans hx
      simp only [Int.toNat_natCast] at hx
      have hcs : ∀ {W : World} {xs : List Int}, Aside0 (Kd.R (Kd.int .i64) 3 W (w.heap.size + 1) (fun _ => True) (.slice (some ⟨g, 0, none⟩) l0.length cap) xs) → W.cell? ⟨g, i, none⟩ = some (.int .i64 (rd xs i)) ∧ W.frozen? ⟨g, i, none⟩ = false := fun h => join_flat.cell h.out i hlt
      have HCS := Aside0.mk (@hcs)
      obtain ⟨hc1, hf1⟩ := hcs HO
      have hlk : ∀ {W : World}, Aside0 (W.heap[w.heap.size]? = some (.map #[⟨.int .i64 a1, .int .i64 a2, 0⟩] 1)) → ∀ x : Int, (Instr.lookup 50 (.map (some w.heap.size)) (.int .i64 x) true).run Try.prog W = .ok (.tuple #[.int .i64 (if x = a1 then a2 else 0), .bool (x == a1)]) W := fun h x => L.run_lookup_one Try.underlying50 Try.underlying3 (fun _ => by kernel_rfl) a1 a2 x 0 1 _ _ h.out
      have HLK := Aside0.mk (@hlk)
      have hmx : (i : Int) + 1 ≤ 9223372036854775807 := by omega
      have hq1 : (i : Int) < l0.length := by omega
      clear hcs hlk hi hmax hlen
      have hstep : join_flat.upto l0 a1 a2 (i + 1) = join_flat.step l0 a1 a2 i (join_flat.upto l0 a1 a2 i) := rfl
      have HST := Aside0.mk hstep
      clear hstep
      obtain ⟨out, hout⟩ : ∃ out, out = join_flat.upto l0 a1 a2 i := ⟨_, rfl⟩
      rw [← hout] at HO HST hc1
      clear hout
      obtain ⟨o1, h1⟩ : ∃ o, o = out.set i (i : Int) := ⟨_, rfl⟩
      by_cases e : rd l0 i = i
      · by_cases f : rd o1 (i : Int) = a1
        · have e0 : (rd l0 (i : Int) != (i : Int)) = false := bne_eq_false_iff_eq.mpr e
          have f0 : (rd o1 (i : Int) == a1) = true := beq_iff_eq.mpr f
          obtain ⟨o3, h3⟩ : ∃ o, o = o1.set i a2 := ⟨_, rfl⟩
          have hz : join_flat.upto l0 a1 a2 (i + 1) = o3 := by rw [HST.out]; unfold join_flat.step; rw [← h1, if_pos e, if_pos f, ← h3]
          have HZ := Aside0.mk hz
          have HF := Aside0.mk f
          have N1 := Aside0.mk h1
          have N3 := Aside0.mk h3
          clear hz e f h1 h3
          go_wp2_with (first | ((with_reducible refine gate_store (t := 3) (p := 31) rfl ?_); refine store_event (t := 3) (p := 31) (v := ?vo_w1) (w1 := (wr.setCell ⟨g, i, none⟩ (.int .i64 (i : Int)))) ?hg ?ho ?hn ?hr ?_; (case ho => rfl); (case hg => rfl); (case hn => rfl); (case hr => first | (go_simp; done) | (go_simp; rfl)); intro w1 hw; obtain ⟨HO1, HM1, HB1⟩ : Aside0 (Kd.R (Kd.int .i64) 3 w1 (w.heap.size + 1) (fun _ => True) (.slice (some ⟨g, 0, none⟩) l0.length cap) o1) ∧ Aside0 (w1.heap[w.heap.size]? = some (.map #[⟨.int .i64 a1, .int .i64 a2, 0⟩] 1)) ∧ Aside0 (Below w.heap.size w w1) := (by have z := join_flat.put HO.out (by omega) HM.out i (i : Int); subst hw; exact ⟨⟨by rw [N1.out]; exact z.1⟩, ⟨z.2.1⟩, ⟨z.2.2 _ _ (Nat.le_refl _) HB.out⟩⟩); clear hw; obtain ⟨hc2, hf2⟩ := HCS.out HO1; have hl2 := HLK.out HM1 (rd o1 i); rw [if_pos HF.out, f0] at hl2) | ((with_reducible refine gate_store (t := 3) (p := 55) rfl ?_); refine store_event (t := 3) (p := 55) (v := ?vo_w3) (w1 := (w1.setCell ⟨g, i, none⟩ (.int .i64 a2))) ?hg ?ho ?hn ?hr ?_; (case ho => rfl); (case hg => rfl); (case hn => rfl); (case hr => first | (go_simp; done) | (go_simp; rfl)); intro w3 hw; obtain ⟨HO3, HM3, HB3⟩ : Aside0 (Kd.R (Kd.int .i64) 3 w3 (w.heap.size + 1) (fun _ => True) (.slice (some ⟨g, 0, none⟩) l0.length cap) o3) ∧ Aside0 (w3.heap[w.heap.size]? = some (.map #[⟨.int .i64 a1, .int .i64 a2, 0⟩] 1)) ∧ Aside0 (Below w.heap.size w w3) := (by have z := join_flat.put HO1.out (by omega) HM1.out i a2; subst hw; exact ⟨⟨by rw [N3.out]; exact z.1⟩, ⟨z.2.1⟩, ⟨z.2.2 _ _ (Nat.le_refl _) HB1.out⟩⟩); clear hw))
          go_roundg (gk - 1)
          case measure => have := HI.out; omega
          case rel => exact ⟨i + 1, by go_num, ⟨by have := HI.out; omega⟩, ⟨by rw [HZ.out]; exact HO3.out⟩, HM3, HB3⟩
        · have e0 : (rd l0 (i : Int) != (i : Int)) = false := bne_eq_false_iff_eq.mpr e
          have f0 : (rd o1 (i : Int) == a1) = false := beq_eq_false_iff_ne.mpr f
          have hz : join_flat.upto l0 a1 a2 (i + 1) = o1 := by rw [HST.out]; unfold join_flat.step; rw [← h1, if_pos e, if_neg f]
          have HZ := Aside0.mk hz
          have HF := Aside0.mk f
          have N1 := Aside0.mk h1
          clear hz e f h1
          go_wp2_with (first | ((with_reducible refine gate_store (t := 3) (p := 31) rfl ?_); refine store_event (t := 3) (p := 31) (v := ?vo_w1) (w1 := (wr.setCell ⟨g, i, none⟩ (.int .i64 (i : Int)))) ?hg ?ho ?hn ?hr ?_; (case ho => rfl); (case hg => rfl); (case hn => rfl); (case hr => first | (go_simp; done) | (go_simp; rfl)); intro w1 hw; obtain ⟨HO1, HM1, HB1⟩ : Aside0 (Kd.R (Kd.int .i64) 3 w1 (w.heap.size + 1) (fun _ => True) (.slice (some ⟨g, 0, none⟩) l0.length cap) o1) ∧ Aside0 (w1.heap[w.heap.size]? = some (.map #[⟨.int .i64 a1, .int .i64 a2, 0⟩] 1)) ∧ Aside0 (Below w.heap.size w w1) := (by have z := join_flat.put HO.out (by omega) HM.out i (i : Int); subst hw; exact ⟨⟨by rw [N1.out]; exact z.1⟩, ⟨z.2.1⟩, ⟨z.2.2 _ _ (Nat.le_refl _) HB.out⟩⟩); clear hw; obtain ⟨hc2, hf2⟩ := HCS.out HO1; have hl2 := HLK.out HM1 (rd o1 i); rw [if_neg HF.out, f0] at hl2))
          go_roundg (gk - 1)
          case measure => have := HI.out; omega
          case rel => exact ⟨i + 1, by go_num, ⟨by have := HI.out; omega⟩, ⟨by rw [HZ.out]; exact HO1.out⟩, HM1, HB1⟩
      · obtain ⟨o2, h2⟩ : ∃ o, o = o1.set i (rd o1 (rd l0 i)) := ⟨_, rfl⟩
        by_cases f : rd o2 (i : Int) = a1
        · have e0 : (rd l0 (i : Int) != (i : Int)) = true := bne_iff_ne.mpr e
          have f0 : (rd o2 (i : Int) == a1) = true := beq_iff_eq.mpr f
          obtain ⟨o3, h3⟩ : ∃ o, o = o2.set i a2 := ⟨_, rfl⟩
          have hz : join_flat.upto l0 a1 a2 (i + 1) = o3 := by rw [HST.out]; unfold join_flat.step; rw [← h1, if_neg e, ← h2, if_pos f, ← h3]
          have HZ := Aside0.mk hz
          have HF := Aside0.mk f
          have N1 := Aside0.mk h1
          have N2 := Aside0.mk h2
          have N3 := Aside0.mk h3
          clear hz e f h1 h2 h3
          go_wp2_with (first | ((with_reducible refine gate_store (t := 3) (p := 31) rfl ?_); refine store_event (t := 3) (p := 31) (v := ?vo_w1) (w1 := (wr.setCell ⟨g, i, none⟩ (.int .i64 (i : Int)))) ?hg ?ho ?hn ?hr ?_; (case ho => rfl); (case hg => rfl); (case hn => rfl); (case hr => first | (go_simp; done) | (go_simp; rfl)); intro w1 hw; obtain ⟨HO1, HM1, HB1⟩ : Aside0 (Kd.R (Kd.int .i64) 3 w1 (w.heap.size + 1) (fun _ => True) (.slice (some ⟨g, 0, none⟩) l0.length cap) o1) ∧ Aside0 (w1.heap[w.heap.size]? = some (.map #[⟨.int .i64 a1, .int .i64 a2, 0⟩] 1)) ∧ Aside0 (Below w.heap.size w w1) := (by have z := join_flat.put HO.out (by omega) HM.out i (i : Int); subst hw; exact ⟨⟨by rw [N1.out]; exact z.1⟩, ⟨z.2.1⟩, ⟨z.2.2 _ _ (Nat.le_refl _) HB.out⟩⟩); clear hw; have hc3 := (join_flat.cell HO1.out (rd l0 i).toNat (by omega)).1; obtain ⟨hc2, hf2⟩ := HCS.out HO1; rw [show rd o1 ((rd l0 (i : Int)).toNat : Int) = rd o1 (rd l0 (i : Int)) from by rw [Int.toNat_of_nonneg hnn.1]] at hc3; have hnn1 := hnn.1; have hnn2 := hnn.2) | ((with_reducible refine gate_store (t := 3) (p := 41) rfl ?_); refine store_event (t := 3) (p := 41) (v := ?vo_w2) (w1 := (w1.setCell ⟨g, i, none⟩ (.int .i64 (rd o1 (rd l0 (i : Int)))))) ?hg ?ho ?hn ?hr ?_; (case ho => rfl); (case hg => rfl); (case hn => rfl); (case hr => first | (go_simp; done) | (go_simp; rfl)); intro w2 hw; obtain ⟨HO2, HM2, HB2⟩ : Aside0 (Kd.R (Kd.int .i64) 3 w2 (w.heap.size + 1) (fun _ => True) (.slice (some ⟨g, 0, none⟩) l0.length cap) o2) ∧ Aside0 (w2.heap[w.heap.size]? = some (.map #[⟨.int .i64 a1, .int .i64 a2, 0⟩] 1)) ∧ Aside0 (Below w.heap.size w w2) := (by have z := join_flat.put HO1.out (by omega) HM1.out i (rd o1 (rd l0 (i : Int))); subst hw; exact ⟨⟨by rw [N2.out]; exact z.1⟩, ⟨z.2.1⟩, ⟨z.2.2 _ _ (Nat.le_refl _) HB1.out⟩⟩); clear hw; obtain ⟨hc4, hf4⟩ := HCS.out HO2; have hl2 := HLK.out HM2 (rd o2 i); rw [if_pos HF.out, f0] at hl2) | ((with_reducible refine gate_store (t := 3) (p := 55) rfl ?_); refine store_event (t := 3) (p := 55) (v := ?vo_w3) (w1 := (w2.setCell ⟨g, i, none⟩ (.int .i64 a2))) ?hg ?ho ?hn ?hr ?_; (case ho => rfl); (case hg => rfl); (case hn => rfl); (case hr => first | (go_simp; done) | (go_simp; rfl)); intro w3 hw; obtain ⟨HO3, HM3, HB3⟩ : Aside0 (Kd.R (Kd.int .i64) 3 w3 (w.heap.size + 1) (fun _ => True) (.slice (some ⟨g, 0, none⟩) l0.length cap) o3) ∧ Aside0 (w3.heap[w.heap.size]? = some (.map #[⟨.int .i64 a1, .int .i64 a2, 0⟩] 1)) ∧ Aside0 (Below w.heap.size w w3) := (by have z := join_flat.put HO2.out (by omega) HM2.out i a2; subst hw; exact ⟨⟨by rw [N3.out]; exact z.1⟩, ⟨z.2.1⟩, ⟨z.2.2 _ _ (Nat.le_refl _) HB2.out⟩⟩); clear hw))
          go_roundg (gk - 1)
          case measure => have := HI.out; omega
          case rel => exact ⟨i + 1, by go_num, ⟨by have := HI.out; omega⟩, ⟨by rw [HZ.out]; exact HO3.out⟩, HM3, HB3⟩
        · have e0 : (rd l0 (i : Int) != (i : Int)) = true := bne_iff_ne.mpr e
          have f0 : (rd o2 (i : Int) == a1) = false := beq_eq_false_iff_ne.mpr f
          have hz : join_flat.upto l0 a1 a2 (i + 1) = o2 := by rw [HST.out]; unfold join_flat.step; rw [← h1, if_neg e, ← h2, if_neg f]
          have HZ := Aside0.mk hz
          have HF := Aside0.mk f
          have N1 := Aside0.mk h1
          have N2 := Aside0.mk h2
          clear hz e f h1 h2
          go_wp2_with (first | ((with_reducible refine gate_store (t := 3) (p := 31) rfl ?_); refine store_event (t := 3) (p := 31) (v := ?vo_w1) (w1 := (wr.setCell ⟨g, i, none⟩ (.int .i64 (i : Int)))) ?hg ?ho ?hn ?hr ?_; (case ho => rfl); (case hg => rfl); (case hn => rfl); (case hr => first | (go_simp; done) | (go_simp; rfl)); intro w1 hw; obtain ⟨HO1, HM1, HB1⟩ : Aside0 (Kd.R (Kd.int .i64) 3 w1 (w.heap.size + 1) (fun _ => True) (.slice (some ⟨g, 0, none⟩) l0.length cap) o1) ∧ Aside0 (w1.heap[w.heap.size]? = some (.map #[⟨.int .i64 a1, .int .i64 a2, 0⟩] 1)) ∧ Aside0 (Below w.heap.size w w1) := (by have z := join_flat.put HO.out (by omega) HM.out i (i : Int); subst hw; exact ⟨⟨by rw [N1.out]; exact z.1⟩, ⟨z.2.1⟩, ⟨z.2.2 _ _ (Nat.le_refl _) HB.out⟩⟩); clear hw; have hc3 := (join_flat.cell HO1.out (rd l0 i).toNat (by omega)).1; obtain ⟨hc2, hf2⟩ := HCS.out HO1; rw [show rd o1 ((rd l0 (i : Int)).toNat : Int) = rd o1 (rd l0 (i : Int)) from by rw [Int.toNat_of_nonneg hnn.1]] at hc3; have hnn1 := hnn.1; have hnn2 := hnn.2) | ((with_reducible refine gate_store (t := 3) (p := 41) rfl ?_); refine store_event (t := 3) (p := 41) (v := ?vo_w2) (w1 := (w1.setCell ⟨g, i, none⟩ (.int .i64 (rd o1 (rd l0 (i : Int)))))) ?hg ?ho ?hn ?hr ?_; (case ho => rfl); (case hg => rfl); (case hn => rfl); (case hr => first | (go_simp; done) | (go_simp; rfl)); intro w2 hw; obtain ⟨HO2, HM2, HB2⟩ : Aside0 (Kd.R (Kd.int .i64) 3 w2 (w.heap.size + 1) (fun _ => True) (.slice (some ⟨g, 0, none⟩) l0.length cap) o2) ∧ Aside0 (w2.heap[w.heap.size]? = some (.map #[⟨.int .i64 a1, .int .i64 a2, 0⟩] 1)) ∧ Aside0 (Below w.heap.size w w2) := (by have z := join_flat.put HO1.out (by omega) HM1.out i (rd o1 (rd l0 (i : Int))); subst hw; exact ⟨⟨by rw [N2.out]; exact z.1⟩, ⟨z.2.1⟩, ⟨z.2.2 _ _ (Nat.le_refl _) HB1.out⟩⟩); clear hw; obtain ⟨hc4, hf4⟩ := HCS.out HO2; have hl2 := HLK.out HM2 (rd o2 i); rw [if_neg HF.out, f0] at hl2))
          go_roundg (gk - 1)
          case measure => have := HI.out; omega
          case rel => exact ⟨i + 1, by go_num, ⟨by have := HI.out; omega⟩, ⟨by rw [HZ.out]; exact HO2.out⟩, HM2, HB2⟩

end Go.Proofs.Ytdmklkajjddkkaa.X
