/- Plain laws of classes put together: what the functions of join, and the document's, tell. No Go, no memory. -/
import Derived.Test.YtdmklkajjddkkaaX5
import Derived.Test.YtdmklkajjddkkaaX6
set_option linter.unusedVariables false
set_option linter.unusedSimpArgs false
namespace Go.Proofs.Ytdmklkajjddkkaa.Pl
open Go.RowKit Go.Proofs.Ytdmklkajjddkkaa.X Go.Proofs.YtdmklkajjddkkaaW.PrintWords Go.Proofs.YtdmklkajjddkkaaW.PrintLast

def okAt (l : List Int) (i : Nat) : Prop := 0 ≤ rd l i ∧ rd l i ≤ i
instance (l : List Int) (i : Nat) : Decidable (okAt l i) := inferInstanceAs (Decidable (_ ∧ _))
def May (l : List Int) : Prop := ∀ i : Nat, i < l.length → okAt l i
instance (l : List Int) : Decidable (May l) := inferInstanceAs (Decidable (∀ i : Nat, i < l.length → _))
theorem wrap_succ (i : Nat) (h : i ≤ 1000000) : wrap64 ((i : Int) + 1) = ((i + 1 : Nat) : Int) := by unfold wrap64; omega

/-! ### May classes be? -/
theorem check_l0 (l : List Int) (hl : l.length ≤ 1000000) : ∀ (d i k : Nat), i + d = l.length → d < k → (∀ j, j < i → okAt l j) → join_Check.l0 k l l.length i = some (if May l then 0 else 8)
  | d, i, 0, _, hk, _ => absurd hk (by omega)
  | 0, i, k + 1, hd, hk, hj => by
    simp only [join_Check.l0]
    rw [if_neg (by omega), if_pos (show May l from fun j h => hj j (by omega))]
  | d + 1, i, k + 1, hd, hk, hj => by
    simp only [join_Check.l0]
    rw [if_pos (by omega), if_pos (by omega), if_pos (by omega)]
    by_cases h1 : rd l i < 0
    · rw [if_pos h1, if_neg (fun m : May l => by have := (m i (by omega)).1; omega)]
    rw [if_neg h1]
    by_cases h2 : rd l i > i
    · rw [if_pos h2, if_neg (fun m : May l => by have := (m i (by omega)).2; omega)]
    rw [if_neg h2, wrap_succ i (by omega)]
    refine check_l0 l hl d (i + 1) k (by omega) (by omega) (fun j h => ?_)
    by_cases e : j = i
    · subst e; exact ⟨by omega, by omega⟩
    · exact hj j (by omega)
theorem check_ev (l : List Int) (hl : l.length ≤ 1000000) : Ev (fun k => join_Check.f k l) (if May l then 0 else 8) :=
  ⟨l.length + 1, fun k hk => by unfold join_Check.f; exact check_l0 l hl l.length 0 k (by omega) (by omega) (fun j h => absurd h (by omega))⟩
theorem may_l0 (l : List Int) (hl : l.length ≤ 1000000) : ∀ (d i k : Nat), i + d = l.length → d < k → (∀ j, j < i → okAt l j) → fescueref21_May.l0 k l i = some (decide (May l))
  | d, i, 0, _, hk, _ => absurd hk (by omega)
  | 0, i, k + 1, hd, hk, hj => by
    simp only [fescueref21_May.l0]
    rw [if_neg (by omega), decide_eq_true (show May l from fun j h => hj j (by omega))]
  | d + 1, i, k + 1, hd, hk, hj => by
    simp only [fescueref21_May.l0]
    rw [if_pos (by omega), if_pos (by omega)]
    by_cases h1 : rd l i < 0
    · rw [if_pos h1, decide_eq_false (fun m : May l => by have := (m i (by omega)).1; omega)]
    rw [if_neg h1]
    by_cases h2 : rd l i > i
    · rw [if_pos h2, decide_eq_false (fun m : May l => by have := (m i (by omega)).2; omega)]
    rw [if_neg h2, wrap_succ i (by omega)]
    refine may_l0 l hl d (i + 1) k (by omega) (by omega) (fun j h => ?_)
    by_cases e : j = i
    · subst e; exact ⟨by omega, by omega⟩
    · exact hj j (by omega)
theorem may_ev (l : List Int) (hl : l.length ≤ 1000000) : Ev (fun k => fescueref21_May.f k l) (decide (May l)) :=
  ⟨l.length + 1, fun k hk => by unfold fescueref21_May.f; exact may_l0 l hl l.length 0 k (by omega) (by omega) (fun j h => absurd h (by omega))⟩

/-! ### Heads -/
def hd (l : List Int) (a : Nat) : Nat := if h : (rd l a).toNat < a then hd l (rd l a).toNat else a
termination_by a
theorem hd_own {l : List Int} {a : Nat} (h : rd l a = a) : hd l a = a := by
  rw [hd, dif_neg (by omega)]
theorem hd_next {l : List Int} {a : Nat} (hk : okAt l a) (h : rd l a ≠ a) : hd l a = hd l (rd l a).toNat ∧ (rd l a).toNat < a := by
  have h' : (rd l a).toNat < a := by have := hk.1; have := hk.2; omega
  exact ⟨by rw [hd, dif_pos h'], h'⟩
theorem hd_le {l : List Int} (hm : May l) (a : Nat) (ha : a < l.length) : hd l a ≤ a ∧ rd l (hd l a) = hd l a := by
  induction a using Nat.strongRecOn with
  | _ a ih =>
    by_cases h : rd l a = a
    · rw [hd_own h]; exact ⟨Nat.le_refl _, h⟩
    · obtain ⟨e, hlt⟩ := hd_next (hm a ha) h
      have := ih _ hlt (by omega)
      rw [e]; exact ⟨by omega, this.2⟩
theorem hd_hd {l : List Int} (hm : May l) (a : Nat) (ha : a < l.length) : hd l (hd l a) = hd l a := hd_own (hd_le hm a ha).2
theorem headOf_l0 {l : List Int} (hm : May l) (a : Nat) : ∀ k, a < l.length → a < k → fescueref21_HeadOf.l0 k l a = some (hd l a : Int) ∧ join_head.l0 k l a = some (hd l a : Int) := by
  induction a using Nat.strongRecOn with
  | _ a ih =>
    intro k ha hk
    obtain ⟨k, rfl⟩ : ∃ m, k = m + 1 := ⟨k - 1, by omega⟩
    simp only [fescueref21_HeadOf.l0, join_head.l0]
    have h0 : (0 : Int) ≤ (a : Int) := by omega
    have h1 : (a : Int) < (l.length : Int) := by omega
    rw [if_pos h0, if_pos h1, if_pos h0, if_pos h1]
    by_cases h : rd l a = a
    · rw [if_pos h, if_pos h, hd_own h]; exact ⟨rfl, rfl⟩
    · obtain ⟨e, hlt⟩ := hd_next (hm a ha) h
      rw [if_neg h, if_neg h, e]
      have z := ih _ hlt k (by omega) (by omega)
      rw [Int.toNat_of_nonneg (hm a ha).1] at z
      exact z
theorem headOf_ev {l : List Int} (hm : May l) (a : Int) (h0 : 0 ≤ a) (ha : a < l.length) : Ev (fun k => fescueref21_HeadOf.f k l a) (hd l a.toNat : Int) :=
  ⟨l.length + 1, fun k hk => by
    have := (headOf_l0 hm a.toNat k (by omega) (by omega)).1
    rw [Int.toNat_of_nonneg h0] at this
    exact this⟩
theorem head_ev {l : List Int} (hm : May l) (a : Int) (h0 : 0 ≤ a) (ha : a < l.length) : Ev (fun k => join_head.f k l a) (hd l a.toNat : Int) :=
  ⟨l.length + 1, fun k hk => by
    have := (headOf_l0 hm a.toNat k (by omega) (by omega)).2
    rw [Int.toNat_of_nonneg h0] at this
    exact this⟩

/-! ### Things asked of -/
def inside (l : List Int) (ts : List Int) : Prop := ∀ t ∈ ts, 0 ≤ t ∧ t < l.length
instance (l ts : List Int) : Decidable (inside l ts) := inferInstanceAs (Decidable (∀ t ∈ ts, _))
theorem rd_of {ts : List Int} {i : Nat} (h : i < ts.length) : rd ts i = ts[i] := by
  unfold rd; simp [List.getD_eq_getElem?_getD, h]
theorem asked_l0 (l ts : List Int) (hl : ts.length ≤ 1000000) : ∀ (d i k : Nat), i + d = ts.length → d < k → (∀ j, j < i → 0 ≤ rd ts j ∧ rd ts j < l.length) → join_asked.l0 k l ts ts.length i = some (if inside l ts then 0 else 2)
  | d, i, 0, _, hk, _ => absurd hk (by omega)
  | 0, i, k + 1, hd, hk, hj => by
    simp only [join_asked.l0]
    rw [if_neg (by omega), if_pos]
    intro t ht
    obtain ⟨j, hj1, rfl⟩ := List.getElem_of_mem ht
    rw [← rd_of hj1]; exact hj j (by omega)
  | d + 1, i, k + 1, hd, hk, hj => by
    have hi : i < ts.length := by omega
    simp only [join_asked.l0]
    rw [if_pos (by omega), if_pos (by omega), if_pos (by omega)]
    by_cases h1 : rd ts i < 0
    · rw [if_pos h1, if_neg]
      intro z; have := z _ (List.getElem_mem hi); rw [← rd_of hi] at this; omega
    rw [if_neg h1]
    by_cases h2 : rd ts i ≥ l.length
    · rw [if_pos h2, if_neg]
      intro z; have := z _ (List.getElem_mem hi); rw [← rd_of hi] at this; omega
    rw [if_neg h2, wrap_succ i (by omega)]
    refine asked_l0 l ts hl d (i + 1) k (by omega) (by omega) (fun j h => ?_)
    by_cases e : j = i
    · subst e; exact ⟨by omega, by omega⟩
    · exact hj j (by omega)
def askE (l ts : List Int) : Int := if May l then (if inside l ts then 0 else 2) else 8
theorem asked_ev (l ts : List Int) (hl : l.length ≤ 1000000) (ht : ts.length ≤ 1000000) : Ev (fun k => join_asked.f k l ts) (askE l ts) := by
  obtain ⟨K, h⟩ := check_ev l hl
  refine ⟨max K (ts.length + 1), fun k hk => ?_⟩
  dsimp only at h ⊢
  unfold join_asked.f askE
  rw [h k (by omega), Option.bind_some]
  by_cases m : May l
  · rw [if_pos m, if_pos rfl, if_pos m]; exact asked_l0 l ts ht ts.length 0 k (by omega) (by omega) (fun j h => absurd h (by omega))
  · rw [if_neg m, if_neg m]; rfl

/-! ### Told flat, one head instead of another -/
def turn (a b x : Int) : Int := if x = a then b else x
def flatS (l : List Int) (a b : Int) : List Int := (List.range l.length).map fun j => turn a b (hd l j)
theorem flatS_length (l : List Int) (a b : Int) : (flatS l a b).length = l.length := by simp [flatS]
theorem rd_flatS (l : List Int) (a b : Int) (j : Nat) (h : j < l.length) : rd (flatS l a b) j = turn a b (hd l j) := by
  unfold rd flatS; simp [List.getD_eq_getElem?_getD, h]
theorem turn_turn (a b x : Int) : turn a b (turn a b x) = turn a b x := by
  unfold turn
  by_cases h : x = a
  · rw [if_pos h]; split <;> rfl
  · rw [if_neg h, if_neg h]
theorem rd_set (xs : List Int) (i : Nat) (v : Int) (j : Nat) : rd (xs.set i v) j = if i = j ∧ j < xs.length then v else rd xs j := by
  unfold rd
  simp only [Int.toNat_natCast, List.getD_eq_getElem?_getD, List.getElem?_set]
  by_cases e : i = j
  · subst e
    by_cases h : i < xs.length
    · simp [h]
    · simp [h]
  · simp [e]
theorem upto_rd {l : List Int} (hm : May l) (a b : Int) : ∀ i, i ≤ l.length → ∀ j, j < i → rd (join_flat.upto l a b i) j = turn a b (hd l j)
  | 0, _, j, hj => absurd hj (by omega)
  | i + 1, hi, j, hj => by
    have ih := upto_rd hm a b i (by omega)
    have hlen := join_flat.upto_length l a b i
    have hmi := hm i (by omega)
    rw [join_flat.upto]
    unfold join_flat.step
    obtain ⟨out, hout⟩ : ∃ out, out = join_flat.upto l a b i := ⟨_, rfl⟩
    rw [← hout] at ih hlen ⊢
    clear hout
    have main : ∀ o : List Int, o.length = l.length → (∀ j, j < i → rd o j = turn a b (hd l j)) → turn a b (rd o i) = turn a b (hd l i) → rd (if rd o i = a then o.set i b else o) j = turn a b (hd l j) := by
      intro o ho hjs hoi
      by_cases e : j = i
      · subst e
        by_cases f : rd o j = a
        · rw [if_pos f, rd_set, if_pos ⟨rfl, by omega⟩, ← hoi, turn, if_pos f]
        · rw [if_neg f, ← hoi, turn, if_neg f]
      · have hji : j < i := by omega
        by_cases f : rd o i = a
        · rw [if_pos f, rd_set, if_neg (by omega)]; exact hjs j hji
        · rw [if_neg f]; exact hjs j hji
    by_cases h : rd l i = i
    · rw [if_pos h]
      refine main _ (by simp [hlen]) (fun j hj => by rw [rd_set, if_neg (by omega)]; exact ih j hj) ?_
      rw [rd_set, if_pos ⟨rfl, by omega⟩, hd_own h]
    · rw [if_neg h]
      obtain ⟨e, hlt⟩ := hd_next hmi h
      refine main _ (by simp [hlen]) (fun j hj => by rw [rd_set, if_neg (by omega), rd_set, if_neg (by omega)]; exact ih j hj) ?_
      rw [rd_set, if_pos ⟨rfl, by simp; omega⟩]
      have : rd (out.set i (i : Int)) (rd l i) = turn a b (hd l (rd l i).toNat) := by
        rw [← Int.toNat_of_nonneg hmi.1, rd_set, if_neg (by omega)]
        rw [Int.toNat_natCast]
        exact ih _ hlt
      rw [this, turn_turn, e]
theorem ext_rd {xs ys : List Int} (hl : xs.length = ys.length) (h : ∀ j, j < xs.length → rd xs j = rd ys j) : xs = ys := by
  apply List.ext_getElem hl
  intro j h1 h2
  have := h j h1
  rwa [rd_of h1, rd_of h2] at this
theorem flat_f {l : List Int} (hm : May l) (hl : l.length ≤ 1000000) (a b : Int) : join_flat.f l a b = some (flatS l a b) := by
  unfold join_flat.f
  rw [if_pos (show join_flat.Ok l from ⟨by omega, fun i hi => by have := hm i hi; exact ⟨this.1, by have := this.2; omega⟩⟩)]
  congr 1
  refine ext_rd (by rw [join_flat.upto_length, flatS_length]) (fun j hj => ?_)
  rw [join_flat.upto_length] at hj
  rw [upto_rd hm a b _ (Nat.le_refl _) j hj, rd_flatS l a b j hj]
end Go.Proofs.Ytdmklkajjddkkaa.Pl
