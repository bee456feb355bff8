/- What each function of join, and each of the document's, answers: the same. No Go, no memory. -/
import Derived.Test.YtdmklkajjddkkaaJoinPl
set_option linter.unusedVariables false
set_option linter.unusedSimpArgs false
namespace Go.Proofs.Ytdmklkajjddkkaa.Pl
open Go.RowKit Go.Proofs.Ytdmklkajjddkkaa.X Go.Proofs.YtdmklkajjddkkaaW.PrintWords Go.Proofs.YtdmklkajjddkkaaW.PrintLast

theorem Ev.get {α : Type} {g : Nat → Option α} {r : α} (h : Ev g r) : ∃ K, ∀ k, K ≤ k → g k = some r := h
def HeadR (l : List Int) (a : Int) : Int × Int := if May l then (if inside l [a] then ((hd l a.toNat : Int), 0) else (0, 2)) else (0, 8)
def FlatR (l : List Int) : List Int × Int := if May l then (flatS l 0 0, 0) else ([], 8)
def JoinR (l : List Int) (a b : Int) : List Int × Int :=
  if May l then (if inside l [a, b] then (flatS l (mx (hd l a.toNat) (hd l b.toNat)) (mn (hd l a.toNat) (hd l b.toNat)), 0) else ([], 2)) else ([], 8)
def cnt (l : List Int) : Nat → Nat
  | 0 => 0
  | i + 1 => cnt l i + if rd l i = i then 1 else 0
def CountR (l : List Int) : Int × Int := if May l then ((cnt l l.length : Int), 0) else (0, 8)
theorem inside_one {l : List Int} {a : Int} : inside l [a] ↔ 0 ≤ a ∧ a < l.length := by simp [inside]
theorem inside_two {l : List Int} {a b : Int} : inside l [a, b] ↔ (0 ≤ a ∧ a < l.length) ∧ (0 ≤ b ∧ b < l.length) := by simp [inside]

theorem joinHead_ev (l : List Int) (hl : l.length ≤ 1000000) (a : Int) : Ev (fun k => join_Head.f k l a) (HeadR l a) := by
  obtain ⟨K, h⟩ := Ev.get (asked_ev l [a] hl (by simp))
  unfold HeadR
  by_cases m : May l
  · by_cases i : inside l [a]
    · obtain ⟨K', h'⟩ := Ev.get (head_ev m a (inside_one.1 i).1 (inside_one.1 i).2)
      refine ⟨max K K', fun k hk => ?_⟩
      dsimp only at h h' ⊢
      unfold join_Head.f
      rw [h k (by omega), Option.bind_some, askE, if_pos m, if_pos i, if_pos rfl, h' k (by omega), if_pos m, if_pos i]; rfl
    · refine ⟨K, fun k hk => ?_⟩
      dsimp only at h ⊢
      unfold join_Head.f
      rw [h k (by omega), Option.bind_some, askE, if_pos m, if_neg i, if_pos m, if_neg i]; rfl
  · refine ⟨K, fun k hk => ?_⟩
    dsimp only at h ⊢
    unfold join_Head.f
    rw [h k (by omega), Option.bind_some, askE, if_neg m, if_neg m]; rfl
theorem refHead_ev (l : List Int) (hl : l.length ≤ 1000000) (a : Int) : Ev (fun k => fescueref21_Head.f k l a) (HeadR l a) := by
  obtain ⟨K, h⟩ := Ev.get (may_ev l hl)
  unfold HeadR
  by_cases m : May l
  · by_cases i : inside l [a]
    · obtain ⟨i0, i1⟩ := inside_one.1 i
      obtain ⟨K', h'⟩ := Ev.get (headOf_ev m a i0 i1)
      refine ⟨max K K', fun k hk => ?_⟩
      dsimp only at h h' ⊢
      unfold fescueref21_Head.f
      rw [h k (by omega), Option.bind_some, decide_eq_true m, if_pos rfl, if_neg (by omega), if_neg (by omega), h' k (by omega), if_pos m, if_pos i]; rfl
    · refine ⟨K, fun k hk => ?_⟩
      dsimp only at h ⊢
      unfold fescueref21_Head.f
      rw [h k (by omega), Option.bind_some, decide_eq_true m, if_pos rfl, if_pos m, if_neg i]
      rw [inside_one] at i
      by_cases c : a < 0
      · rw [if_pos c]
      · rw [if_neg c, if_pos (by omega)]
  · refine ⟨K, fun k hk => ?_⟩
    dsimp only at h ⊢
    unfold fescueref21_Head.f
    rw [h k (by omega), Option.bind_some, decide_eq_false m, if_neg (by simp), if_neg m]
theorem joinFlat_ev (l : List Int) (hl : l.length ≤ 1000000) : Ev (fun k => join_Flat.f k l) (FlatR l) := by
  obtain ⟨K, h⟩ := Ev.get (asked_ev l [] hl (by simp))
  unfold FlatR
  refine ⟨K, fun k hk => ?_⟩
  dsimp only at h ⊢
  unfold join_Flat.f
  rw [h k (by omega), Option.bind_some, askE]
  by_cases m : May l
  · rw [if_pos m, if_pos (show inside l [] by simp [inside]), if_pos rfl, flat_f m hl, if_pos m]; rfl
  · rw [if_neg m, if_neg m]; rfl
theorem refFlat_l0 {l : List Int} (hm : May l) (hl : l.length ≤ 1000000) : ∀ (d i k : Nat) (o : List Int), i + d = l.length → d + l.length < k → o.length = l.length → (∀ j : Nat, j < i → rd o j = hd l j) →
    fescueref21_Flat.l0 k l o i = some (flatS l 0 0, 0)
  | d, i, 0, _, _, hk, _, _ => absurd hk (by omega)
  | 0, i, k + 1, o , hdd, hk, ho, hj => by
    simp only [fescueref21_Flat.l0]
    rw [if_neg (by omega)]
    congr 2
    refine ext_rd (by rw [ho, flatS_length]) (fun j h => ?_)
    rw [hj j (by omega), rd_flatS l 0 0 j (by omega), turn]
    split <;> simp_all
  | d + 1, i, k + 1, o , hdd, hk, ho, hj => by
    simp only [fescueref21_Flat.l0]
    have z := (headOf_l0 hm i k (by omega) (by omega)).1
    rw [if_pos (by omega), show fescueref21_HeadOf.f k l i = _ from z, Option.bind_some, if_pos (by omega), if_pos (by omega), wrap_succ i (by omega)]
    refine refFlat_l0 hm hl d (i + 1) k _ (by omega) (by omega) (by simp [ho]) (fun j h => ?_)
    rw [Int.toNat_natCast, rd_set]
    by_cases e : i = j
    · subst e; rw [if_pos ⟨rfl, by omega⟩]
    · rw [if_neg (by omega)]; exact hj j (by omega)
theorem refFlat_ev (l : List Int) (hl : l.length ≤ 1000000) : Ev (fun k => fescueref21_Flat.f k l) (FlatR l) := by
  obtain ⟨K, h⟩ := Ev.get (may_ev l hl)
  unfold FlatR
  refine ⟨max K (l.length + l.length + 1), fun k hk => ?_⟩
  dsimp only at h ⊢
  unfold fescueref21_Flat.f
  rw [h k (by omega), Option.bind_some]
  by_cases m : May l
  · rw [decide_eq_true m, if_pos rfl, if_pos (by omega), if_pos (by omega), if_pos m]
    exact refFlat_l0 m hl l.length 0 k _ (by omega) (by omega) (by simp) (fun j h => absurd h (by omega))
  · rw [decide_eq_false m, if_neg (by simp), if_neg m]
theorem joinJoin_ev (l : List Int) (hl : l.length ≤ 1000000) (a b : Int) : Ev (fun k => join_Join.f k l a b) (JoinR l a b) := by
  obtain ⟨K, h⟩ := Ev.get (asked_ev l [a, b] hl (by simp))
  unfold JoinR
  by_cases m : May l
  · by_cases i : inside l [a, b]
    · obtain ⟨i1, i2⟩ := inside_two.1 i
      obtain ⟨K', h'⟩ := Ev.get (head_ev m a i1.1 i1.2)
      obtain ⟨K2, h2⟩ := Ev.get (head_ev m b i2.1 i2.2)
      refine ⟨max K (max K' K2), fun k hk => ?_⟩
      dsimp only at h h' h2 ⊢
      unfold join_Join.f
      rw [h k (by omega), Option.bind_some, askE, if_pos m, if_pos i, if_pos rfl, h' k (by omega), Option.bind_some, h2 k (by omega), Option.bind_some, flat_f m hl, if_pos m, if_pos i]; rfl
    · refine ⟨K, fun k hk => ?_⟩
      dsimp only at h ⊢
      unfold join_Join.f
      rw [h k (by omega), Option.bind_some, askE, if_pos m, if_neg i, if_pos m, if_neg i]; rfl
  · refine ⟨K, fun k hk => ?_⟩
    dsimp only at h ⊢
    unfold join_Join.f
    rw [h k (by omega), Option.bind_some, askE, if_neg m, if_neg m]; rfl
theorem refJoined_l0 {l : List Int} (hm : May l) (hl : l.length ≤ 1000000) (x y : Int) : ∀ (d i k : Nat) (o : List Int), i + d = l.length → d + l.length < k → o.length = l.length → (∀ j : Nat, j < i → rd o j = turn (mx x y) (mn x y) (hd l j)) →
    fescueref21_Joined.l0 k l x y o i = some (flatS l (mx x y) (mn x y))
  | d, i, 0, _, _, hk, _, _ => absurd hk (by omega)
  | 0, i, k + 1, o , hdd, hk, ho, hj => by
    simp only [fescueref21_Joined.l0]
    rw [if_neg (by omega)]
    congr 1
    refine ext_rd (by rw [ho, flatS_length]) (fun j h => ?_)
    rw [hj j (by omega), rd_flatS l _ _ j (by omega)]
  | d + 1, i, k + 1, o , hdd, hk, ho, hj => by
    simp only [fescueref21_Joined.l0]
    have z := (headOf_l0 hm i k (by omega) (by omega)).1
    rw [if_pos (by omega), show fescueref21_HeadOf.f k l i = _ from z, Option.bind_some, if_pos (by omega), if_pos (by omega), Option.bind_some, wrap_succ i (by omega)]
    rw [Int.toNat_natCast]
    have hr : rd (o.set i (hd l i : Int)) (i : Int) = hd l i := by rw [rd_set, if_pos ⟨rfl, by omega⟩]
    by_cases f : rd (o.set i (hd l i : Int)) (i : Int) = mx x y
    · rw [if_pos f]
      refine refJoined_l0 hm hl x y d (i + 1) k _ (by omega) (by omega) (by simp [ho]) (fun j h => ?_)
      rw [rd_set]
      by_cases e : i = j
      · subst e
        rw [hr] at f
        rw [if_pos ⟨rfl, by simp; omega⟩, turn, if_pos f]
      · rw [if_neg (by omega), rd_set, if_neg (by omega)]; exact hj j (by omega)
    · rw [if_neg f]
      refine refJoined_l0 hm hl x y d (i + 1) k _ (by omega) (by omega) (by simp [ho]) (fun j h => ?_)
      by_cases e : i = j
      · subst e
        rw [hr] at f ⊢
        rw [turn, if_neg f]
      · rw [rd_set, if_neg (by omega)]; exact hj j (by omega)
theorem refJoin_ev (l : List Int) (hl : l.length ≤ 1000000) (a b : Int) : Ev (fun k => fescueref21_Join.f k l a b) (JoinR l a b) := by
  obtain ⟨K, h⟩ := Ev.get (may_ev l hl)
  unfold JoinR
  by_cases m : May l
  · by_cases i : inside l [a, b]
    · obtain ⟨i1, i2⟩ := inside_two.1 i
      obtain ⟨K', h'⟩ := Ev.get (headOf_ev m a i1.1 i1.2)
      obtain ⟨K2, h2⟩ := Ev.get (headOf_ev m b i2.1 i2.2)
      refine ⟨max K (max K' (max K2 (l.length + l.length + 1))), fun k hk => ?_⟩
      dsimp only at h h' h2 ⊢
      unfold fescueref21_Join.f fescueref21_Joined.f
      rw [h k (by omega), Option.bind_some, decide_eq_true m, if_pos rfl, if_neg (by omega), if_neg (by omega), if_neg (by omega), if_neg (by omega), h' k (by omega), Option.bind_some, h2 k (by omega), Option.bind_some, if_pos (by omega), if_pos (by omega), if_pos m, if_pos i]
      rw [show fescueref21_Joined.l0 k l (hd l a.toNat) (hd l b.toNat) _ 0 = _ from refJoined_l0 m hl _ _ l.length 0 k _ (by omega) (by omega) (by simp) (fun j h => absurd h (by omega))]; rfl
    · refine ⟨K, fun k hk => ?_⟩
      dsimp only at h ⊢
      unfold fescueref21_Join.f
      rw [h k (by omega), Option.bind_some, decide_eq_true m, if_pos rfl, if_pos m, if_neg i]
      rw [inside_two] at i
      by_cases c : a < 0
      · rw [if_pos c]
      rw [if_neg c]
      by_cases c : b < 0
      · rw [if_pos c]
      rw [if_neg c]
      by_cases c : a ≥ l.length
      · rw [if_pos c]
      rw [if_neg c, if_pos (by omega)]
  · refine ⟨K, fun k hk => ?_⟩
    dsimp only at h ⊢
    unfold fescueref21_Join.f
    rw [h k (by omega), Option.bind_some, decide_eq_false m, if_neg (by simp), if_neg m]
theorem cnt_le (l : List Int) : ∀ i, cnt l i ≤ i
  | 0 => by simp [cnt]
  | i + 1 => by have := cnt_le l i; rw [cnt]; split <;> omega
theorem joinCount_l0 (l : List Int) (hl : l.length ≤ 1000000) : ∀ (d i k : Nat), i + d = l.length → d < k → join_Count.l0 k (cnt l i) l l.length i = some ((cnt l l.length : Int), 0) ∧ fescueref21_Count.l0 k l (cnt l i) i = some ((cnt l l.length : Int), 0)
  | d, i, 0, _, hk => absurd hk (by omega)
  | 0, i, k + 1 , hdd, hk => by
    simp only [join_Count.l0, fescueref21_Count.l0]
    obtain rfl : i = l.length := by omega
    rw [if_neg (by omega), if_neg (by omega)]; exact ⟨rfl, rfl⟩
  | d + 1, i, k + 1 , hdd, hk => by
    have hc := cnt_le l i
    have ih := joinCount_l0 l hl d (i + 1) k (by omega) (by omega)
    simp only [join_Count.l0, fescueref21_Count.l0]
    rw [cnt] at ih
    have w1 := wrap_succ i (by omega)
    have w2 := wrap_succ (cnt l i) (by omega)
    have h0 : (i : Int) < (l.length : Int) := by omega
    have h1 : (0 : Int) ≤ (i : Int) := by omega
    rw [if_pos h0, if_pos h1, if_pos h0, if_pos h0, if_pos h1, w1, w2]
    by_cases e : rd l i = i
    · rw [if_pos e.symm, if_pos e]; rw [if_pos e] at ih; exact ih
    · rw [if_neg (fun h : (i : Int) = rd l i => e h.symm), if_neg e]; rw [if_neg e] at ih; exact ih
theorem joinCount_ev (l : List Int) (hl : l.length ≤ 1000000) : Ev (fun k => join_Count.f k l) (CountR l) := by
  obtain ⟨K, h⟩ := Ev.get (asked_ev l [] hl (by simp))
  unfold CountR
  refine ⟨max K (l.length + 1), fun k hk => ?_⟩
  dsimp only at h ⊢
  unfold join_Count.f
  rw [h k (by omega), Option.bind_some, askE]
  by_cases m : May l
  · rw [if_pos m, if_pos (show inside l [] by simp [inside]), if_pos rfl, if_pos m]; exact (joinCount_l0 l hl l.length 0 k (by omega) (by omega)).1
  · rw [if_neg m, if_neg m]; rfl
theorem refCount_ev (l : List Int) (hl : l.length ≤ 1000000) : Ev (fun k => fescueref21_Count.f k l) (CountR l) := by
  obtain ⟨K, h⟩ := Ev.get (may_ev l hl)
  unfold CountR
  refine ⟨max K (l.length + 1), fun k hk => ?_⟩
  dsimp only at h ⊢
  unfold fescueref21_Count.f
  rw [h k (by omega), Option.bind_some]
  by_cases m : May l
  · rw [decide_eq_true m, if_pos rfl, if_pos m]; exact (joinCount_l0 l hl l.length 0 k (by omega) (by omega)).2
  · rw [decide_eq_false m, if_neg (by simp), if_neg m]
theorem refCheck_ev (l : List Int) (hl : l.length ≤ 1000000) : Ev (fun k => fescueref21_Check.f k l) (if May l then 0 else 8) := by
  obtain ⟨K, h⟩ := Ev.get (may_ev l hl)
  refine ⟨K, fun k hk => ?_⟩
  dsimp only at h ⊢
  unfold fescueref21_Check.f
  rw [h k (by omega), Option.bind_some]
  by_cases m : May l
  · rw [decide_eq_true m, if_pos rfl, if_pos m]
  · rw [decide_eq_false m, if_neg (by simp), if_neg m]
/-! ### The same lists -/
theorem same_l0 (xs ys : List Int) (hl : xs.length ≤ 1000000) (hy : ys.length = xs.length) : ∀ (d i k : Nat), i + d = xs.length → d < k → (∀ j, j < i → rd xs j = rd ys j) → fescueref02_SameInts.l0 k xs ys i = some (decide (xs = ys))
  | d, i, 0, _, hk, _ => absurd hk (by omega)
  | 0, i, k + 1 , hdd, hk, hj => by
    simp only [fescueref02_SameInts.l0]
    rw [if_neg (by omega), decide_eq_true (ext_rd hy.symm (fun j h => hj j (by omega)))]
  | d + 1, i, k + 1 , hdd, hk, hj => by
    simp only [fescueref02_SameInts.l0]
    rw [if_pos (by omega), if_pos (by omega), if_pos (by omega), wrap_succ i (by omega)]
    by_cases e : rd xs i = rd ys i
    · rw [if_pos e]
      refine same_l0 xs ys hl hy d (i + 1) k (by omega) (by omega) (fun j h => ?_)
      by_cases f : j = i
      · subst f; exact e
      · exact hj j (by omega)
    · rw [if_neg e, decide_eq_false (fun h => e (by rw [h]))]
theorem same_ev (xs ys : List Int) (hl : xs.length ≤ 1000000) : Ev (fun k => fescueref02_SameInts.f k xs ys) (decide (xs = ys)) := by
  refine ⟨xs.length + 1, fun k hk => ?_⟩
  dsimp only
  unfold fescueref02_SameInts.f
  by_cases e : (xs.length : Int) = ys.length
  · rw [if_pos e]; exact same_l0 xs ys hl (by omega) xs.length 0 k (by omega) (by omega) (fun j h => absurd h (by omega))
  · rw [if_neg e, decide_eq_false (fun h => e (by rw [h]))]
/-! ### New ones -/
def upTo (n : Nat) : List Int := (List.range n).map Int.ofNat
theorem upTo_length (n : Nat) : (upTo n).length = n := by simp [upTo]
theorem rd_upTo (n j : Nat) (h : j < n) : rd (upTo n) j = j := by unfold rd upTo; simp [List.getD_eq_getElem?_getD, h]
def NewR (n : Int) : List Int × Int := if n < 0 ∨ n > 100000 then ([], 2) else (upTo n.toNat, 0)
theorem joinNew_l0 (n : Nat) (hn : n ≤ 100000) : ∀ (d i k : Nat), i + d = n → d < k → join_New.l0 k (upTo i) n i = some (upTo n, 0)
  | d, i, 0, _, hk => absurd hk (by omega)
  | 0, i, k + 1 , hdd, hk => by
    simp only [join_New.l0]
    rw [if_neg (by omega), show i = n by omega]
  | d + 1, i, k + 1 , hdd, hk => by
    simp only [join_New.l0]
    rw [if_pos (by omega), if_pos (by rw [upTo_length]; omega), wrap_succ i (by omega)]
    have : upTo i ++ [(i : Int)] = upTo (i + 1) := by simp [upTo, List.range_succ]
    rw [this]
    exact joinNew_l0 n hn d (i + 1) k (by omega) (by omega)
theorem refNew_l0 (n : Nat) (hn : n ≤ 100000) : ∀ (d i k : Nat) (o : List Int), i + d = n → d < k → o.length = n → (∀ j : Nat, j < i → rd o j = j) → fescueref21_New.l0 k n o i = some (upTo n, 0)
  | d, i, 0, _, _, hk, _, _ => absurd hk (by omega)
  | 0, i, k + 1, o , hdd, hk, ho, hj => by
    simp only [fescueref21_New.l0]
    rw [if_neg (by omega)]
    congr 2
    refine ext_rd (by rw [ho, upTo_length]) (fun j h => by rw [hj j (by omega), rd_upTo n j (by omega)])
  | d + 1, i, k + 1, o , hdd, hk, ho, hj => by
    simp only [fescueref21_New.l0]
    rw [if_pos (by omega), if_pos (by omega), if_pos (by omega), wrap_succ i (by omega)]
    refine refNew_l0 n hn d (i + 1) k _ (by omega) (by omega) (by simp [ho]) (fun j h => ?_)
    rw [Int.toNat_natCast, rd_set]
    by_cases e : i = j
    · subst e; rw [if_pos ⟨rfl, by omega⟩]
    · rw [if_neg (by omega)]; exact hj j (by omega)
theorem joinNew_ev (n : Int) : Ev (fun k => join_New.f k n) (NewR n) := by
  unfold NewR
  refine ⟨n.toNat + 2, fun k hk => ?_⟩
  dsimp only
  obtain ⟨k, rfl⟩ : ∃ m, k = m + 1 := ⟨k - 1, by omega⟩
  unfold join_New.f
  by_cases h : n < 0
  · rw [if_pos h, if_pos (Or.inl h)]; simp [join_New.j0]
  rw [if_neg h]
  by_cases h2 : n > 100000
  · rw [decide_eq_true h2, if_pos (Or.inr h2)]; simp [join_New.j0]
  · rw [decide_eq_false h2, if_neg (by omega)]
    simp only [join_New.j0]
    rw [if_neg (by simp)]
    have := joinNew_l0 n.toNat (by omega) n.toNat 0 k (by omega) (by omega)
    rw [Int.toNat_of_nonneg (by omega)] at this
    exact this
theorem refNew_ev (n : Int) : Ev (fun k => fescueref21_New.f k n) (NewR n) := by
  unfold NewR
  refine ⟨n.toNat + 2, fun k hk => ?_⟩
  dsimp only
  obtain ⟨k, rfl⟩ : ∃ m, k = m + 1 := ⟨k - 1, by omega⟩
  unfold fescueref21_New.f
  by_cases h : n < 0
  · rw [if_pos h, if_pos (Or.inl h)]; simp [fescueref21_New.j0]
  rw [if_neg h]
  by_cases h2 : n > 100000
  · rw [decide_eq_true h2, if_pos (Or.inr h2)]; simp [fescueref21_New.j0]
  · rw [decide_eq_false h2, if_neg (by omega)]
    simp only [fescueref21_New.j0]
    rw [if_neg (by simp), if_pos (by omega), if_pos (by omega)]
    have := refNew_l0 n.toNat (by omega) n.toNat 0 k (List.replicate n.toNat 0) (by omega) (by omega) (by simp) (fun j h => absurd h (by omega))
    rw [Int.toNat_of_nonneg (by omega)] at this
    exact this
end Go.Proofs.Ytdmklkajjddkkaa.Pl
