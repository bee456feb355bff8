/- The laws of classes put together, as statements over numbers and lists. -/
import Derived.Test.YtdmklkajjddkkaaJoinPl2
import Derived.Test.YtdmklkajjddkkaaX9
import Derived.Test.YtdmklkajjddkkaaX8
set_option linter.unusedVariables false
set_option linter.unusedSimpArgs false
namespace Go.Proofs.Ytdmklkajjddkkaa.Pl
open Go.RowKit Go.Proofs.Ytdmklkajjddkkaa.X Go.Proofs.YtdmklkajjddkkaaW.PrintWords Go.Proofs.YtdmklkajjddkkaaW.PrintLast

theorem newR_small (n : Int) (h : n ≤ 300 ∨ n > 100000) : (NewR n).1.length ≤ 1000000 := by
  unfold NewR; split
  · simp
  · simp [upTo_length]; omega
theorem joinNew_law : fescuelaw21_JoinNew.Pure := by
  intro a0 _
  have key : ∀ a0 : Int, (a0 ≤ 300 ∨ a0 > 100000) → ∃ K, ∀ k, K ≤ k → fescuelaw21_JoinNew.j0 k a0 false = some true := by
    intro a0 h0
    obtain ⟨K1, h1⟩ := Ev.get (joinNew_ev a0)
    obtain ⟨K2, h2⟩ := Ev.get (refNew_ev a0)
    obtain ⟨K3, h3⟩ := Ev.get (same_ev (NewR a0).1 (NewR a0).1 (newR_small a0 h0))
    refine ⟨K1 + K2 + K3 + 1, fun k hk => ?_⟩
    obtain ⟨k, rfl⟩ : ∃ m, k = m + 1 := ⟨k - 1, by omega⟩
    simp only [fescuelaw21_JoinNew.j0]
    rw [if_neg (by simp), h1 k (by omega), Option.bind_some, h2 k (by omega), Option.bind_some, h3 k (by omega), Option.bind_some]
    simp
  by_cases h : a0 > 300
  · by_cases h' : a0 ≤ 100000
    · refine ⟨1, ?_⟩
      unfold fescuelaw21_JoinNew.f
      rw [if_pos h, decide_eq_true h']; simp [fescuelaw21_JoinNew.j0]
    · obtain ⟨K, hK⟩ := key a0 (Or.inr (by omega))
      refine ⟨K, ?_⟩
      unfold fescuelaw21_JoinNew.f
      rw [if_pos h, decide_eq_false h']; exact hK K (Nat.le_refl _)
  · obtain ⟨K, hK⟩ := key a0 (Or.inl (by omega))
    refine ⟨K, ?_⟩
    unfold fescuelaw21_JoinNew.f
    rw [if_neg h]; exact hK K (Nat.le_refl _)

theorem flatR_len (l : List Int) : (FlatR l).1.length ≤ l.length := by
  unfold FlatR; split
  · simp [flatS_length]
  · simp
theorem joinR_len (l : List Int) (a b : Int) : (JoinR l a b).1.length ≤ l.length := by
  unfold JoinR; split
  · split
    · simp [flatS_length]
    · simp
  · simp
theorem tells_l1 (x0 x7 : List Int) (h : x7 = x0) (hl : x0.length ≤ 1000000) : ∀ (d : Nat), ∃ K, ∀ (k i : Nat) (o : List Int), o.length ≤ 1000000 → i + d = o.length → K ≤ k → fescuelaw21_JoinTells.l1 k x0 x7 o true i = some true
  | 0 => by
    obtain ⟨K, hs⟩ := Ev.get (same_ev x7 x0 (by rw [h]; exact hl))
    refine ⟨K + 1, fun k i o ho hi hk => ?_⟩
    obtain ⟨k, rfl⟩ : ∃ m, k = m + 1 := ⟨k - 1, by omega⟩
    simp only [fescuelaw21_JoinTells.l1]
    rw [if_neg (by omega), if_pos trivial, hs k (by omega), decide_eq_true h]; rfl
  | d + 1 => by
    obtain ⟨K, hs⟩ := tells_l1 x0 x7 h hl d
    refine ⟨K + 1, fun k i o ho hi hk => ?_⟩
    obtain ⟨k, rfl⟩ : ∃ m, k = m + 1 := ⟨k - 1, by omega⟩
    simp only [fescuelaw21_JoinTells.l1]
    rw [if_pos (by omega), if_pos (by omega), wrap_succ i (by omega)]
    exact hs k (i + 1) _ (by simp; omega) (by simp; omega) (by omega)
theorem tells_l0 (x0 x7 x16 : List Int) (h : x7 = x0) (hl : x0.length ≤ 1000000) (h16 : x16.length ≤ 1000000) : ∀ (d : Nat), ∃ K, ∀ (k i : Nat) (o : List Int), o.length ≤ 1000000 → i + d = o.length → K ≤ k → fescuelaw21_JoinTells.l0 k x0 x7 o x16 true i = some true
  | 0 => by
    obtain ⟨K, hs⟩ := tells_l1 x0 x7 h hl x16.length
    refine ⟨K + 1, fun k i o ho hi hk => ?_⟩
    obtain ⟨k, rfl⟩ : ∃ m, k = m + 1 := ⟨k - 1, by omega⟩
    simp only [fescuelaw21_JoinTells.l0]
    rw [if_neg (by omega)]
    exact hs k 0 x16 h16 (by omega) (by omega)
  | d + 1 => by
    obtain ⟨K, hs⟩ := tells_l0 x0 x7 x16 h hl h16 d
    refine ⟨K + 1, fun k i o ho hi hk => ?_⟩
    obtain ⟨k, rfl⟩ : ∃ m, k = m + 1 := ⟨k - 1, by omega⟩
    simp only [fescuelaw21_JoinTells.l0]
    rw [if_pos (by omega), if_pos (by omega), wrap_succ i (by omega)]
    exact hs k (i + 1) _ (by simp; omega) (by simp; omega) (by omega)
theorem joinTells_law : fescuelaw21_JoinTells.Pure := by
  intro l a b _ _ _ _ _
  by_cases h : (l.length : Int) > 200
  · exact ⟨0, by unfold fescuelaw21_JoinTells.f; rw [if_pos h]⟩
  have hl : l.length ≤ 1000000 := by omega
  obtain ⟨K1, h1⟩ := Ev.get (joinHead_ev l hl a)
  obtain ⟨K2, h2⟩ := Ev.get (refHead_ev l hl a)
  obtain ⟨K3, h3⟩ := Ev.get (joinFlat_ev l hl)
  obtain ⟨K4, h4⟩ := Ev.get (refFlat_ev l hl)
  obtain ⟨K5, h5⟩ := Ev.get (joinJoin_ev l hl a b)
  obtain ⟨K6, h6⟩ := Ev.get (refJoin_ev l hl a b)
  obtain ⟨K7, h7⟩ := Ev.get (joinCount_ev l hl)
  obtain ⟨K8, h8⟩ := Ev.get (refCount_ev l hl)
  obtain ⟨K9, h9⟩ := Ev.get (check_ev l hl)
  obtain ⟨K10, h10⟩ := Ev.get (refCheck_ev l hl)
  obtain ⟨K11, h11⟩ := Ev.get (same_ev (FlatR l).1 (FlatR l).1 (by have := flatR_len l; omega))
  obtain ⟨K12, h12⟩ := Ev.get (same_ev (JoinR l a b).1 (JoinR l a b).1 (by have := joinR_len l a b; omega))
  obtain ⟨K13, h13⟩ := tells_l0 l l (JoinR l a b).1 rfl hl (by have := joinR_len l a b; omega) (FlatR l).1.length
  refine ⟨K1 + K2 + K3 + K4 + K5 + K6 + K7 + K8 + K9 + K10 + K11 + K12 + K13 + 1, ?_⟩
  obtain ⟨k, hk⟩ : ∃ k, k = K1 + K2 + K3 + K4 + K5 + K6 + K7 + K8 + K9 + K10 + K11 + K12 + K13 := ⟨_, rfl⟩
  rw [← hk]
  unfold fescuelaw21_JoinTells.f
  rw [if_neg h, Option.bind_some, if_pos (by simp; omega), Option.bind_some, List.nil_append]
  rw [h1 _ (by omega), Option.bind_some, h2 _ (by omega), Option.bind_some, h3 _ (by omega), Option.bind_some, h4 _ (by omega), Option.bind_some, h5 _ (by omega), Option.bind_some, h6 _ (by omega), Option.bind_some, h7 _ (by omega), Option.bind_some, h8 _ (by omega), Option.bind_some, h9 _ (by omega), Option.bind_some, h10 _ (by omega), Option.bind_some]
  rw [if_pos rfl, if_pos rfl, if_pos rfl, h11 _ (by omega), Option.bind_some, if_pos (by simp), if_pos rfl, h12 _ (by omega), Option.bind_some, if_pos (by simp), if_pos rfl, if_pos rfl]
  rw [show ((CountR l).2 == (CountR l).2) = true by simp]
  simp only [fescuelaw21_JoinTells.j0]
  exact h13 k 0 _ (by have := flatR_len l; omega) (by omega) (by omega)

/-! ### The chapter's example -/
theorem may_upTo (n : Nat) : May (upTo n) := by
  intro i hi
  rw [upTo_length] at hi
  unfold okAt
  rw [rd_upTo n i hi]; omega
theorem alive_ev : Ev (fun k => fescuelaw21_alive.f k) true := by
  have e1 : NewR 4 = ([0, 1, 2, 3], 0) := by decide
  have e2 : JoinR [0, 1, 2, 3] 2 3 = ([0, 1, 2, 2], 0) := by
    have q0 : hd [0, 1, 2, 3] 0 = 0 := hd_own rfl
    have q1 : hd [0, 1, 2, 3] 1 = 1 := hd_own rfl
    have q2 : hd [0, 1, 2, 3] 2 = 2 := hd_own rfl
    have q3 : hd [0, 1, 2, 3] 3 = 3 := hd_own rfl
    unfold JoinR
    rw [if_pos (by decide), if_pos (by decide)]
    simp [q0, q1, q2, q3, flatS, List.range, List.range.loop, turn, mx, mn]
  have e3 : JoinR [0, 1, 2, 2] 3 0 = ([0, 1, 0, 0], 0) := by
    have q0 : hd [0, 1, 2, 2] 0 = 0 := hd_own rfl
    have q1 : hd [0, 1, 2, 2] 1 = 1 := hd_own rfl
    have q2 : hd [0, 1, 2, 2] 2 = 2 := hd_own rfl
    have q3 : hd [0, 1, 2, 2] 3 = 2 := (hd_next (by decide) (by decide)).1.trans q2
    unfold JoinR
    rw [if_pos (by decide), if_pos (by decide)]
    simp [q0, q1, q2, q3, flatS, List.range, List.range.loop, turn, mx, mn]
  have e4 : CountR [0, 1, 0, 0] = (2, 0) := by decide
  obtain ⟨K1, h1⟩ := Ev.get (joinNew_ev 4)
  obtain ⟨K2, h2⟩ := Ev.get (joinJoin_ev [0, 1, 2, 3] (by simp) 2 3)
  obtain ⟨K3, h3⟩ := Ev.get (joinJoin_ev [0, 1, 2, 2] (by simp) 3 0)
  obtain ⟨K4, h4⟩ := Ev.get (joinCount_ev [0, 1, 0, 0] (by simp))
  obtain ⟨K5, h5⟩ := Ev.get (same_ev [0, 1, 0, 0] [0, 1, 0, 0] (by simp))
  rw [e1] at h1; rw [e2] at h2; rw [e3] at h3; rw [e4] at h4
  refine ⟨K1 + K2 + K3 + K4 + K5, fun k hk => ?_⟩
  dsimp only
  unfold fescuelaw21_alive.f
  rw [h1 _ (by omega), Option.bind_some, h2 _ (by omega), Option.bind_some, h3 _ (by omega), Option.bind_some, h4 _ (by omega), Option.bind_some]
  rw [if_pos (by decide), if_pos rfl, h5 _ (by omega), Option.bind_some]
  rfl

/-! ### A join makes one class fewer -/
theorem hd_flat {l : List Int} (hm : May l) (a b : Int) (hab : b ≤ a) (ha : a < l.length) (hb0 : 0 ≤ b) (hb : rd l b = b) :
    May (flatS l a b) ∧ ∀ j : Nat, j < l.length → (hd (flatS l a b) j : Int) = turn a b (hd l j) := by
  have t0 : ∀ j : Nat, j < l.length → 0 ≤ turn a b (hd l j) ∧ turn a b (hd l j) ≤ hd l j := by
    intro j hj; unfold turn; split <;> omega
  have hm' : May (flatS l a b) := by
    intro j hj
    rw [flatS_length] at hj
    unfold okAt
    rw [rd_flatS l a b j hj]
    have := t0 j hj; have := (hd_le hm j hj).1; omega
  refine ⟨hm', fun j => ?_⟩
  induction j using Nat.strongRecOn with
  | _ j ih =>
    intro hj
    by_cases e : rd (flatS l a b) j = j
    · rw [hd_own e, ← e, rd_flatS l a b j hj]
    · obtain ⟨e1, hlt⟩ := hd_next (hm' j (by rw [flatS_length]; exact hj)) e
      rw [e1, ih _ hlt (by omega), rd_flatS l a b j hj]
      have h1 := t0 j hj
      have h2 := (hd_le hm j hj)
      unfold turn
      by_cases f : (hd l j : Int) = a
      · rw [if_pos f]
        have hbb : hd l b.toNat = b.toNat := hd_own (by rw [Int.toNat_of_nonneg hb0]; exact hb)
        rw [hbb, Int.toNat_of_nonneg hb0]; split <;> omega
      · rw [if_neg f, Int.toNat_natCast, hd_hd hm j hj, if_neg f]
theorem cnt_flat {l : List Int} (hm : May l) (a b : Int) (hab : b ≤ a) (ha0 : 0 ≤ a) (ha : a < l.length) (hb0 : 0 ≤ b) (hb : rd l b = b) (haa : rd l a = a) : ∀ i, i ≤ l.length →
    cnt (flatS l a b) i + (if b < a ∧ a < i then 1 else 0) = cnt l i
  | 0, _ => by rw [cnt, cnt, if_neg (by omega)]
  | i + 1, hi => by
    have ih := cnt_flat hm a b hab ha0 ha hb0 hb haa i (by omega)
    rw [cnt, cnt, rd_flatS l a b i (by omega)]
    have hle := hd_le hm i (by omega)
    have own : (rd l i = i) ↔ hd l i = i := ⟨fun h => hd_own h, fun h => by have := hle.2; rw [h] at this; exact this⟩
    unfold turn
    by_cases e : (hd l i : Int) = a
    · rw [if_pos e]
      by_cases f : (i : Int) = a
      · have h1 : rd l i = i := by rw [f]; exact haa
        rw [if_pos h1]
        by_cases g : b = a
        · rw [if_pos (by omega)]; rw [if_neg (by omega)] at ih ⊢; omega
        · rw [if_neg (by omega)]; rw [if_neg (by omega)] at ih; rw [if_pos (by omega)]; omega
      · have h1 : ¬ rd l i = i := fun h => by have := own.1 h; omega
        rw [if_neg h1]
        have h2 : ¬ b = (i : Int) := fun h => by rw [← h] at h1; exact h1 (by rw [hb])
        rw [if_neg h2]
        by_cases g : b < a ∧ a < i
        · rw [if_pos g] at ih; rw [if_pos (by omega)]; omega
        · rw [if_neg g] at ih; rw [if_neg (by omega)]; omega
    · rw [if_neg e]
      have h1 : ¬ (i : Int) = a := fun h => e (by rw [own.1 (by rw [h]; exact haa)]; exact h)
      have h3 : ((hd l i : Int) = i) ↔ rd l i = i := by rw [own]; omega
      simp only [h3]
      by_cases g : b < a ∧ a < i
      · have g' : b < a ∧ a < ((i + 1 : Nat) : Int) := by omega
        rw [if_pos g] at ih; rw [if_pos g']; omega
      · have g' : ¬ (b < a ∧ a < ((i + 1 : Nat) : Int)) := by omega
        rw [if_neg g] at ih; rw [if_neg g']; omega
theorem max_min (x y : Nat) : mn (x : Int) y ≤ mx x y ∧ (mx (x : Int) y = x ∧ mn (x : Int) y = y ∨ mx (x : Int) y = y ∧ mn (x : Int) y = x) := by
  unfold mx mn; split <;> split <;> omega
theorem joined {l : List Int} (hm : May l) {a b : Int} (hi : inside l [a, b]) :
    (0 ≤ mn (hd l a.toNat) (hd l b.toNat) ∧ mn (hd l a.toNat) (hd l b.toNat) ≤ mx (hd l a.toNat) (hd l b.toNat) ∧ mx (hd l a.toNat) (hd l b.toNat) < l.length ∧
      rd l (mn (hd l a.toNat) (hd l b.toNat)) = mn (hd l a.toNat) (hd l b.toNat) ∧ rd l (mx (hd l a.toNat) (hd l b.toNat)) = mx (hd l a.toNat) (hd l b.toNat)) := by
  obtain ⟨i1, i2⟩ := inside_two.1 hi
  have h1 := hd_le hm a.toNat (by omega)
  have h2 := hd_le hm b.toNat (by omega)
  obtain ⟨hle, h⟩ := max_min (hd l a.toNat) (hd l b.toNat)
  rcases h with ⟨e1, e2⟩ | ⟨e1, e2⟩
  · rw [e1, e2] at hle ⊢; exact ⟨by omega, by omega, by omega, h2.2, h1.2⟩
  · rw [e1, e2] at hle ⊢; exact ⟨by omega, by omega, by omega, h1.2, h2.2⟩
theorem joinCounts_law : fescuelaw21_JoinCounts.Pure := by
  intro l a b _ _ _ _ _
  obtain ⟨K0, h0⟩ := Ev.get alive_ev
  by_cases h : (l.length : Int) > 200
  · refine ⟨K0 + 1, ?_⟩
    unfold fescuelaw21_JoinCounts.f
    rw [h0 _ (by omega), Option.bind_some, if_pos h]; simp [fescuelaw21_JoinCounts.j0]
  have hl : l.length ≤ 1000000 := by omega
  obtain ⟨K1, h1⟩ := Ev.get (joinJoin_ev l hl a b)
  obtain ⟨K2, h2⟩ := Ev.get (joinCount_ev l hl)
  obtain ⟨K3, h3⟩ := Ev.get (joinCount_ev (JoinR l a b).1 (by have := joinR_len l a b; omega))
  obtain ⟨K4, h4⟩ := Ev.get (joinHead_ev l hl a)
  obtain ⟨K5, h5⟩ := Ev.get (joinHead_ev l hl b)
  refine ⟨K0 + K1 + K2 + K3 + K4 + K5 + 1, ?_⟩
  obtain ⟨k, hk⟩ : ∃ k, k = K0 + K1 + K2 + K3 + K4 + K5 := ⟨_, rfl⟩
  rw [← hk]
  unfold fescuelaw21_JoinCounts.f
  rw [h0 _ (by omega), Option.bind_some, if_neg h]
  simp only [fescuelaw21_JoinCounts.j0, Bool.not_true]
  rw [if_neg (by simp), h1 _ (by omega), Option.bind_some]
  by_cases m : May l
  · by_cases i : inside l [a, b]
    · obtain ⟨i1, i2⟩ := inside_two.1 i
      have ej : JoinR l a b = (flatS l (mx (hd l a.toNat) (hd l b.toNat)) (mn (hd l a.toNat) (hd l b.toNat)), 0) := by unfold JoinR; rw [if_pos m, if_pos i]
      rw [ej] at h3 ⊢
      obtain ⟨j0, j1, j2, j3, j4⟩ := joined m i
      have hf := hd_flat m _ _ j1 j2 j0 j3
      have hc := cnt_flat m _ _ j1 (by omega) j2 j0 j3 j4 l.length (Nat.le_refl _)
      have e2 : CountR l = ((cnt l l.length : Int), 0) := by unfold CountR; rw [if_pos m]
      have e3 : CountR (flatS l (mx (hd l a.toNat) (hd l b.toNat)) (mn (hd l a.toNat) (hd l b.toNat))) = ((cnt (flatS l (mx (hd l a.toNat) (hd l b.toNat)) (mn (hd l a.toNat) (hd l b.toNat))) l.length : Int), 0) := by
        unfold CountR; rw [if_pos hf.1, flatS_length]
      have e4 : HeadR l a = ((hd l a.toNat : Int), 0) := by unfold HeadR; rw [if_pos m, if_pos (inside_one.2 i1)]
      have e5 : HeadR l b = ((hd l b.toNat : Int), 0) := by unfold HeadR; rw [if_pos m, if_pos (inside_one.2 i2)]
      rw [e2] at h2; rw [e3] at h3; rw [e4] at h4; rw [e5] at h5
      rw [if_pos rfl, h2 _ (by omega), Option.bind_some, h3 _ (by omega), Option.bind_some, h4 _ (by omega), Option.bind_some, h5 _ (by omega), Option.bind_some]
      have hle := cnt_le l l.length
      rw [if_pos trivial, if_pos rfl, if_pos rfl]
      dsimp only
      obtain ⟨_, z⟩ := max_min (hd l a.toNat) (hd l b.toNat)
      by_cases e : (hd l a.toNat : Int) = hd l b.toNat
      · rw [if_pos e, if_pos]
        rw [if_neg (by omega)] at hc; omega
      · rw [if_neg e]
        rw [if_pos (by omega)] at hc
        congr 1
        rw [beq_iff_eq]
        unfold wrap64; omega
    · have ej : JoinR l a b = ([], 2) := by unfold JoinR; rw [if_pos m, if_neg i]
      rw [ej]; rw [if_neg (by simp), if_pos trivial]; rfl
  · have ej : JoinR l a b = ([], 8) := by unfold JoinR; rw [if_neg m]
    rw [ej]; rw [if_neg (by simp), if_pos trivial]; rfl
theorem joinLeast_law : fescuelaw21_JoinLeast.Pure := by
  intro l a b _ _ _ _ _
  obtain ⟨K0, h0⟩ := Ev.get alive_ev
  by_cases h : (l.length : Int) > 200
  · refine ⟨K0 + 1, ?_⟩
    unfold fescuelaw21_JoinLeast.f
    rw [h0 _ (by omega), Option.bind_some, if_pos h]; simp [fescuelaw21_JoinLeast.j0]
  have hl : l.length ≤ 1000000 := by omega
  obtain ⟨K1, h1⟩ := Ev.get (check_ev l hl)
  by_cases m : May l
  case neg =>
    rw [if_neg m] at h1
    refine ⟨K0 + K1 + 1, ?_⟩
    unfold fescuelaw21_JoinLeast.f
    rw [h0 _ (by omega), Option.bind_some, if_neg h, h1 _ (by omega), Option.bind_some, if_neg (by decide)]; simp [fescuelaw21_JoinLeast.j0]
  rw [if_pos m] at h1
  obtain ⟨K2, h2⟩ := Ev.get (joinHead_ev l hl a)
  obtain ⟨K3, h3⟩ := Ev.get (joinHead_ev l hl b)
  obtain ⟨K4, h4⟩ := Ev.get (joinHead_ev l hl (HeadR l a).1)
  obtain ⟨K5, h5⟩ := Ev.get (joinFlat_ev l hl)
  obtain ⟨K6, h6⟩ := Ev.get (joinHead_ev (FlatR l).1 (by have := flatR_len l; omega) a)
  refine ⟨K0 + K1 + K2 + K3 + K4 + K5 + K6 + 2, ?_⟩
  obtain ⟨k, hk⟩ : ∃ k, k = K0 + K1 + K2 + K3 + K4 + K5 + K6 := ⟨_, rfl⟩
  rw [← hk]
  unfold fescuelaw21_JoinLeast.f
  rw [h0 _ (by omega), Option.bind_some, if_neg h, h1 _ (by omega), Option.bind_some, if_pos rfl]
  simp only [fescuelaw21_JoinLeast.j0, Bool.not_true]
  rw [if_neg (by simp), h2 _ (by omega), Option.bind_some, h3 _ (by omega), Option.bind_some]
  by_cases ia : inside l [a]
  case neg =>
    have e : HeadR l a = (0, 2) := by unfold HeadR; rw [if_pos m, if_neg ia]
    rw [e, if_neg (by decide)]; simp [fescuelaw21_JoinLeast.j1]
  by_cases ib : inside l [b]
  case neg =>
    have e : HeadR l b = (0, 2) := by unfold HeadR; rw [if_pos m, if_neg ib]
    have e' : HeadR l a = ((hd l a.toNat : Int), 0) := by unfold HeadR; rw [if_pos m, if_pos ia]
    rw [e, e', if_pos rfl]; simp [fescuelaw21_JoinLeast.j1]
  obtain ⟨a0, a1⟩ := inside_one.1 ia
  obtain ⟨b0, b1⟩ := inside_one.1 ib
  have ea : HeadR l a = ((hd l a.toNat : Int), 0) := by unfold HeadR; rw [if_pos m, if_pos ia]
  have eb : HeadR l b = ((hd l b.toNat : Int), 0) := by unfold HeadR; rw [if_pos m, if_pos ib]
  have la := hd_le m a.toNat (by omega)
  have lb := hd_le m b.toNat (by omega)
  have ec : HeadR l (hd l a.toNat) = ((hd l a.toNat : Int), 0) := by
    unfold HeadR; rw [if_pos m, if_pos (inside_one.2 ⟨by omega, by omega⟩), Int.toNat_natCast, hd_hd m a.toNat (by omega)]
  have ef : FlatR l = (flatS l 0 0, 0) := by unfold FlatR; rw [if_pos m]
  have hlen : 0 < l.length := by omega
  have h00 : rd l 0 = 0 := by have := m 0 hlen; unfold okAt at this; simp at this; omega
  obtain ⟨mf, hf⟩ := hd_flat m 0 0 (by omega) (by omega) (by omega) h00
  have eg : HeadR (flatS l 0 0) a = ((hd l a.toNat : Int), 0) := by
    unfold HeadR
    rw [if_pos mf, if_pos (inside_one.2 ⟨a0, by rw [flatS_length]; exact a1⟩), hf a.toNat (by omega), turn]
    split <;> simp_all
  rw [ea] at h4; rw [ec] at h4; rw [ef] at h5 h6; rw [eg] at h6
  rw [ea, eb, if_pos rfl]
  simp only [fescuelaw21_JoinLeast.j1]
  rw [if_neg (by simp), h4 _ (by omega), Option.bind_some, h5 _ (by omega), Option.bind_some, h6 _ (by omega), Option.bind_some]
  rw [if_pos trivial, if_pos rfl, if_pos rfl, if_pos (by omega)]
  have el : (((flatS l 0 0).length : Int) == (l.length : Int)) = true := by simp [flatS_length]
  by_cases e : (hd l a.toNat : Int) = hd l b.toNat
  · rw [if_pos e, if_pos (by omega), if_pos rfl, if_pos rfl, if_pos rfl, el]
  · rw [if_neg e, if_pos rfl, if_pos rfl, if_pos rfl, el]
end Go.Proofs.Ytdmklkajjddkkaa.Pl
