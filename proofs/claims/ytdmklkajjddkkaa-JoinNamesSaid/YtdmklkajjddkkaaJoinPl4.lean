/- JoinOrder and JoinNames, as statements over numbers and lists. -/
import Derived.Test.YtdmklkajjddkkaaJoinPl3
import Derived.Test.YtdmklkajjddkkaaX7
set_option linter.unusedVariables false
set_option linter.unusedSimpArgs false
namespace Go.Proofs.Ytdmklkajjddkkaa.Pl
open Go.RowKit Go.Proofs.Ytdmklkajjddkkaa.X Go.Proofs.YtdmklkajjddkkaaW.PrintWords Go.Proofs.YtdmklkajjddkkaaW.PrintLast

theorem mx_mn (x y : Int) : mn x y ≤ mx x y ∧ (mx x y = x ∧ mn x y = y ∨ mx x y = y ∧ mn x y = x) := by
  unfold mx mn; split <;> split <;> omega
theorem turn_red (M m N n z : Int) (h1 : m ≤ M) (h2 : n ≤ N) :
    turn (mx (turn M m N) (turn M m n)) (mn (turn M m N) (turn M m n)) (turn M m z) = turn (mx (turn N n M) (turn N n m)) (mn (turn N n M) (turn N n m)) (turn N n z) := by
  grind [turn, mx, mn]
theorem mx_comm (a b : Int) : mx a b = mx b a ∧ mn a b = mn b a := by
  unfold mx mn; constructor
  · split <;> split <;> omega
  · split <;> split <;> omega
theorem mx_of (T : Int → Int) (r s : Int) : mx (T r) (T s) = mx (T (mx r s)) (T (mn r s)) ∧ mn (T r) (T s) = mn (T (mx r s)) (T (mn r s)) := by
  obtain ⟨_, ⟨a, b⟩ | ⟨a, b⟩⟩ := mx_mn r s
  · rw [a, b]; exact ⟨rfl, rfl⟩
  · rw [a, b]; exact mx_comm _ _
/-- To put p and q together, then r and s, is to put r and s together, then q and p. -/
theorem turn_order (p q r s z : Int) :
    turn (mx (turn (mx p q) (mn p q) r) (turn (mx p q) (mn p q) s)) (mn (turn (mx p q) (mn p q) r) (turn (mx p q) (mn p q) s)) (turn (mx p q) (mn p q) z) =
    turn (mx (turn (mx r s) (mn r s) q) (turn (mx r s) (mn r s) p)) (mn (turn (mx r s) (mn r s) q) (turn (mx r s) (mn r s) p)) (turn (mx r s) (mn r s) z) := by
  have e1 := mx_of (fun x => turn (mx p q) (mn p q) x) r s
  have e2 := mx_of (fun x => turn (mx r s) (mn r s) x) p q
  rw [e1.1, e1.2, (mx_comm (turn (mx r s) (mn r s) q) _).1, (mx_comm (turn (mx r s) (mn r s) q) _).2, e2.1, e2.2]
  exact turn_red _ _ _ _ _ (mx_mn p q).1 (mx_mn r s).1
theorem turn_same (a x : Int) : turn a a x = x := by unfold turn; split <;> simp_all
theorem mx_self (a : Int) : mx a a = a ∧ mn a a = a := by unfold mx mn; split <;> simp
theorem flat_ext {l l' : List Int} {a b a' b' : Int} (hl : l.length = l'.length) (h : ∀ j : Nat, j < l.length → turn a b (hd l j) = turn a' b' (hd l' j)) : flatS l a b = flatS l' a' b' :=
  ext_rd (by rw [flatS_length, flatS_length, hl]) (fun j hj => by
    rw [flatS_length] at hj
    rw [rd_flatS l a b j hj, rd_flatS l' a' b' j (by omega), h j hj])
/-- What a join tells, where it tells anything. -/
theorem joinR_ok {l : List Int} (hm : May l) {a b : Int} (hi : inside l [a, b]) :
    ∃ k, JoinR l a b = (k, 0) ∧ k.length = l.length ∧ May k ∧
      (∀ j : Nat, j < l.length → (hd k j : Int) = turn (mx (hd l a.toNat) (hd l b.toNat)) (mn (hd l a.toNat) (hd l b.toNat)) (hd l j)) ∧
      (∀ j : Nat, j < l.length → rd k j = turn (mx (hd l a.toNat) (hd l b.toNat)) (mn (hd l a.toNat) (hd l b.toNat)) (hd l j)) := by
  obtain ⟨j0, j1, j2, j3, _⟩ := joined hm hi
  obtain ⟨h1, h2⟩ := hd_flat hm _ _ j1 j2 j0 j3
  refine ⟨flatS l (mx (hd l a.toNat) (hd l b.toNat)) (mn (hd l a.toNat) (hd l b.toNat)), ?_, flatS_length .., h1, h2, fun j hj => rd_flatS l _ _ j hj⟩
  unfold JoinR; rw [if_pos hm, if_pos hi]
theorem headR_ok {l : List Int} (hm : May l) {a : Int} (hi : inside l [a]) : HeadR l a = ((hd l a.toNat : Int), 0) := by unfold HeadR; rw [if_pos hm, if_pos hi]
def OrderPure : Prop := ∀ (l0 : List Int) (a1_0 a1_1 a2_0 a2_1 a3 : Int), ∃ k, fescuelaw21_JoinOrder.f k l0 a1_0 a1_1 a2_0 a2_1 a3 = some true
theorem joinOrder_law : OrderPure := by
  intro l x0 x1 y0 y1 c
  obtain ⟨K0, h0⟩ := Ev.get alive_ev
  by_cases h : (l.length : Int) > 200
  · refine ⟨K0 + 1, ?_⟩
    unfold fescuelaw21_JoinOrder.f
    rw [h0 _ (by omega), Option.bind_some, if_pos h]; simp [fescuelaw21_JoinOrder.j0]
  have hl : l.length ≤ 1000000 := by omega
  obtain ⟨K1, h1⟩ := Ev.get (check_ev l hl)
  by_cases m : May l
  case neg =>
    rw [if_neg m] at h1
    refine ⟨K0 + K1 + 1, ?_⟩
    unfold fescuelaw21_JoinOrder.f
    rw [h0 _ (by omega), Option.bind_some, if_neg h, h1 _ (by omega), Option.bind_some, if_neg (by decide)]; simp [fescuelaw21_JoinOrder.j0]
  rw [if_pos m] at h1
  obtain ⟨K2, h2⟩ := Ev.get (joinJoin_ev l hl x0 x1)
  obtain ⟨K3, h3⟩ := Ev.get (joinJoin_ev l hl y0 y1)
  by_cases ix : inside l [x0, x1]
  case neg =>
    have e : JoinR l x0 x1 = ([], 2) := by unfold JoinR; rw [if_pos m, if_neg ix]
    refine ⟨K0 + K1 + K2 + K3 + 2, ?_⟩
    unfold fescuelaw21_JoinOrder.f
    rw [h0 _ (by omega), Option.bind_some, if_neg h, h1 _ (by omega), Option.bind_some, if_pos rfl]
    simp only [fescuelaw21_JoinOrder.j0, Bool.not_true]
    rw [if_neg (by simp), h2 _ (by omega), Option.bind_some, h3 _ (by omega), Option.bind_some, e, if_neg (by decide)]
    simp [fescuelaw21_JoinOrder.j1]
  obtain ⟨a, ea, la, ma, ha, ra⟩ := joinR_ok m ix
  by_cases iy : inside l [y0, y1]
  case neg =>
    have e : JoinR l y0 y1 = ([], 2) := by unfold JoinR; rw [if_pos m, if_neg iy]
    refine ⟨K0 + K1 + K2 + K3 + 2, ?_⟩
    unfold fescuelaw21_JoinOrder.f
    rw [h0 _ (by omega), Option.bind_some, if_neg h, h1 _ (by omega), Option.bind_some, if_pos rfl]
    simp only [fescuelaw21_JoinOrder.j0, Bool.not_true]
    rw [if_neg (by simp), h2 _ (by omega), Option.bind_some, h3 _ (by omega), Option.bind_some, ea, e, if_pos rfl]
    simp [fescuelaw21_JoinOrder.j1]
  obtain ⟨b, eb, lb, mb, hb, rb⟩ := joinR_ok m iy
  obtain ⟨ix1, ix2⟩ := inside_two.1 ix
  obtain ⟨iy1, iy2⟩ := inside_two.1 iy
  have iya : inside a [y0, y1] := inside_two.2 (by rw [la]; exact ⟨iy1, iy2⟩)
  have ixb : inside b [x1, x0] := inside_two.2 (by rw [lb]; exact ⟨ix2, ix1⟩)
  obtain ⟨ab, eab, lab, mab, hab, rab⟩ := joinR_ok ma iya
  obtain ⟨ba, eba, lba, mba, hba, rba⟩ := joinR_ok mb ixb
  have ixab : inside ab [x0, x1] := inside_two.2 (by rw [lab, la]; exact ⟨ix1, ix2⟩)
  obtain ⟨ag, eag, lag, mag, hag, rag⟩ := joinR_ok mab ixab
  have px0 := ha x0.toNat (by omega)
  have px1 := ha x1.toNat (by omega)
  have same1 : ab = ba := by
    refine ext_rd (by rw [lab, lba, la, lb]) (fun j hj => ?_)
    rw [rab j (by omega), rba j (by omega), ha j (by omega), hb j (by omega), ha y0.toNat (by omega), ha y1.toNat (by omega), hb x1.toNat (by omega), hb x0.toNat (by omega)]
    exact turn_order ..
  have heq : (hd a x0.toNat : Int) = hd a x1.toNat := by
    rw [px0, px1]
    obtain ⟨_, z⟩ := mx_mn (hd l x0.toNat : Int) (hd l x1.toNat)
    unfold turn
    rcases z with ⟨z1, z2⟩ | ⟨z1, z2⟩
    · rw [z1, z2, if_pos rfl]; split <;> rfl
    · rw [z1, z2, if_pos rfl]; split
      · rfl
      · rfl
  have same2 : ag = ab := by
    refine ext_rd (by rw [lag]) (fun j hj => ?_)
    have e1 : (hd ab x0.toNat : Int) = hd ab x1.toNat := by rw [hab x0.toNat (by omega), hab x1.toNat (by omega), heq]
    rw [rag j (by omega), e1, (mx_self _).1, (mx_self _).2, turn_same, hab j (by omega), rab j (by omega)]
  obtain ⟨K4, h4⟩ := Ev.get (joinJoin_ev a (by omega) y0 y1)
  obtain ⟨K5, h5⟩ := Ev.get (joinJoin_ev b (by omega) x1 x0)
  obtain ⟨K6, h6⟩ := Ev.get (joinJoin_ev ab (by omega) x0 x1)
  obtain ⟨K7, h7⟩ := Ev.get (same_ev ab ab (by omega))
  obtain ⟨K8, h8⟩ := Ev.get (joinHead_ev l hl c)
  obtain ⟨K9, h9⟩ := Ev.get (joinHead_ev a (by omega) c)
  obtain ⟨K10, h10⟩ := Ev.get (joinHead_ev l hl x0)
  obtain ⟨K11, h11⟩ := Ev.get (joinHead_ev l hl x1)
  refine ⟨K0 + K1 + K2 + K3 + K4 + K5 + K6 + K7 + K8 + K9 + K10 + K11 + 3, ?_⟩
  obtain ⟨k, hk⟩ : ∃ k, k = K0 + K1 + K2 + K3 + K4 + K5 + K6 + K7 + K8 + K9 + K10 + K11 := ⟨_, rfl⟩
  rw [← hk]
  unfold fescuelaw21_JoinOrder.f
  rw [h0 _ (by omega), Option.bind_some, if_neg h, h1 _ (by omega), Option.bind_some, if_pos rfl]
  simp only [fescuelaw21_JoinOrder.j0, Bool.not_true]
  rw [if_neg (by simp), h2 _ (by omega), Option.bind_some, h3 _ (by omega), Option.bind_some, ea, eb, if_pos rfl]
  simp only [fescuelaw21_JoinOrder.j1]
  rw [if_neg (by simp), h4 _ (by omega), Option.bind_some, h5 _ (by omega), Option.bind_some, eab]
  rw [h6 _ (by omega), Option.bind_some, eba, eag, if_pos rfl, if_pos rfl, if_pos rfl, ← same1, same2, h7 _ (by omega), Option.bind_some, if_pos (by simp), Option.bind_some]
  simp only [fescuelaw21_JoinOrder.j2]
  rw [if_neg (by simp), h8 _ (by omega), Option.bind_some, h9 _ (by omega), Option.bind_some, h10 _ (by omega), Option.bind_some, h11 _ (by omega), Option.bind_some]
  rw [headR_ok m (inside_one.2 ix1), headR_ok m (inside_one.2 ix2)]
  by_cases ic : inside l [c]
  case neg =>
    have e1 : HeadR l c = (0, 2) := by unfold HeadR; rw [if_pos m, if_neg ic]
    have e2 : HeadR a c = (0, 2) := by
      unfold HeadR; rw [if_pos ma, if_neg]
      rw [inside_one] at ic ⊢; rw [la]; exact ic
    rw [e1, e2, if_neg (by decide), if_pos trivial]; rfl
  have ic' : inside a [c] := by rw [inside_one] at ic ⊢; rw [la]; exact ic
  rw [headR_ok m ic, headR_ok ma ic', if_pos rfl, if_pos trivial, if_pos rfl]
  dsimp only
  have pc := ha c.toNat (by have := inside_one.1 ic; omega)
  rw [pc]
  obtain ⟨z0, z⟩ := mx_mn (hd l x0.toNat : Int) (hd l x1.toNat)
  generalize (hd l x0.toNat : Int) = p at *
  generalize (hd l x1.toNat : Int) = q at *
  generalize (hd l c.toNat : Int) = w at *
  generalize mx p q = M at *
  generalize mn p q = n at *
  unfold turn
  by_cases e : w = p
  · rw [if_pos e, if_pos]
    rw [beq_iff_eq, eq_comm, beq_iff_eq]; split <;> omega
  · rw [if_neg e]
    by_cases f : w = q
    · rw [if_pos, if_pos f]
      have : (w == q) = true := beq_iff_eq.2 f
      rw [this, beq_iff_eq, eq_comm, beq_iff_eq]; split <;> omega
    · rw [if_pos, if_neg f]
      · rw [if_neg (by omega)]; simp
      · have : (w == q) = false := beq_eq_false_iff_ne.2 f
        rw [this, beq_iff_eq, eq_comm, beq_eq_false_iff_ne]; split <;> omega

theorem joinNames_law : fescuelaw21_JoinNames.Pure := by
  have q0 : hd [0, 0, 1] 0 = 0 := hd_own rfl
  have q1 : hd [0, 0, 1] 1 = 0 := (hd_next (by decide) (by decide)).1.trans q0
  have q2 : hd [0, 0, 1] 2 = 0 := (hd_next (by decide) (by decide)).1.trans q1
  have e1 : HeadR [0, 0, 1] 2 = (0, 0) := by unfold HeadR; rw [if_pos (by decide), if_pos (by decide)]; simp [q2]
  have e2 : FlatR [0, 0, 1] = ([0, 0, 0], 0) := by unfold FlatR; rw [if_pos (by decide)]; simp [flatS, List.range, List.range.loop, q0, q1, q2, turn]
  have e3 : NewR 100001 = ([], 2) := by unfold NewR; rw [if_pos (by omega)]
  have e4 : NewR (-1) = ([], 2) := by unfold NewR; rw [if_pos (by omega)]
  have e5 : HeadR [0] 1 = (0, 2) := by unfold HeadR; rw [if_pos (by decide), if_neg (by decide)]
  have e6 : JoinR [0] 0 (-1) = ([], 2) := by unfold JoinR; rw [if_pos (by decide), if_neg (by decide)]
  have e7 : CountR [] = (0, 0) := by decide
  obtain ⟨K1, h1⟩ := Ev.get (joinHead_ev [0, 0, 1] (by simp) 2)
  obtain ⟨K2, h2⟩ := Ev.get (joinFlat_ev [0, 0, 1] (by simp))
  obtain ⟨K3, h3⟩ := Ev.get (joinNew_ev 100001)
  obtain ⟨K4, h4⟩ := Ev.get (joinNew_ev (-1))
  obtain ⟨K5, h5⟩ := Ev.get (joinHead_ev [0] (by simp) 1)
  obtain ⟨K6, h6⟩ := Ev.get (joinJoin_ev [0] (by simp) 0 (-1))
  obtain ⟨K7, h7⟩ := Ev.get (joinCount_ev [] (by simp))
  obtain ⟨K8, h8⟩ := Ev.get alive_ev
  obtain ⟨K9, h9⟩ := Ev.get (same_ev [0, 0, 0] [0, 0, 0] (by simp))
  obtain ⟨K10, h10⟩ := Ev.get (check_ev [0, 2] (by simp))
  obtain ⟨K11, h11⟩ := Ev.get (check_ev [-1] (by simp))
  rw [if_neg (by decide)] at h10 h11
  rw [e1] at h1; rw [e2] at h2; rw [e3] at h3; rw [e4] at h4; rw [e5] at h5; rw [e6] at h6; rw [e7] at h7
  refine ⟨K1 + K2 + K3 + K4 + K5 + K6 + K7 + K8 + K9 + K10 + K11, ?_⟩
  unfold fescuelaw21_JoinNames.f
  rw [h1 _ (by omega), Option.bind_some, h2 _ (by omega), Option.bind_some, h3 _ (by omega), Option.bind_some, h4 _ (by omega), Option.bind_some, h5 _ (by omega), Option.bind_some, h6 _ (by omega), Option.bind_some, h7 _ (by omega), Option.bind_some, h8 _ (by omega), Option.bind_some]
  rw [if_pos rfl, if_pos rfl, if_pos rfl, if_pos rfl, h9 _ (by omega), Option.bind_some, if_pos (by simp), if_pos rfl, if_pos rfl, if_pos rfl, if_pos rfl, if_pos rfl, if_pos rfl, h10 _ (by omega), Option.bind_some, if_pos rfl, h11 _ (by omega), Option.bind_some]
  rfl
end Go.Proofs.Ytdmklkajjddkkaa.Pl
