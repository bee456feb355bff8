/- Steps of the machine that the library has no law for: a deferred call of a builtin (one, at an ordinary end). -/
import Derived.Defers
import Derived.ScopeJumps
import Derived.WalkKit
set_option linter.unusedVariables false
set_option linter.unusedSimpArgs false
namespace Go.Proofs.Ytdmklkajjddkkaa.L
open Go

theorem step_defer_value {P : Program} {fr : Frame} {cs : List Frame} {w w' : World} {b : Builtin} {ts : Array TypeId} {t : TypeId} {cn : Array Bool} {da : Array Value} {ds : List Deferred} {v : Value}
    (hm : fr.mode = .returning) (hd : fr.defers = ⟨.builtin b ts t cn, da⟩ :: ds)
    (hi : (invoke (.builtin b ts t cn) da).run P w = .ok (.value v) w') :
    step P (lone fr cs w) = .next (lone { fr with defers := ds } cs w') := by
  refine step_lone_go ?_
  simp [stepG, unwind, callDeferred, hm, hd, hi]

/-- The post of a body that has deferred one builtin call, if it ends in the ordinary way. -/
def postB (P : Program) (fn : Func) (R : Ending → World → Prop) : Exit → Act → World → Prop
  | .normal, a, w | .ret, a, w => ∃ b ts t cn da v w1 r, a.defers = [⟨.builtin b ts t cn, da⟩] ∧ (invoke (.builtin b ts t cn) da).run P w = .ok (.value v) w1 ∧
      (results fn a.tmps).run P w1 = .ok r w1 ∧ R (.returned r) w1
  | _, _, _ => False

theorem calls_of_wp_builtin {P : Program} {f : FuncId} {fn : Func} {c : Code} {args : Array Value} {w : World} {R : Ending → World → Prop}
    (hf : P.funcs[f]? = some fn) (hb : fn.body = some c)
    (h : c.wp P (postB P fn R) { tmps := args ++ Array.replicate (fn.ntmps - args.size) undef, defers := [] } w) : Calls P f args w R := by
  intro cs
  let b : Frame := { (default : Frame) with fn := f, kind := .normal }
  have henter : Frame.enter P f args .normal =
      b.at { tmps := args ++ Array.replicate (fn.ntmps - args.size) undef, defers := [] } [.code c] := by
    simp [Frame.enter, Frame.at, hf, hb, b]
  obtain ⟨e, a', w', hq, harr⟩ := h b [] cs
  rw [← henter] at harr
  cases e with
  | normal =>
    obtain ⟨b', ts, t, cn, da, v, w1, r, hd, hi, hr, hR⟩ := hq
    refine ⟨.returned r, w1, { b.at a' [] with mode := .returning, defers := [] }, hR, Steps.trans harr (Steps.head step_end (.one (step_defer_value rfl hd hi))), rfl, rfl, rfl, rfl, fn, hf, hr⟩
  | ret =>
    obtain ⟨b', ts, t, cn, da, v, w1, r, hd, hi, hr, hR⟩ := hq
    obtain ⟨todo, hs₀⟩ := harr
    exact ⟨.returned r, w1, { b.at a' todo with mode := .returning, defers := [] }, hR, Steps.trans hs₀ (.one (step_defer_value rfl hd hi)), rfl, rfl, rfl, rfl, fn, hf, hr⟩
  | panic chain => exact hq.elim
  | exit id => exact hq.elim
  | goto l => exact hq.elim
  | outgrown => exact hq.elim
end Go.Proofs.Ytdmklkajjddkkaa.L
