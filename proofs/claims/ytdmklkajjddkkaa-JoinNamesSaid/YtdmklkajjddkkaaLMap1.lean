/- A map from int to int with one entry: what it is made by, and what is asked of it. -/
import Derived.WalkKit
import Derived.KernelRfl
import Derived.MapKept
import Derived.Below
set_option linter.unusedVariables false
set_option linter.unusedSimpArgs false
namespace Go.Proofs.Ytdmklkajjddkkaa.L
open Go Go.RowKit
section
variable {P : Program} {t e : TypeId}
/-- The world with another object in a block's place. -/
def setBlk (w : World) (B : Nat) (o : Obj) : World := { w with heap := w.heap.set! B o }
theorem checkKey_int {k : TypeId} (hk : P.underlying k = some (.int .i64)) (em : Bool) (n : Nat) (v : Value) (w : World) : (Instr.checkKey em (n + 1) k v).run P w = .ok () w := by
  unfold Instr.checkKey
  simp [run_underlying hk]
theorem run_getObj_any {w : World} {r : Nat} {es : Array MapEntry} {c : Nat} (hb : w.heap[r]? = some (.map es c)) : (getObj r).run P w = .ok (.map es c) w := by
  simp [getObj, Sem.run, hb]
theorem run_setObj_any {w : World} {r : Nat} {es : Array MapEntry} {c : Nat} (o : Obj) (hb : w.heap[r]? = some (.map es c)) : (setObj r o).run P w = .ok () (setBlk w r o) := by
  simp [setObj, Sem.run, hb, setBlk]
theorem run_insert_new {k : TypeId} (ht : P.underlying t = some (.map k e)) (hk : P.underlying k = some (.int .i64)) (a : Int) (b : Value) (w : World) :
    (Instr.mapUpdate t (.map (some w.heap.size)) (.int .i64 a) b).run P (w.alloc (.map #[] 0)) = .ok () (w.alloc (.map #[⟨.int .i64 a, b, 0⟩] 1)) := by
  have hb : (w.alloc (.map #[] 0)).heap[w.heap.size]? = some (.map #[] 0) := heap_alloc_new w _
  unfold Instr.mapUpdate
  simp [run_underlying ht, run_underlying hk, checkKey_int hk, Instr.findKey, Instr.findNow, run_getObj_any hb, run_setObj_any _ hb, -World.alloc_eq]
  show ({ w with heap := (w.heap.push (.map #[] 0)).set! w.heap.size _ } : World) = { w with heap := w.heap.push _ }
  congr 1
  rw [← Array.toList_inj]
  simp
theorem run_lookup_one {k : TypeId} (ht : P.underlying t = some (.map k e)) (hk : P.underlying k = some (.int .i64)) (hz : ∀ w, (zeroValue e).run P w = .ok (.int .i64 0) w) (a b x : Int) (n c : Nat) (w : World) (B : Nat)
    (hB : w.heap[B]? = some (.map #[⟨.int .i64 a, .int .i64 b, n⟩] c)) :
    (Instr.lookup t (.map (some B)) (.int .i64 x) true).run P w = .ok (.tuple #[.int .i64 (if x = a then b else 0), .bool (x == a)]) w := by
  unfold Instr.lookup
  by_cases h : x = a
  · subst h
    simp [run_underlying ht, run_underlying hk, checkKey_int hk, Instr.findKey, Instr.findNow, Instr.sameNow, run_getObj_any hB]
  · have hb : (x == a) = false := by simp [h]
    simp [run_underlying ht, run_underlying hk, checkKey_int hk, Instr.findKey, Instr.findNow, Instr.sameNow, run_getObj_any hB, hb, h, hz]
theorem run_clear_map {k ty : TypeId} (ht : P.underlying t = some (.map k e)) (es : Array MapEntry) (c : Nat) (cn : Array Bool) (w : World) (B : Nat) (hB : w.heap[B]? = some (.map es c)) :
    (invoke (.builtin .clear #[t] ty cn) #[.map (some B)]).run P w = .ok (.value (.tuple #[])) (setBlk w B (.map #[] c)) := by
  simp [invoke, builtin, Builtin.clear_, run_underlying ht, run_getObj_any hB, run_setObj_any _ hB]
theorem setBlk_below {w0 w : World} {b B : Nat} (h : Below b w0 w) (hb : b ≤ B) (o : Obj) : Below b w0 (setBlk w B o) :=
  ⟨h.os, h.tape, h.output, by simpa [setBlk] using h.size, fun i hi => by
    have : B ≠ i := by omega
    simpa [setBlk, Array.getElem?_setIfInBounds_ne this] using h.block i hi⟩
theorem setBlk_other {w : World} {B i : Nat} (h : i ≠ B) (o : Obj) : (setBlk w B o).heap[i]? = w.heap[i]? := by
  simp [setBlk, Array.getElem?_setIfInBounds_ne (Ne.symm h)]
end
end Go.Proofs.Ytdmklkajjddkkaa.L
