/-
  No cell of these rows narrows 'for every input' (looked for: loops, veiled, ifaces, maps, wideKeys, modest, calm, conditions, laid).
  DERIVED. THE GIVEN ROWS OF THIS SEAT. 6 by the template 'for every input the law returns true; each argument reads behind the call as it read before'; 0 by the template 'total and deterministic' (their statements: YtdmklkajjddkkaaTotals.lean).
  GIVEN WITH THE SEED: the statements are not yours to turn. If you find one false, say at which input.
  Laid BY PROGRAM, IN A SANDBOX (cutbox-rows.mjs): the forced cells as the released guide's own fill.sh prints them over the translation 4cf4a25c06cadac1… (all of the seat's roots in one cut). By AI agents, Wed Nov 11 2026. No macro, syntax, notation, axiom, sorry.
-/
import Derived.Test.YtdmklkajjddkkaaChecked
import GoSem.Claim
import GoSem.ClaimJoined
import GoSem.ClaimMapViews
import Derived.JoinedTies
import Derived.KernelRfl
namespace Go.Proofs.Ytdmklkajjddkkaa
/- THE CELL 'sum', in the pinned program and in every row, IS THE sha256 OF THE DUMP (.gsa) THAT YtdmklkajjddkkaaProg.lean LOADS. Nothing in Lean hashes anything: it is a label: what it is worth is what the hold of that sum in a sandbox is worth. -/
noncomputable def Try.pinned : Pinned := { name := "ytdmklkajjddkkaa", sum := "4cf4a25c06cadac1c12d54308fa50b2f603bf7f7a5a72734a569e39ca5ba0b4f", checked := Try.checked }
namespace Rows
def none {H : Type} : Left H := { results := [], args := [] }

/-- 'fescuelaw21.JoinNew': WHATEVER THE INPUT: true; the input reads as it did. -/
def joinNewSpec : ChangeSpec := { name := "joinNew", fn := fun _ => fun
  | [d] => { results := [.lit (.bool true)], args := [d] }
  | _ => none }
def joinNewRow : OpenClaim := { program := "ytdmklkajjddkkaa", sum := "4cf4a25c06cadac1c12d54308fa50b2f603bf7f7a5a72734a569e39ca5ba0b4f", func := "fescue/fescuelaw21.JoinNew", spec := "joinNew", apart := false }
def JoinNewSaid : Prop := joinNewRow.holds Try.pinned (OpenSpec.ofChange joinNewSpec)

/-- ITS FALSE NEIGHBOUR: 'it returns false'. Refute it at one input. -/
def joinNewWrong : ChangeSpec := { name := "joinNew", fn := fun _ => fun
  | [d] => { results := [.lit (.bool false)], args := [d] }
  | _ => none }
def JoinNewWrongFalsely : Prop := joinNewRow.holds Try.pinned (OpenSpec.ofChange joinNewWrong)

/-- 'fescuelaw21.JoinTells': WHATEVER THE INPUT: true; the input reads as it did. -/
def joinTellsSpec : ChangeSpec := { name := "joinTells", fn := fun _ => fun
  | [d1, d2, d3] => { results := [.lit (.bool true)], args := [d1, d2, d3] }
  | _ => none }
def joinTellsRow : OpenClaim := { program := "ytdmklkajjddkkaa", sum := "4cf4a25c06cadac1c12d54308fa50b2f603bf7f7a5a72734a569e39ca5ba0b4f", func := "fescue/fescuelaw21.JoinTells", spec := "joinTells", apart := false }
def JoinTellsSaid : Prop := joinTellsRow.holds Try.pinned (OpenSpec.ofChange joinTellsSpec)

/-- ITS FALSE NEIGHBOUR: 'it returns false'. Refute it at one input. -/
def joinTellsWrong : ChangeSpec := { name := "joinTells", fn := fun _ => fun
  | [d1, d2, d3] => { results := [.lit (.bool false)], args := [d1, d2, d3] }
  | _ => none }
def JoinTellsWrongFalsely : Prop := joinTellsRow.holds Try.pinned (OpenSpec.ofChange joinTellsWrong)

/-- 'fescuelaw21.JoinOrder': WHATEVER THE INPUT: true; the input reads as it did. -/
def joinOrderSpec : ChangeSpec := { name := "joinOrder", fn := fun _ => fun
  | [d1, d2, d3, d4] => { results := [.lit (.bool true)], args := [d1, d2, d3, d4] }
  | _ => none }
def joinOrderRow : OpenClaim := { program := "ytdmklkajjddkkaa", sum := "4cf4a25c06cadac1c12d54308fa50b2f603bf7f7a5a72734a569e39ca5ba0b4f", func := "fescue/fescuelaw21.JoinOrder", spec := "joinOrder", apart := false }
def JoinOrderSaid : Prop := joinOrderRow.holds Try.pinned (OpenSpec.ofChange joinOrderSpec)

/-- ITS FALSE NEIGHBOUR: 'it returns false'. Refute it at one input. -/
def joinOrderWrong : ChangeSpec := { name := "joinOrder", fn := fun _ => fun
  | [d1, d2, d3, d4] => { results := [.lit (.bool false)], args := [d1, d2, d3, d4] }
  | _ => none }
def JoinOrderWrongFalsely : Prop := joinOrderRow.holds Try.pinned (OpenSpec.ofChange joinOrderWrong)

/-- 'fescuelaw21.JoinCounts': WHATEVER THE INPUT: true; the input reads as it did. -/
def joinCountsSpec : ChangeSpec := { name := "joinCounts", fn := fun _ => fun
  | [d1, d2, d3] => { results := [.lit (.bool true)], args := [d1, d2, d3] }
  | _ => none }
def joinCountsRow : OpenClaim := { program := "ytdmklkajjddkkaa", sum := "4cf4a25c06cadac1c12d54308fa50b2f603bf7f7a5a72734a569e39ca5ba0b4f", func := "fescue/fescuelaw21.JoinCounts", spec := "joinCounts", apart := false }
def JoinCountsSaid : Prop := joinCountsRow.holds Try.pinned (OpenSpec.ofChange joinCountsSpec)

/-- ITS FALSE NEIGHBOUR: 'it returns false'. Refute it at one input. -/
def joinCountsWrong : ChangeSpec := { name := "joinCounts", fn := fun _ => fun
  | [d1, d2, d3] => { results := [.lit (.bool false)], args := [d1, d2, d3] }
  | _ => none }
def JoinCountsWrongFalsely : Prop := joinCountsRow.holds Try.pinned (OpenSpec.ofChange joinCountsWrong)

/-- 'fescuelaw21.JoinNames': WHATEVER THE INPUT: true; the input reads as it did. -/
def joinNamesSpec : ChangeSpec := { name := "joinNames", fn := fun _ => fun
  | [] => { results := [.lit (.bool true)], args := [] }
  | _ => none }
def joinNamesRow : OpenClaim := { program := "ytdmklkajjddkkaa", sum := "4cf4a25c06cadac1c12d54308fa50b2f603bf7f7a5a72734a569e39ca5ba0b4f", func := "fescue/fescuelaw21.JoinNames", spec := "joinNames", apart := false }
def JoinNamesSaid : Prop := joinNamesRow.holds Try.pinned (OpenSpec.ofChange joinNamesSpec)

/-- ITS FALSE NEIGHBOUR: 'it returns false'. Refute it at one input. -/
def joinNamesWrong : ChangeSpec := { name := "joinNames", fn := fun _ => fun
  | [] => { results := [.lit (.bool false)], args := [] }
  | _ => none }
def JoinNamesWrongFalsely : Prop := joinNamesRow.holds Try.pinned (OpenSpec.ofChange joinNamesWrong)

/-- 'fescuelaw21.JoinLeast': WHATEVER THE INPUT: true; the input reads as it did. -/
def joinLeastSpec : ChangeSpec := { name := "joinLeast", fn := fun _ => fun
  | [d1, d2, d3] => { results := [.lit (.bool true)], args := [d1, d2, d3] }
  | _ => none }
def joinLeastRow : OpenClaim := { program := "ytdmklkajjddkkaa", sum := "4cf4a25c06cadac1c12d54308fa50b2f603bf7f7a5a72734a569e39ca5ba0b4f", func := "fescue/fescuelaw21.JoinLeast", spec := "joinLeast", apart := false }
def JoinLeastSaid : Prop := joinLeastRow.holds Try.pinned (OpenSpec.ofChange joinLeastSpec)

/-- ITS FALSE NEIGHBOUR: 'it returns false'. Refute it at one input. -/
def joinLeastWrong : ChangeSpec := { name := "joinLeast", fn := fun _ => fun
  | [d1, d2, d3] => { results := [.lit (.bool false)], args := [d1, d2, d3] }
  | _ => none }
def JoinLeastWrongFalsely : Prop := joinLeastRow.holds Try.pinned (OpenSpec.ofChange joinLeastWrong)

/- THE SECOND FORM. 'bulk': how many values and letters a reading holds, each counted each time it is reached (what is shared counts as often as it is met; a slice's spare places count too). A statement '..UptoSaid' is the law's where the arguments, and the package variables that the reading takes, are together of bulk at most 1048576: NARROWER than '..Said'. Prove '..Said' where nothing that the law and all that it calls make is longer than what came in: it says more and counts as full. Else prove '..UptoSaid'. A law counts once. -/
mutual
def uptoBulk {H : Type} : DataW H → Nat
  | .lit (.string bytes) => bytes.length + 1
  | .lit _ => 1
  | .nil => 1
  | .ptr d => uptoBulk d + 1
  | .slice elems spare => uptoBulkAll elems + uptoBulkAll spare + 1
  | .agg parts => uptoBulkAll parts + 1
  | .iface _ d => uptoBulk d + 1
  | .map entries => uptoBulkEntries entries + 1
  | .held _ => 1
def uptoBulkAll {H : Type} : List (DataW H) → Nat
  | [] => 0
  | d :: r => uptoBulk d + uptoBulkAll r
def uptoBulkEntries {H : Type} : List (Lit × DataW H) → Nat
  | [] => 0
  | x :: r => uptoBulkEntry x + uptoBulkEntries r
def uptoBulkEntry {H : Type} : Lit × DataW H → Nat
  | (.string bytes, d) => bytes.length + uptoBulk d + 1
  | (_, d) => uptoBulk d + 1
 end
def uptoSmall : (H : Type) → List (DataW H) → Bool := fun _ ds => decide (uptoBulkAll ds ≤ 1048576)
def OpenSpec.upto (s : _root_.Go.ChangeSpec) : _root_.Go.OpenSpec := { _root_.Go.OpenSpec.ofChange s with cond := some uptoSmall }

/-- 'fescuelaw21.JoinNew', WHERE WHAT IT READS IS OF BULK AT MOST 1048576: true; the input reads as it did. -/
def joinNewUptoRow : OpenClaim := { program := "ytdmklkajjddkkaa", sum := "4cf4a25c06cadac1c12d54308fa50b2f603bf7f7a5a72734a569e39ca5ba0b4f", func := "fescue/fescuelaw21.JoinNew", spec := "joinNew", apart := false, narrowed := true }
def JoinNewUptoSaid : Prop := joinNewUptoRow.holds Try.pinned (OpenSpec.upto joinNewSpec)

/-- 'fescuelaw21.JoinTells', WHERE WHAT IT READS IS OF BULK AT MOST 1048576: true; the input reads as it did. -/
def joinTellsUptoRow : OpenClaim := { program := "ytdmklkajjddkkaa", sum := "4cf4a25c06cadac1c12d54308fa50b2f603bf7f7a5a72734a569e39ca5ba0b4f", func := "fescue/fescuelaw21.JoinTells", spec := "joinTells", apart := false, narrowed := true }
def JoinTellsUptoSaid : Prop := joinTellsUptoRow.holds Try.pinned (OpenSpec.upto joinTellsSpec)

/-- 'fescuelaw21.JoinOrder', WHERE WHAT IT READS IS OF BULK AT MOST 1048576: true; the input reads as it did. -/
def joinOrderUptoRow : OpenClaim := { program := "ytdmklkajjddkkaa", sum := "4cf4a25c06cadac1c12d54308fa50b2f603bf7f7a5a72734a569e39ca5ba0b4f", func := "fescue/fescuelaw21.JoinOrder", spec := "joinOrder", apart := false, narrowed := true }
def JoinOrderUptoSaid : Prop := joinOrderUptoRow.holds Try.pinned (OpenSpec.upto joinOrderSpec)

/-- 'fescuelaw21.JoinCounts', WHERE WHAT IT READS IS OF BULK AT MOST 1048576: true; the input reads as it did. -/
def joinCountsUptoRow : OpenClaim := { program := "ytdmklkajjddkkaa", sum := "4cf4a25c06cadac1c12d54308fa50b2f603bf7f7a5a72734a569e39ca5ba0b4f", func := "fescue/fescuelaw21.JoinCounts", spec := "joinCounts", apart := false, narrowed := true }
def JoinCountsUptoSaid : Prop := joinCountsUptoRow.holds Try.pinned (OpenSpec.upto joinCountsSpec)

/-- 'fescuelaw21.JoinNames', WHERE WHAT IT READS IS OF BULK AT MOST 1048576: true; the input reads as it did. -/
def joinNamesUptoRow : OpenClaim := { program := "ytdmklkajjddkkaa", sum := "4cf4a25c06cadac1c12d54308fa50b2f603bf7f7a5a72734a569e39ca5ba0b4f", func := "fescue/fescuelaw21.JoinNames", spec := "joinNames", apart := false, narrowed := true }
def JoinNamesUptoSaid : Prop := joinNamesUptoRow.holds Try.pinned (OpenSpec.upto joinNamesSpec)

/-- 'fescuelaw21.JoinLeast', WHERE WHAT IT READS IS OF BULK AT MOST 1048576: true; the input reads as it did. -/
def joinLeastUptoRow : OpenClaim := { program := "ytdmklkajjddkkaa", sum := "4cf4a25c06cadac1c12d54308fa50b2f603bf7f7a5a72734a569e39ca5ba0b4f", func := "fescue/fescuelaw21.JoinLeast", spec := "joinLeast", apart := false, narrowed := true }
def JoinLeastUptoSaid : Prop := joinLeastUptoRow.holds Try.pinned (OpenSpec.upto joinLeastSpec)

end Rows
end Go.Proofs.Ytdmklkajjddkkaa
