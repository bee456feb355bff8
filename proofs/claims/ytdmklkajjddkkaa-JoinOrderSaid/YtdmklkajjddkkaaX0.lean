-- Printed for this claim by a program of this session (wip/tools/printx.py) over the kit's print, with functions of its own.
import Derived.Test.YtdmklkajjddkkaaProg
import Derived.Below
import Derived.Deep.Draws
import Derived.Deep.AppendLies
import Derived.Maps.AppendAt
import Derived.OwnWalk
import Derived.Laws.BytesArg
import Derived.Laws.MakeOwn
import Derived.Laws.OwnMore
import Derived.Deep.OwnRows
import Derived.Tactics
import Derived.Lib.ConvBytes
import Derived.Laws.Slices
import Derived.WalkKit
import Derived.KernelRfl
import Derived.RowKit3
import Derived.Deep.LoopGhost
import Derived.Deep.QuietTactic
import Derived.BigQuiet
import Derived.WideLaws
import Derived.Deep.DeepCutAuto
import Derived.Deep.CutBlock
import Derived.Deep.RegionHeld3
import Derived.Laws.Rows
import Derived.Lib.AppendStr
import Derived.ArgAppend
import Derived.Laws.IdiomCopy
import Derived.OrdersHeld
import Derived.Laws.BitsLemmas
import Derived.RowKit
import Derived.Test.YtdmklkajjddkkaaWWords
import Derived.Test.YtdmklkajjddkkaaWLast
import Derived.Test.YtdmklkajjddkkaaWTab
import Derived.Test.YtdmklkajjddkkaaWFour
import Derived.Test.YtdmklkajjddkkaaWQPut
import Derived.Test.YtdmklkajjddkkaaWApart
import Derived.Test.YtdmklkajjddkkaaWArr
import Derived.Test.YtdmklkajjddkkaaWZeros
import Derived.Test.YtdmklkajjddkkaaWFoot
import Derived.Test.YtdmklkajjddkkaaWKept
import Derived.Test.YtdmklkajjddkkaaWShare
import Derived.Test.YtdmklkajjddkkaaWN
import Derived.Test.YtdmklkajjddkkaaWFootNe
import Derived.Test.YtdmklkajjddkkaaWAt
import Derived.Test.YtdmklkajjddkkaaWEqStruct
import Derived.Test.YtdmklkajjddkkaaWRepsOne
import Derived.Test.YtdmklkajjddkkaaWInv
import Derived.Test.YtdmklkajjddkkaaWInvWords
import Derived.Test.YtdmklkajjddkkaaWGuard
import Derived.Test.YtdmklkajjddkkaaWNEv
import Derived.Test.YtdmklkajjddkkaaWMore
namespace Go.Proofs.Ytdmklkajjddkkaa.X
open Go.RowKit Go.Proofs.YtdmklkajjddkkaaW.PrintWords Go.Proofs.YtdmklkajjddkkaaW.PrintLast Go.Proofs.YtdmklkajjddkkaaW.PrintMore
attribute [local go_sem] max2_int min2_int max_two min_two max_three min_three max_four min_four   -- for this text's walks alone
set_option linter.unusedVariables false
set_option linter.unusedSimpArgs false



def errW : Option Int → Value
  | none => .nilIface
  | some c => .iface 0 (.int .i64 c)
theorem errW_none : errW none = .nilIface := rfl
theorem errW_some (c : Int) : errW (some c) = .iface 0 (.int .i64 c) := rfl

theorem info3 : (Try.prog.info? 3).map (fun i => (i.zero, i.size, i.bytes)) = some (some (.int .i64 0), 1, 8) := by kernel_rfl
-- the values' own types

end Go.Proofs.Ytdmklkajjddkkaa.X
