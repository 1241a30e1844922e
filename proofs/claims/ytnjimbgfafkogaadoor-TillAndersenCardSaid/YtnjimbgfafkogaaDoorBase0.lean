-- Written by a program of this session (wip/tools/hprint.py over the kit's print.py); Lean checks it.
import Derived.Test.YtnjimbgfafkogaaDoorProg
import Derived.Below
import Derived.Deep.Draws
import Derived.Deep.AppendLies
import Derived.Maps.AppendAt
import Derived.OwnWalk
import Derived.Laws.BytesArg
import Derived.Laws.MakeOwn
import Derived.Laws.OwnMore
import Derived.Deep.OwnRows
import Derived.Tactics
import Derived.Lib.ConvBytes
import Derived.Laws.Slices
import Derived.WalkKit
import Derived.KernelRfl
import Derived.RowKit3
import Derived.Deep.LoopGhost
import Derived.Deep.QuietTactic
import Derived.BigQuiet
import Derived.WideLaws
import Derived.Deep.DeepCutAuto
import Derived.Deep.CutBlock
import Derived.Deep.RegionHeld3
import Derived.Laws.Rows
import Derived.Lib.AppendStr
import Derived.ArgAppend
import Derived.Laws.IdiomCopy
import Derived.OrdersHeld
import Derived.Laws.BitsLemmas
import Derived.RowKit
import Derived.Test.YtnjimbgfafkogaaDoorHandC
import Derived.Test.YtnjimbgfafkogaaDoorHandD
import Derived.Test.YtnjimbgfafkogaaDoorBal1
import Derived.Test.YtnjimbgfafkogaaDoorWWords
import Derived.Test.YtnjimbgfafkogaaDoorWLast
import Derived.Test.YtnjimbgfafkogaaDoorWTab
import Derived.Test.YtnjimbgfafkogaaDoorWFour
import Derived.Test.YtnjimbgfafkogaaDoorWQPut
import Derived.Test.YtnjimbgfafkogaaDoorWApart
import Derived.Test.YtnjimbgfafkogaaDoorWArr
import Derived.Test.YtnjimbgfafkogaaDoorWZeros
import Derived.Test.YtnjimbgfafkogaaDoorWFoot
import Derived.Test.YtnjimbgfafkogaaDoorWKept
import Derived.Test.YtnjimbgfafkogaaDoorWShare
import Derived.Test.YtnjimbgfafkogaaDoorWN
import Derived.Test.YtnjimbgfafkogaaDoorWFootNe
import Derived.Test.YtnjimbgfafkogaaDoorWAt
import Derived.Test.YtnjimbgfafkogaaDoorWEqStruct
import Derived.Test.YtnjimbgfafkogaaDoorWRepsOne
import Derived.Test.YtnjimbgfafkogaaDoorWInv
import Derived.Test.YtnjimbgfafkogaaDoorWInvWords
import Derived.Test.YtnjimbgfafkogaaDoorWGuard
import Derived.Test.YtnjimbgfafkogaaDoorWNEv
import Derived.Test.YtnjimbgfafkogaaDoorWMore
namespace Go.Proofs.YtnjimbgfafkogaaDoor.Base
open Go.RowKit Go.Proofs.YtnjimbgfafkogaaDoor.Hand Go.Proofs.YtnjimbgfafkogaaDoor.Pre Go.Proofs.YtnjimbgfafkogaaDoor.Bal Go.Proofs.YtnjimbgfafkogaaDoorW.PrintWords Go.Proofs.YtnjimbgfafkogaaDoorW.PrintLast Go.Proofs.YtnjimbgfafkogaaDoorW.PrintMore
attribute [local go_sem] max2_int min2_int max_two min_two max_three min_three max_four min_four   -- for this text's walks alone
set_option linter.unusedVariables false
set_option linter.unusedSimpArgs false



def errW : Option Int → Value
  | none => .nilIface
  | some c => .iface 0 (.int .i64 c)
theorem errW_none : errW none = .nilIface := rfl
theorem errW_some (c : Int) : errW (some c) = .iface 0 (.int .i64 c) := rfl

theorem info3 : (Tryd.prog.info? 3).map (fun i => (i.zero, i.size, i.bytes)) = some (some (.int .i64 0), 1, 8) := by kernel_rfl
-- the values' own types


end Go.Proofs.YtnjimbgfafkogaaDoor.Base
