-- Written by a program of this session (wip/tools/hprint.py over the kit's print.py); Lean checks it.
import Derived.Test.YtldohjlcckbfaaaDoorProg
import Derived.Below
import Derived.Deep.Draws
import Derived.Deep.AppendLies
import Derived.Maps.AppendAt
import Derived.OwnWalk
import Derived.Laws.BytesArg
import Derived.Laws.MakeOwn
import Derived.Laws.OwnMore
import Derived.Deep.OwnRows
import Derived.Tactics
import Derived.Lib.ConvBytes
import Derived.Laws.Slices
import Derived.WalkKit
import Derived.KernelRfl
import Derived.RowKit3
import Derived.Deep.LoopGhost
import Derived.Deep.QuietTactic
import Derived.BigQuiet
import Derived.WideLaws
import Derived.Deep.DeepCutAuto
import Derived.Deep.CutBlock
import Derived.Deep.RegionHeld3
import Derived.Laws.Rows
import Derived.Lib.AppendStr
import Derived.ArgAppend
import Derived.Laws.IdiomCopy
import Derived.OrdersHeld
import Derived.Laws.BitsLemmas
import Derived.RowKit
import Derived.Test.YtldohjlcckbfaaaDoorHandA
import Derived.Test.YtldohjlcckbfaaaDoorHandB
import Derived.Test.YtldohjlcckbfaaaDoorWWords
import Derived.Test.YtldohjlcckbfaaaDoorWLast
import Derived.Test.YtldohjlcckbfaaaDoorWTab
import Derived.Test.YtldohjlcckbfaaaDoorWFour
import Derived.Test.YtldohjlcckbfaaaDoorWQPut
import Derived.Test.YtldohjlcckbfaaaDoorWApart
import Derived.Test.YtldohjlcckbfaaaDoorWArr
import Derived.Test.YtldohjlcckbfaaaDoorWZeros
import Derived.Test.YtldohjlcckbfaaaDoorWFoot
import Derived.Test.YtldohjlcckbfaaaDoorWKept
import Derived.Test.YtldohjlcckbfaaaDoorWShare
import Derived.Test.YtldohjlcckbfaaaDoorWN
import Derived.Test.YtldohjlcckbfaaaDoorWFootNe
import Derived.Test.YtldohjlcckbfaaaDoorWAt
import Derived.Test.YtldohjlcckbfaaaDoorWEqStruct
import Derived.Test.YtldohjlcckbfaaaDoorWRepsOne
import Derived.Test.YtldohjlcckbfaaaDoorWInv
import Derived.Test.YtldohjlcckbfaaaDoorWInvWords
import Derived.Test.YtldohjlcckbfaaaDoorWGuard
import Derived.Test.YtldohjlcckbfaaaDoorWNEv
import Derived.Test.YtldohjlcckbfaaaDoorWMore
namespace Go.Proofs.YtldohjlcckbfaaaDoor.Base
open Go.RowKit Go.Proofs.YtldohjlcckbfaaaDoor.Hand Go.Proofs.YtldohjlcckbfaaaDoor.Pre Go.Proofs.YtldohjlcckbfaaaDoorW.PrintWords Go.Proofs.YtldohjlcckbfaaaDoorW.PrintLast Go.Proofs.YtldohjlcckbfaaaDoorW.PrintMore
attribute [local go_sem] max2_int min2_int max_two min_two max_three min_three max_four min_four   -- for this text's walks alone
set_option linter.unusedVariables false
set_option linter.unusedSimpArgs false



def errW : Option Int → Value
  | none => .nilIface
  | some c => .iface 0 (.int .i64 c)
theorem errW_none : errW none = .nilIface := rfl
theorem errW_some (c : Int) : errW (some c) = .iface 0 (.int .i64 c) := rfl

-- the values' own types


end Go.Proofs.YtldohjlcckbfaaaDoor.Base
