-- Written by a program of this session (wip/tools/hprint.py over the kit's print.py); Lean checks it.
import Derived.Test.YtldohjlcckbfaaaGreatDoorProg
import Derived.Below
import Derived.Deep.Draws
import Derived.Deep.AppendLies
import Derived.Maps.AppendAt
import Derived.OwnWalk
import Derived.Laws.BytesArg
import Derived.Laws.MakeOwn
import Derived.Laws.OwnMore
import Derived.Deep.OwnRows
import Derived.Tactics
import Derived.Lib.ConvBytes
import Derived.Laws.Slices
import Derived.WalkKit
import Derived.KernelRfl
import Derived.RowKit3
import Derived.Deep.LoopGhost
import Derived.Deep.QuietTactic
import Derived.BigQuiet
import Derived.WideLaws
import Derived.Deep.DeepCutAuto
import Derived.Deep.CutBlock
import Derived.Deep.RegionHeld3
import Derived.Laws.Rows
import Derived.Lib.AppendStr
import Derived.ArgAppend
import Derived.Laws.IdiomCopy
import Derived.OrdersHeld
import Derived.Laws.BitsLemmas
import Derived.RowKit
import Derived.Test.YtldohjlcckbfaaaGreatDoorGoes
import Derived.Test.YtldohjlcckbfaaaGreatDoorWWords
import Derived.Test.YtldohjlcckbfaaaGreatDoorWLast
import Derived.Test.YtldohjlcckbfaaaGreatDoorWTab
import Derived.Test.YtldohjlcckbfaaaGreatDoorWFour
import Derived.Test.YtldohjlcckbfaaaGreatDoorWQPut
import Derived.Test.YtldohjlcckbfaaaGreatDoorWApart
import Derived.Test.YtldohjlcckbfaaaGreatDoorWArr
import Derived.Test.YtldohjlcckbfaaaGreatDoorWZeros
import Derived.Test.YtldohjlcckbfaaaGreatDoorWFoot
import Derived.Test.YtldohjlcckbfaaaGreatDoorWKept
import Derived.Test.YtldohjlcckbfaaaGreatDoorWShare
import Derived.Test.YtldohjlcckbfaaaGreatDoorWN
import Derived.Test.YtldohjlcckbfaaaGreatDoorWFootNe
import Derived.Test.YtldohjlcckbfaaaGreatDoorWAt
import Derived.Test.YtldohjlcckbfaaaGreatDoorWEqStruct
import Derived.Test.YtldohjlcckbfaaaGreatDoorWRepsOne
import Derived.Test.YtldohjlcckbfaaaGreatDoorWInv
import Derived.Test.YtldohjlcckbfaaaGreatDoorWInvWords
import Derived.Test.YtldohjlcckbfaaaGreatDoorWGuard
import Derived.Test.YtldohjlcckbfaaaGreatDoorWNEv
import Derived.Test.YtldohjlcckbfaaaGreatDoorWMore
namespace Go.Proofs.YtldohjlcckbfaaaGreatDoor.Pre
open Go.RowKit Go.Proofs.YtldohjlcckbfaaaGreatDoor Go.Proofs.YtldohjlcckbfaaaGreatDoorW.PrintWords Go.Proofs.YtldohjlcckbfaaaGreatDoorW.PrintLast Go.Proofs.YtldohjlcckbfaaaGreatDoorW.PrintMore
attribute [local go_sem] max2_int min2_int max_two min_two max_three min_three max_four min_four   -- for this text's walks alone
set_option linter.unusedVariables false
set_option linter.unusedSimpArgs false



def errW : Option Int → Value
  | none => .nilIface
  | some c => .iface 0 (.int .i64 c)
theorem errW_none : errW none = .nilIface := rfl
theorem errW_some (c : Int) : errW (some c) = .iface 0 (.int .i64 c) := rfl

theorem info3 : (Tryz.prog.info? 3).map (fun i => (i.zero, i.size, i.bytes)) = some (some (.int .i64 0), 1, 8) := by kernel_rfl
-- the values' own types


end Go.Proofs.YtldohjlcckbfaaaGreatDoor.Pre
