-- Written by a program of this session (wip/tools/hprint.py over the kit's print.py); Lean checks it.
import Derived.Test.YtndpnlpidphflaaProg
import Derived.Below
import Derived.Deep.Draws
import Derived.Deep.AppendLies
import Derived.Maps.AppendAt
import Derived.OwnWalk
import Derived.Laws.BytesArg
import Derived.Laws.MakeOwn
import Derived.Laws.OwnMore
import Derived.Deep.OwnRows
import Derived.Tactics
import Derived.Lib.ConvBytes
import Derived.Laws.Slices
import Derived.WalkKit
import Derived.KernelRfl
import Derived.RowKit3
import Derived.Deep.LoopGhost
import Derived.Deep.QuietTactic
import Derived.BigQuiet
import Derived.WideLaws
import Derived.Deep.DeepCutAuto
import Derived.Deep.CutBlock
import Derived.Deep.RegionHeld3
import Derived.Laws.Rows
import Derived.Lib.AppendStr
import Derived.ArgAppend
import Derived.Laws.IdiomCopy
import Derived.OrdersHeld
import Derived.Laws.BitsLemmas
import Derived.RowKit
import Derived.Test.YtndpnlpidphflaaWWords
import Derived.Test.YtndpnlpidphflaaWLast
import Derived.Test.YtndpnlpidphflaaWTab
import Derived.Test.YtndpnlpidphflaaWFour
import Derived.Test.YtndpnlpidphflaaWQPut
import Derived.Test.YtndpnlpidphflaaWApart
import Derived.Test.YtndpnlpidphflaaWArr
import Derived.Test.YtndpnlpidphflaaWZeros
import Derived.Test.YtndpnlpidphflaaWFoot
import Derived.Test.YtndpnlpidphflaaWKept
import Derived.Test.YtndpnlpidphflaaWShare
import Derived.Test.YtndpnlpidphflaaWN
import Derived.Test.YtndpnlpidphflaaWFootNe
import Derived.Test.YtndpnlpidphflaaWAt
import Derived.Test.YtndpnlpidphflaaWEqStruct
import Derived.Test.YtndpnlpidphflaaWRepsOne
import Derived.Test.YtndpnlpidphflaaWInv
import Derived.Test.YtndpnlpidphflaaWInvWords
import Derived.Test.YtndpnlpidphflaaWGuard
import Derived.Test.YtndpnlpidphflaaWNEv
import Derived.Test.YtndpnlpidphflaaWMore
namespace Go.Proofs.Ytndpnlpidphflaa.Pre
open Go.RowKit Go.Proofs.YtndpnlpidphflaaW.PrintWords Go.Proofs.YtndpnlpidphflaaW.PrintLast Go.Proofs.YtndpnlpidphflaaW.PrintMore
attribute [local go_sem] max2_int min2_int max_two min_two max_three min_three max_four min_four   -- for this text's walks alone
set_option linter.unusedVariables false
set_option linter.unusedSimpArgs false



def errW : Option Int → Value
  | none => .nilIface
  | some c => .iface 0 (.int .i64 c)
theorem errW_none : errW none = .nilIface := rfl
theorem errW_some (c : Int) : errW (some c) = .iface 0 (.int .i64 c) := rfl

-- the values' own types

end Go.Proofs.Ytndpnlpidphflaa.Pre
