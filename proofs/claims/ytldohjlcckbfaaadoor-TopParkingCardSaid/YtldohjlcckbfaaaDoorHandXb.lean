/- What the closed example of layers 1 and 2 comes to, part 5b: is a set a kernel? -/
import Derived.Test.YtldohjlcckbfaaaDoorProg
import Derived.Below
import Derived.Deep.Draws
import Derived.Deep.AppendLies
import Derived.Maps.AppendAt
import Derived.OwnWalk
import Derived.Laws.BytesArg
import Derived.Laws.MakeOwn
import Derived.Laws.OwnMore
import Derived.Deep.OwnRows
import Derived.Tactics
import Derived.Lib.ConvBytes
import Derived.Laws.Slices
import Derived.WalkKit
import Derived.KernelRfl
import Derived.RowKit3
import Derived.Deep.LoopGhost
import Derived.Deep.QuietTactic
import Derived.BigQuiet
import Derived.WideLaws
import Derived.Deep.DeepCutAuto
import Derived.Deep.CutBlock
import Derived.Deep.RegionHeld3
import Derived.Laws.Rows
import Derived.Lib.AppendStr
import Derived.ArgAppend
import Derived.Laws.IdiomCopy
import Derived.OrdersHeld
import Derived.Laws.BitsLemmas
import Derived.RowKit
import Derived.Test.YtldohjlcckbfaaaDoorWWords
import Derived.Test.YtldohjlcckbfaaaDoorWLast
import Derived.Test.YtldohjlcckbfaaaDoorWTab
import Derived.Test.YtldohjlcckbfaaaDoorWFour
import Derived.Test.YtldohjlcckbfaaaDoorWQPut
import Derived.Test.YtldohjlcckbfaaaDoorWApart
import Derived.Test.YtldohjlcckbfaaaDoorWArr
import Derived.Test.YtldohjlcckbfaaaDoorWZeros
import Derived.Test.YtldohjlcckbfaaaDoorWFoot
import Derived.Test.YtldohjlcckbfaaaDoorWKept
import Derived.Test.YtldohjlcckbfaaaDoorWShare
import Derived.Test.YtldohjlcckbfaaaDoorWN
import Derived.Test.YtldohjlcckbfaaaDoorWFootNe
import Derived.Test.YtldohjlcckbfaaaDoorWAt
import Derived.Test.YtldohjlcckbfaaaDoorWEqStruct
import Derived.Test.YtldohjlcckbfaaaDoorWRepsOne
import Derived.Test.YtldohjlcckbfaaaDoorWInv
import Derived.Test.YtldohjlcckbfaaaDoorWInvWords
import Derived.Test.YtldohjlcckbfaaaDoorWGuard
import Derived.Test.YtldohjlcckbfaaaDoorWNEv
import Derived.Test.YtldohjlcckbfaaaDoorWMore
import Derived.Test.YtldohjlcckbfaaaDoorHandX
namespace Go.Proofs.YtldohjlcckbfaaaDoor.Hand
open Go.RowKit Go.Proofs.YtldohjlcckbfaaaDoorW.PrintWords Go.Proofs.YtldohjlcckbfaaaDoorW.PrintLast Go.Proofs.YtldohjlcckbfaaaDoorW.PrintMore
set_option linter.unusedVariables false
set_option linter.unusedSimpArgs false

open Go.Proofs.YtldohjlcckbfaaaDoor.Pre
set_option maxHeartbeats 4000000 in
set_option maxRecDepth 100000 in
theorem kernel_3 (w : World) :
    Calls Tryd.prog 32 #[.agg townV, .int .i64 3, .int .i64 7] w fun e w' => e = .returned (.bool false) ∧ Below w.heap.size w w' := by
  have hmf : ∀ (fn : Fn) (first cap : Array Value) (w : World), (Instr.makeFunc fn first cap).run Tryd.prog w = .ok (.func fn first cap) w := fun _ _ _ _ => rfl
  go_enter Tryd.func32, Tryd.ntmps32
  go_wp2
  go_region_law (go_simp; (first | (go_at_call 46; ((with_reducible refine (ind_make _ _).mono ?_); rintro e w1 ⟨rfl, rfl⟩)) | (go_at_call 47; ((with_reducible refine (abs_make _ _ _).mono ?_); rintro e w1 ⟨rfl, rfl⟩)) | (go_at_call 45; ((refine (all_3 _ _ _ _ _ _ _ _ (tests_at 3 w)).mono ?_); rintro e w1 ⟨rfl, hb⟩))))
  all_goals go_wp2
  all_goals go_ret
  all_goals refine ⟨rfl, Below.trans ?_ (hb.mono (by simp; omega))⟩
  all_goals repeat (first | exact Below.refl _ _ | apply below_drew1 | apply below_alloc)
set_option maxHeartbeats 4000000 in
set_option maxRecDepth 100000 in
theorem kernel_7 (w : World) :
    Calls Tryd.prog 32 #[.agg townV, .int .i64 7, .int .i64 7] w fun e w' => e = .returned (.bool false) ∧ Below w.heap.size w w' := by
  have hmf : ∀ (fn : Fn) (first cap : Array Value) (w : World), (Instr.makeFunc fn first cap).run Tryd.prog w = .ok (.func fn first cap) w := fun _ _ _ _ => rfl
  go_enter Tryd.func32, Tryd.ntmps32
  go_wp2
  go_region_law (go_simp; (first | (go_at_call 46; ((with_reducible refine (ind_make _ _).mono ?_); rintro e w1 ⟨rfl, rfl⟩)) | (go_at_call 47; ((with_reducible refine (abs_make _ _ _).mono ?_); rintro e w1 ⟨rfl, rfl⟩)) | (go_at_call 45; ((refine (all_7 _ _ _ _ _ _ _ _ (tests_at 7 w)).mono ?_); rintro e w1 ⟨rfl, hb⟩))))
  all_goals go_wp2
  all_goals go_ret
  all_goals refine ⟨rfl, Below.trans ?_ (hb.mono (by simp; omega))⟩
  all_goals repeat (first | exact Below.refl _ _ | apply below_drew1 | apply below_alloc)

end Go.Proofs.YtldohjlcckbfaaaDoor.Hand
