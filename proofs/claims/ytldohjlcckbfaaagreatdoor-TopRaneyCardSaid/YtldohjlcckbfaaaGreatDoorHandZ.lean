/- What the closed example of layers 1 and 2 comes to, part 7: the closure that calls itself. -/
import Derived.Test.YtldohjlcckbfaaaGreatDoorProg
import Derived.Below
import Derived.Deep.Draws
import Derived.Deep.AppendLies
import Derived.Maps.AppendAt
import Derived.OwnWalk
import Derived.Laws.BytesArg
import Derived.Laws.MakeOwn
import Derived.Laws.OwnMore
import Derived.Deep.OwnRows
import Derived.Tactics
import Derived.Lib.ConvBytes
import Derived.Laws.Slices
import Derived.WalkKit
import Derived.KernelRfl
import Derived.RowKit3
import Derived.Deep.LoopGhost
import Derived.Deep.QuietTactic
import Derived.BigQuiet
import Derived.WideLaws
import Derived.Deep.DeepCutAuto
import Derived.Deep.CutBlock
import Derived.Deep.RegionHeld3
import Derived.Laws.Rows
import Derived.Lib.AppendStr
import Derived.ArgAppend
import Derived.Laws.IdiomCopy
import Derived.OrdersHeld
import Derived.Laws.BitsLemmas
import Derived.RowKit
import Derived.Test.YtldohjlcckbfaaaGreatDoorWWords
import Derived.Test.YtldohjlcckbfaaaGreatDoorWLast
import Derived.Test.YtldohjlcckbfaaaGreatDoorWTab
import Derived.Test.YtldohjlcckbfaaaGreatDoorWFour
import Derived.Test.YtldohjlcckbfaaaGreatDoorWQPut
import Derived.Test.YtldohjlcckbfaaaGreatDoorWApart
import Derived.Test.YtldohjlcckbfaaaGreatDoorWArr
import Derived.Test.YtldohjlcckbfaaaGreatDoorWZeros
import Derived.Test.YtldohjlcckbfaaaGreatDoorWFoot
import Derived.Test.YtldohjlcckbfaaaGreatDoorWKept
import Derived.Test.YtldohjlcckbfaaaGreatDoorWShare
import Derived.Test.YtldohjlcckbfaaaGreatDoorWN
import Derived.Test.YtldohjlcckbfaaaGreatDoorWFootNe
import Derived.Test.YtldohjlcckbfaaaGreatDoorWAt
import Derived.Test.YtldohjlcckbfaaaGreatDoorWEqStruct
import Derived.Test.YtldohjlcckbfaaaGreatDoorWRepsOne
import Derived.Test.YtldohjlcckbfaaaGreatDoorWInv
import Derived.Test.YtldohjlcckbfaaaGreatDoorWInvWords
import Derived.Test.YtldohjlcckbfaaaGreatDoorWGuard
import Derived.Test.YtldohjlcckbfaaaGreatDoorWNEv
import Derived.Test.YtldohjlcckbfaaaGreatDoorWMore
import Derived.Test.YtldohjlcckbfaaaGreatDoorHandY
import Derived.StillTailTactics
namespace Go.Proofs.YtldohjlcckbfaaaGreatDoor.Hand
open Go.RowKit Go.Proofs.YtldohjlcckbfaaaGreatDoorW.PrintWords Go.Proofs.YtldohjlcckbfaaaGreatDoorW.PrintLast Go.Proofs.YtldohjlcckbfaaaGreatDoorW.PrintMore
set_option linter.unusedVariables false
set_option linter.unusedSimpArgs false

open Go.Proofs.YtldohjlcckbfaaaGreatDoor.Pre
set_option maxHeartbeats 4000000 in
set_option maxRecDepth 100000 in
theorem on_7 (W : World) (bt bh bo bp bv bn : Nat) (xs : List Int) (w : World) (k : KEnv W bt bh bo bp bv bn xs w) :
    Calls Tryz.prog 176 #[.int .i64 7, .int .i64 3, .pointer (some ⟨bv, 0, none⟩), .pointer (some ⟨bp, 0, none⟩), .pointer (some ⟨bn, 0, none⟩)] w fun e w' => e = .returned (.bool false) ∧ KEnv W bt bh bo bp bv bn [0, 1, 2] w' := by
  have K0 := Aside0.mk k
  have c0 := cellAt k.v
  clear k
  go_enter Tryz.func176, Tryz.ntmps176
  go_wp2_with (go_at_call 136; refine (visit_7 W bt bh bo bp bv bn _ _ K0.out).mono ?_; rintro e w1 ⟨rfl, kk⟩; have K1 := Aside0.mk kk; have p1 := cellAt kk.p; have n1 := cellAt kk.n; clear kk K0 c0)
  refine wp_loop_rounds 1 ?_
  rw [rounds_succ]
  go_wp2
  go_ret
  exact ⟨rfl, K1.out⟩
set_option maxHeartbeats 4000000 in
set_option maxRecDepth 100000 in
theorem on_3 (W : World) (bt bh bo bp bv bn : Nat) (xs : List Int) (w : World) (k : KEnv W bt bh bo bp bv bn xs w) :
    Calls Tryz.prog 176 #[.int .i64 3, .int .i64 2, .pointer (some ⟨bv, 0, none⟩), .pointer (some ⟨bp, 0, none⟩), .pointer (some ⟨bn, 0, none⟩)] w fun e w' => e = .returned (.bool false) ∧ KEnv W bt bh bo bp bv bn [0, 1, 2] w' := by
  have K0 := Aside0.mk k
  have c0 := cellAt k.v
  clear k
  have d2 : bits .and .i64 1 1 = 1 := by rfl
  have o2 : bits .or .i64 3 4 = 7 := by rfl
  go_enter Tryz.func176, Tryz.ntmps176
  go_wp2_with (go_at_call 136; refine (visit_3 W bt bh bo bp bv bn _ _ K0.out).mono ?_; rintro e w1 ⟨rfl, kk⟩; have K1 := Aside0.mk kk; have p1 := cellAt kk.p; have n1 := cellAt kk.n; clear kk K0 c0)
  refine wp_loop_rounds 2 ?_
  rw [rounds_succ]
  go_wp2
  go_still_tail 13, (by kernel_rfl)
  change wpList _ _ _ _ _ (World.drew w1)
  have Kd := Aside0.mk (K1.out.keep (below_drew1 (Below.refl w1.heap.size w1)))
  go_wp2_with (go_at_call 176; refine (on_7 W bt bh bo bp bv bn _ _ Kd.out).mono ?_; rintro e w2 ⟨rfl, kk⟩; clear Kd)
  have K2 := Aside0.mk kk
  have p2 := cellAt kk.p
  have n2 := cellAt kk.n
  clear kk K1 p1 n1
  rw [rounds_succ]
  go_wp2
  go_ret
  exact ⟨rfl, K2.out⟩
set_option maxHeartbeats 4000000 in
set_option maxRecDepth 100000 in
theorem on_5 (W : World) (bt bh bo bp bv bn : Nat) (xs : List Int) (w : World) (k : KEnv W bt bh bo bp bv bn xs w) :
    Calls Tryz.prog 176 #[.int .i64 5, .int .i64 3, .pointer (some ⟨bv, 0, none⟩), .pointer (some ⟨bp, 0, none⟩), .pointer (some ⟨bn, 0, none⟩)] w fun e w' => e = .returned (.bool true) ∧ KEnv W bt bh bo bp bv bn [0, 2] w' := by
  have K0 := Aside0.mk k
  have c0 := cellAt k.v
  clear k
  go_enter Tryz.func176, Tryz.ntmps176
  go_wp2_with (go_at_call 136; refine (visit_5 W bt bh bo bp bv bn _ _ K0.out).mono ?_; rintro e w1 ⟨rfl, kk⟩; have K1 := Aside0.mk kk; have p1 := cellAt kk.p; have n1 := cellAt kk.n; clear kk K0 c0)
  go_ret
  exact ⟨rfl, K1.out⟩
set_option maxHeartbeats 4000000 in
set_option maxRecDepth 100000 in
theorem on_1 (W : World) (bt bh bo bp bv bn : Nat) (xs : List Int) (w : World) (k : KEnv W bt bh bo bp bv bn xs w) :
    Calls Tryz.prog 176 #[.int .i64 1, .int .i64 1, .pointer (some ⟨bv, 0, none⟩), .pointer (some ⟨bp, 0, none⟩), .pointer (some ⟨bn, 0, none⟩)] w fun e w' => e = .returned (.bool true) ∧ KEnv W bt bh bo bp bv bn [0, 2] w' := by
  have K0 := Aside0.mk k
  have c0 := cellAt k.v
  clear k
  have d1 : bits .and .i64 3 1 = 1 := by rfl
  have o1 : bits .or .i64 1 2 = 3 := by rfl
  have d2 : bits .and .i64 1 1 = 1 := by rfl
  have o2 : bits .or .i64 1 4 = 5 := by rfl
  go_enter Tryz.func176, Tryz.ntmps176
  go_wp2_with (go_at_call 136; refine (visit_1 W bt bh bo bp bv bn _ _ K0.out).mono ?_; rintro e w1 ⟨rfl, kk⟩; have K1 := Aside0.mk kk; have p1 := cellAt kk.p; have n1 := cellAt kk.n; clear kk K0 c0)
  refine wp_loop_rounds 3 ?_
  rw [rounds_succ]
  go_wp2
  go_still_tail 13, (by kernel_rfl)
  change wpList _ _ _ _ _ (World.drew w1)
  have Kd := Aside0.mk (K1.out.keep (below_drew1 (Below.refl w1.heap.size w1)))
  go_wp2_with (go_at_call 176; refine (on_3 W bt bh bo bp bv bn _ _ Kd.out).mono ?_; rintro e w2 ⟨rfl, kk⟩; clear Kd)
  have K2 := Aside0.mk kk
  have p2 := cellAt kk.p
  have n2 := cellAt kk.n
  clear kk K1 p1 n1
  rw [rounds_succ]
  go_wp2
  go_still_tail 13, (by kernel_rfl)
  change wpList _ _ _ _ _ (World.drew w2)
  have Kd := Aside0.mk (K2.out.keep (below_drew1 (Below.refl w2.heap.size w2)))
  go_wp2_with (go_at_call 176; refine (on_5 W bt bh bo bp bv bn _ _ Kd.out).mono ?_; rintro e w3 ⟨rfl, kk⟩; clear Kd)
  have K3 := Aside0.mk kk
  have p3 := cellAt kk.p
  have n3 := cellAt kk.n
  clear kk K2 p2 n2
  go_ret
  exact ⟨rfl, K3.out⟩
set_option maxHeartbeats 4000000 in
set_option maxRecDepth 100000 in
theorem on_0 (W : World) (bt bh bo bp bv bn : Nat) (xs : List Int) (w : World) (k : KEnv W bt bh bo bp bv bn xs w) :
    Calls Tryz.prog 176 #[.int .i64 0, .int .i64 0, .pointer (some ⟨bv, 0, none⟩), .pointer (some ⟨bp, 0, none⟩), .pointer (some ⟨bn, 0, none⟩)] w fun e w' => e = .returned (.bool true) ∧ KEnv W bt bh bo bp bv bn [0, 2] w' := by
  have K0 := Aside0.mk k
  have c0 := cellAt k.v
  clear k
  have d0 : bits .and .i64 7 1 = 1 := by rfl
  have o0 : bits .or .i64 0 1 = 1 := by rfl
  have d1 : bits .and .i64 3 1 = 1 := by rfl
  have o1 : bits .or .i64 0 2 = 2 := by rfl
  have d2 : bits .and .i64 1 1 = 1 := by rfl
  have o2 : bits .or .i64 0 4 = 4 := by rfl
  go_enter Tryz.func176, Tryz.ntmps176
  go_wp2_with (go_at_call 136; refine (visit_0 W bt bh bo bp bv bn _ _ K0.out).mono ?_; rintro e w1 ⟨rfl, kk⟩; have K1 := Aside0.mk kk; have p1 := cellAt kk.p; have n1 := cellAt kk.n; clear kk K0 c0)
  refine wp_loop_rounds 2 ?_
  rw [rounds_succ]
  go_wp2
  go_still_tail 13, (by kernel_rfl)
  change wpList _ _ _ _ _ (World.drew w1)
  have Kd := Aside0.mk (K1.out.keep (below_drew1 (Below.refl w1.heap.size w1)))
  go_wp2_with (go_at_call 176; refine (on_1 W bt bh bo bp bv bn _ _ Kd.out).mono ?_; rintro e w2 ⟨rfl, kk⟩; clear Kd)
  have K2 := Aside0.mk kk
  have p2 := cellAt kk.p
  have n2 := cellAt kk.n
  clear kk K1 p1 n1
  go_ret
  exact ⟨rfl, K2.out⟩

end Go.Proofs.YtldohjlcckbfaaaGreatDoor.Hand
