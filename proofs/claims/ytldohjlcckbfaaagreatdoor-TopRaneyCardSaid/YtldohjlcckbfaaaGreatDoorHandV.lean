/- What the closed example of layers 1 and 2 comes to, part 4: which sets are kernels. -/
import Derived.Test.YtldohjlcckbfaaaGreatDoorProg
import Derived.Below
import Derived.Deep.Draws
import Derived.Deep.AppendLies
import Derived.Maps.AppendAt
import Derived.OwnWalk
import Derived.Laws.BytesArg
import Derived.Laws.MakeOwn
import Derived.Laws.OwnMore
import Derived.Deep.OwnRows
import Derived.Tactics
import Derived.Lib.ConvBytes
import Derived.Laws.Slices
import Derived.WalkKit
import Derived.KernelRfl
import Derived.RowKit3
import Derived.Deep.LoopGhost
import Derived.Deep.QuietTactic
import Derived.BigQuiet
import Derived.WideLaws
import Derived.Deep.DeepCutAuto
import Derived.Deep.CutBlock
import Derived.Deep.RegionHeld3
import Derived.Laws.Rows
import Derived.Lib.AppendStr
import Derived.ArgAppend
import Derived.Laws.IdiomCopy
import Derived.OrdersHeld
import Derived.Laws.BitsLemmas
import Derived.RowKit
import Derived.Test.YtldohjlcckbfaaaGreatDoorWWords
import Derived.Test.YtldohjlcckbfaaaGreatDoorWLast
import Derived.Test.YtldohjlcckbfaaaGreatDoorWTab
import Derived.Test.YtldohjlcckbfaaaGreatDoorWFour
import Derived.Test.YtldohjlcckbfaaaGreatDoorWQPut
import Derived.Test.YtldohjlcckbfaaaGreatDoorWApart
import Derived.Test.YtldohjlcckbfaaaGreatDoorWArr
import Derived.Test.YtldohjlcckbfaaaGreatDoorWZeros
import Derived.Test.YtldohjlcckbfaaaGreatDoorWFoot
import Derived.Test.YtldohjlcckbfaaaGreatDoorWKept
import Derived.Test.YtldohjlcckbfaaaGreatDoorWShare
import Derived.Test.YtldohjlcckbfaaaGreatDoorWN
import Derived.Test.YtldohjlcckbfaaaGreatDoorWFootNe
import Derived.Test.YtldohjlcckbfaaaGreatDoorWAt
import Derived.Test.YtldohjlcckbfaaaGreatDoorWEqStruct
import Derived.Test.YtldohjlcckbfaaaGreatDoorWRepsOne
import Derived.Test.YtldohjlcckbfaaaGreatDoorWInv
import Derived.Test.YtldohjlcckbfaaaGreatDoorWInvWords
import Derived.Test.YtldohjlcckbfaaaGreatDoorWGuard
import Derived.Test.YtldohjlcckbfaaaGreatDoorWNEv
import Derived.Test.YtldohjlcckbfaaaGreatDoorWMore
import Derived.Test.YtldohjlcckbfaaaGreatDoorHandS
namespace Go.Proofs.YtldohjlcckbfaaaGreatDoor.Hand
open Go.RowKit Go.Proofs.YtldohjlcckbfaaaGreatDoorW.PrintWords Go.Proofs.YtldohjlcckbfaaaGreatDoorW.PrintLast Go.Proofs.YtldohjlcckbfaaaGreatDoorW.PrintMore
set_option linter.unusedVariables false
set_option linter.unusedSimpArgs false

open Go.Proofs.YtldohjlcckbfaaaGreatDoor.Pre
set_option maxHeartbeats 2000000 in
set_option maxRecDepth 100000 in
theorem ind_0_0 (cs ct : Nat) (w : World) (hs : w.cell? ⟨cs, 0, none⟩ = some (.int .i64 0)) (hT : w.cell? ⟨ct, 1, none⟩ = some (.int .i64 2)) :
    Calls Tryz.prog 177 #[.int .i64 0, .pointer (some ⟨cs, 0, none⟩), .pointer (some ⟨ct, 0, none⟩)] w fun e w' => e = .returned (.bool true) ∧ Drawn0 w w' := by
  have b1 : bits .and .i64 0 1 = 0 := by rfl
  have b2 : bits .and .i64 2 0 = 0 := by rfl
  go_enter Tryz.func177, Tryz.ntmps177
  go_wp2
  go_quiet (fail)
  go_wp2
  go_ret
  exact ⟨rfl, ⟨_, rfl⟩⟩
set_option maxHeartbeats 2000000 in
set_option maxRecDepth 100000 in
theorem ind_0_1 (cs ct : Nat) (w : World) (hs : w.cell? ⟨cs, 0, none⟩ = some (.int .i64 1)) (hT : w.cell? ⟨ct, 1, none⟩ = some (.int .i64 2)) :
    Calls Tryz.prog 177 #[.int .i64 0, .pointer (some ⟨cs, 0, none⟩), .pointer (some ⟨ct, 0, none⟩)] w fun e w' => e = .returned (.bool true) ∧ Drawn0 w w' := by
  have b1 : bits .and .i64 1 1 = 1 := by rfl
  have b2 : bits .and .i64 2 1 = 0 := by rfl
  go_enter Tryz.func177, Tryz.ntmps177
  go_wp2
  go_quiet (fail)
  go_wp2
  go_ret
  exact ⟨rfl, ⟨_, rfl⟩⟩
set_option maxHeartbeats 2000000 in
set_option maxRecDepth 100000 in
theorem ind_0_3 (cs ct : Nat) (w : World) (hs : w.cell? ⟨cs, 0, none⟩ = some (.int .i64 3)) (hT : w.cell? ⟨ct, 1, none⟩ = some (.int .i64 2)) :
    Calls Tryz.prog 177 #[.int .i64 0, .pointer (some ⟨cs, 0, none⟩), .pointer (some ⟨ct, 0, none⟩)] w fun e w' => e = .returned (.bool false) ∧ Drawn0 w w' := by
  have b1 : bits .and .i64 3 1 = 1 := by rfl
  have b2 : bits .and .i64 2 3 = 2 := by rfl
  go_enter Tryz.func177, Tryz.ntmps177
  go_wp2
  go_quiet (fail)
  go_wp2
  go_ret
  exact ⟨rfl, ⟨_, rfl⟩⟩
set_option maxHeartbeats 2000000 in
set_option maxRecDepth 100000 in
theorem ind_0_5 (cs ct : Nat) (w : World) (hs : w.cell? ⟨cs, 0, none⟩ = some (.int .i64 5)) (hT : w.cell? ⟨ct, 1, none⟩ = some (.int .i64 2)) :
    Calls Tryz.prog 177 #[.int .i64 0, .pointer (some ⟨cs, 0, none⟩), .pointer (some ⟨ct, 0, none⟩)] w fun e w' => e = .returned (.bool true) ∧ Drawn0 w w' := by
  have b1 : bits .and .i64 5 1 = 1 := by rfl
  have b2 : bits .and .i64 2 5 = 0 := by rfl
  go_enter Tryz.func177, Tryz.ntmps177
  go_wp2
  go_quiet (fail)
  go_wp2
  go_ret
  exact ⟨rfl, ⟨_, rfl⟩⟩
set_option maxHeartbeats 2000000 in
set_option maxRecDepth 100000 in
theorem ind_0_7 (cs ct : Nat) (w : World) (hs : w.cell? ⟨cs, 0, none⟩ = some (.int .i64 7)) (hT : w.cell? ⟨ct, 1, none⟩ = some (.int .i64 2)) :
    Calls Tryz.prog 177 #[.int .i64 0, .pointer (some ⟨cs, 0, none⟩), .pointer (some ⟨ct, 0, none⟩)] w fun e w' => e = .returned (.bool false) ∧ Drawn0 w w' := by
  have b1 : bits .and .i64 7 1 = 1 := by rfl
  have b2 : bits .and .i64 2 7 = 2 := by rfl
  go_enter Tryz.func177, Tryz.ntmps177
  go_wp2
  go_quiet (fail)
  go_wp2
  go_ret
  exact ⟨rfl, ⟨_, rfl⟩⟩
set_option maxHeartbeats 2000000 in
set_option maxRecDepth 100000 in
theorem ind_1_1 (cs ct : Nat) (w : World) (hs : w.cell? ⟨cs, 0, none⟩ = some (.int .i64 1)) (hT : w.cell? ⟨ct, 2, none⟩ = some (.int .i64 4)) :
    Calls Tryz.prog 177 #[.int .i64 1, .pointer (some ⟨cs, 0, none⟩), .pointer (some ⟨ct, 0, none⟩)] w fun e w' => e = .returned (.bool true) ∧ Drawn0 w w' := by
  have b1 : bits .and .i64 0 1 = 0 := by rfl
  have b2 : bits .and .i64 4 1 = 0 := by rfl
  go_enter Tryz.func177, Tryz.ntmps177
  go_wp2
  go_quiet (fail)
  go_wp2
  go_ret
  exact ⟨rfl, ⟨_, rfl⟩⟩
set_option maxHeartbeats 2000000 in
set_option maxRecDepth 100000 in
theorem ind_1_5 (cs ct : Nat) (w : World) (hs : w.cell? ⟨cs, 0, none⟩ = some (.int .i64 5)) (hT : w.cell? ⟨ct, 2, none⟩ = some (.int .i64 4)) :
    Calls Tryz.prog 177 #[.int .i64 1, .pointer (some ⟨cs, 0, none⟩), .pointer (some ⟨ct, 0, none⟩)] w fun e w' => e = .returned (.bool true) ∧ Drawn0 w w' := by
  have b1 : bits .and .i64 2 1 = 0 := by rfl
  have b2 : bits .and .i64 4 5 = 4 := by rfl
  go_enter Tryz.func177, Tryz.ntmps177
  go_wp2
  go_quiet (fail)
  go_wp2
  go_ret
  exact ⟨rfl, ⟨_, rfl⟩⟩
set_option maxHeartbeats 2000000 in
set_option maxRecDepth 100000 in
theorem ind_2_5 (cs ct : Nat) (w : World) (hs : w.cell? ⟨cs, 0, none⟩ = some (.int .i64 5)) (hT : w.cell? ⟨ct, 3, none⟩ = some (.int .i64 0)) :
    Calls Tryz.prog 177 #[.int .i64 2, .pointer (some ⟨cs, 0, none⟩), .pointer (some ⟨ct, 0, none⟩)] w fun e w' => e = .returned (.bool true) ∧ Drawn0 w w' := by
  have b1 : bits .and .i64 1 1 = 1 := by rfl
  have b2 : bits .and .i64 0 5 = 0 := by rfl
  go_enter Tryz.func177, Tryz.ntmps177
  go_wp2
  go_quiet (fail)
  go_wp2
  go_ret
  exact ⟨rfl, ⟨_, rfl⟩⟩
set_option maxHeartbeats 2000000 in
set_option maxRecDepth 100000 in
theorem abs_0_0 (cp cs ct : Nat) (w : World) (hp : w.cell? ⟨cp, 0, none⟩ = some (.int .i64 7)) (hs : w.cell? ⟨cs, 0, none⟩ = some (.int .i64 0)) (hT : w.cell? ⟨ct, 1, none⟩ = some (.int .i64 2)) :
    Calls Tryz.prog 178 #[.int .i64 0, .pointer (some ⟨cp, 0, none⟩), .pointer (some ⟨cs, 0, none⟩), .pointer (some ⟨ct, 0, none⟩)] w fun e w' => e = .returned (.bool false) ∧ Drawn0 w w' := by
  have b0 : bits .andNot .i64 7 0 = 7 := by rfl
  have b1 : bits .and .i64 7 1 = 1 := by rfl
  have b2 : bits .and .i64 2 0 = 0 := by rfl
  go_enter Tryz.func178, Tryz.ntmps178
  go_wp2
  go_quiet (fail)
  go_wp2
  go_ret
  exact ⟨rfl, ⟨_, rfl⟩⟩
set_option maxHeartbeats 2000000 in
set_option maxRecDepth 100000 in
theorem abs_0_1 (cp cs ct : Nat) (w : World) (hp : w.cell? ⟨cp, 0, none⟩ = some (.int .i64 7)) (hs : w.cell? ⟨cs, 0, none⟩ = some (.int .i64 1)) (hT : w.cell? ⟨ct, 1, none⟩ = some (.int .i64 2)) :
    Calls Tryz.prog 178 #[.int .i64 0, .pointer (some ⟨cp, 0, none⟩), .pointer (some ⟨cs, 0, none⟩), .pointer (some ⟨ct, 0, none⟩)] w fun e w' => e = .returned (.bool true) ∧ Drawn0 w w' := by
  have b0 : bits .andNot .i64 7 1 = 6 := by rfl
  have b1 : bits .and .i64 6 1 = 0 := by rfl
  have b2 : bits .and .i64 2 1 = 0 := by rfl
  go_enter Tryz.func178, Tryz.ntmps178
  go_wp2
  go_quiet (fail)
  go_wp2
  go_ret
  exact ⟨rfl, ⟨_, rfl⟩⟩
set_option maxHeartbeats 2000000 in
set_option maxRecDepth 100000 in
theorem abs_0_5 (cp cs ct : Nat) (w : World) (hp : w.cell? ⟨cp, 0, none⟩ = some (.int .i64 7)) (hs : w.cell? ⟨cs, 0, none⟩ = some (.int .i64 5)) (hT : w.cell? ⟨ct, 1, none⟩ = some (.int .i64 2)) :
    Calls Tryz.prog 178 #[.int .i64 0, .pointer (some ⟨cp, 0, none⟩), .pointer (some ⟨cs, 0, none⟩), .pointer (some ⟨ct, 0, none⟩)] w fun e w' => e = .returned (.bool true) ∧ Drawn0 w w' := by
  have b0 : bits .andNot .i64 7 5 = 2 := by rfl
  have b1 : bits .and .i64 2 1 = 0 := by rfl
  have b2 : bits .and .i64 2 5 = 0 := by rfl
  go_enter Tryz.func178, Tryz.ntmps178
  go_wp2
  go_quiet (fail)
  go_wp2
  go_ret
  exact ⟨rfl, ⟨_, rfl⟩⟩
set_option maxHeartbeats 2000000 in
set_option maxRecDepth 100000 in
theorem abs_1_1 (cp cs ct : Nat) (w : World) (hp : w.cell? ⟨cp, 0, none⟩ = some (.int .i64 7)) (hs : w.cell? ⟨cs, 0, none⟩ = some (.int .i64 1)) (hT : w.cell? ⟨ct, 2, none⟩ = some (.int .i64 4)) :
    Calls Tryz.prog 178 #[.int .i64 1, .pointer (some ⟨cp, 0, none⟩), .pointer (some ⟨cs, 0, none⟩), .pointer (some ⟨ct, 0, none⟩)] w fun e w' => e = .returned (.bool false) ∧ Drawn0 w w' := by
  have b0 : bits .andNot .i64 7 1 = 6 := by rfl
  have b1 : bits .and .i64 3 1 = 1 := by rfl
  have b2 : bits .and .i64 4 1 = 0 := by rfl
  go_enter Tryz.func178, Tryz.ntmps178
  go_wp2
  go_quiet (fail)
  go_wp2
  go_ret
  exact ⟨rfl, ⟨_, rfl⟩⟩
set_option maxHeartbeats 2000000 in
set_option maxRecDepth 100000 in
theorem abs_1_5 (cp cs ct : Nat) (w : World) (hp : w.cell? ⟨cp, 0, none⟩ = some (.int .i64 7)) (hs : w.cell? ⟨cs, 0, none⟩ = some (.int .i64 5)) (hT : w.cell? ⟨ct, 2, none⟩ = some (.int .i64 4)) :
    Calls Tryz.prog 178 #[.int .i64 1, .pointer (some ⟨cp, 0, none⟩), .pointer (some ⟨cs, 0, none⟩), .pointer (some ⟨ct, 0, none⟩)] w fun e w' => e = .returned (.bool true) ∧ Drawn0 w w' := by
  have b0 : bits .andNot .i64 7 5 = 2 := by rfl
  have b1 : bits .and .i64 1 1 = 1 := by rfl
  have b2 : bits .and .i64 4 5 = 4 := by rfl
  go_enter Tryz.func178, Tryz.ntmps178
  go_wp2
  go_quiet (fail)
  go_wp2
  go_ret
  exact ⟨rfl, ⟨_, rfl⟩⟩
set_option maxHeartbeats 2000000 in
set_option maxRecDepth 100000 in
theorem abs_2_5 (cp cs ct : Nat) (w : World) (hp : w.cell? ⟨cp, 0, none⟩ = some (.int .i64 7)) (hs : w.cell? ⟨cs, 0, none⟩ = some (.int .i64 5)) (hT : w.cell? ⟨ct, 3, none⟩ = some (.int .i64 0)) :
    Calls Tryz.prog 178 #[.int .i64 2, .pointer (some ⟨cp, 0, none⟩), .pointer (some ⟨cs, 0, none⟩), .pointer (some ⟨ct, 0, none⟩)] w fun e w' => e = .returned (.bool true) ∧ Drawn0 w w' := by
  have b0 : bits .andNot .i64 7 5 = 2 := by rfl
  have b1 : bits .and .i64 0 1 = 0 := by rfl
  have b2 : bits .and .i64 0 5 = 0 := by rfl
  go_enter Tryz.func178, Tryz.ntmps178
  go_wp2
  go_quiet (fail)
  go_wp2
  go_ret
  exact ⟨rfl, ⟨_, rfl⟩⟩
set_option maxHeartbeats 2000000 in
set_option maxRecDepth 100000 in
theorem ind_make (S : Int) (w : World) : Calls Tryz.prog 138 #[.agg townV, .int .i64 S] w fun e w' => e = .returned (.func (.func 177) #[] #[.pointer (some ⟨w.heap.size + 1, 0, none⟩), .pointer (some ⟨w.heap.size, 0, none⟩)]) ∧ w' = (w.alloc (.cells townV 147)).alloc (.cells #[.int .i64 S] 3) := by
  have hmf : ∀ (fn : Fn) (first cap : Array Value) (w : World), (Instr.makeFunc fn first cap).run Tryz.prog w = .ok (.func fn first cap) w := fun _ _ _ _ => rfl
  go_enter Tryz.func138, Tryz.ntmps138
  go_wp2
  go_ret
  exact ⟨rfl, rfl⟩
set_option maxHeartbeats 2000000 in
set_option maxRecDepth 100000 in
theorem abs_make (S p : Int) (w : World) : Calls Tryz.prog 139 #[.agg townV, .int .i64 S, .int .i64 p] w fun e w' => e = .returned (.func (.func 178) #[] #[.pointer (some ⟨w.heap.size + 2, 0, none⟩), .pointer (some ⟨w.heap.size + 1, 0, none⟩), .pointer (some ⟨w.heap.size, 0, none⟩)]) ∧ w' = ((w.alloc (.cells townV 147)).alloc (.cells #[.int .i64 S] 3)).alloc (.cells #[.int .i64 p] 3) := by
  have hmf : ∀ (fn : Fn) (first cap : Array Value) (w : World), (Instr.makeFunc fn first cap).run Tryz.prog w = .ok (.func fn first cap) w := fun _ _ _ _ => rfl
  go_enter Tryz.func139, Tryz.ntmps139
  go_wp2
  go_ret
  exact ⟨rfl, rfl⟩
/-- What the two tests of a set have captured, and the row of the two. -/
structure Tests (S : Int) (c1 t1 c2 p2 t2 r : Nat) (w : World) : Prop where
  s1 : w.cell? ⟨c1, 0, none⟩ = some (.int .i64 S)
  a1 : TownAt t1 w
  s2 : w.cell? ⟨c2, 0, none⟩ = some (.int .i64 S)
  q2 : w.cell? ⟨p2, 0, none⟩ = some (.int .i64 7)
  a2 : TownAt t2 w
  f1 : w.cell? ⟨r, 0, none⟩ = some (.func (.func 177) #[] #[.pointer (some ⟨c1, 0, none⟩), .pointer (some ⟨t1, 0, none⟩)])
  f2 : w.cell? ⟨r, 1, none⟩ = some (.func (.func 178) #[] #[.pointer (some ⟨p2, 0, none⟩), .pointer (some ⟨c2, 0, none⟩), .pointer (some ⟨t2, 0, none⟩)])
theorem Tests.below {S : Int} {c1 t1 c2 p2 t2 r : Nat} {w w' : World} (h : Tests S c1 t1 c2 p2 t2 r w) (hb : Below w.heap.size w w') : Tests S c1 t1 c2 p2 t2 r w' :=
  ⟨pw_cell_below hb h.s1, h.a1.below hb, pw_cell_below hb h.s2, pw_cell_below hb h.q2, h.a2.below hb, pw_cell_below hb h.f1, pw_cell_below hb h.f2⟩
theorem drawn_below {w w' : World} (h : Drawn0 w w') : Below w.heap.size w w' := by
  obtain ⟨n, rfl⟩ := h
  exact pw_below_drewN (Below.refl _ _) n
set_option maxHeartbeats 4000000 in
set_option maxRecDepth 100000 in
theorem all_0 (c1 t1 c2 p2 t2 r cap : Nat) (w : World) (h : Tests 0 c1 t1 c2 p2 t2 r w) :
    Calls Tryz.prog 137 #[.agg townV, .slice (some ⟨r, 0, none⟩) 2 cap] w fun e w' => e = .returned (.bool false) ∧ Below w.heap.size w w' := by
  have hb0 := below_alloc (Below.refl _ w) (.cells townV 147)
  have HT := Aside0.mk (h.below hb0)
  have HB := Aside0.mk hb0
  have k1 := HT.out.f1
  have k2 := HT.out.f2
  clear h hb0
  go_enter Tryz.func137, Tryz.ntmps137
  go_wp2
  obtain ⟨w0, hw0⟩ : ∃ w0, w.alloc (.cells townV 147) = w0 := ⟨_, rfl⟩
  rw [hw0] at HT HB k1 k2 ⊢
  clear hw0
  refine wp_loop_rounds 4 ?_
  rw [rounds_succ]
  go_wp2
  refine wp_loop_rounds 3 ?_
  rw [rounds_succ]
  go_wp2_with fail
  refine (ind_0_0 _ _ _ HT.out.s1 (HT.out.a1.cell 1 _ rfl)).mono ?_
  rintro e w1 ⟨rfl, hb⟩
  have hb' := drawn_below hb
  have HT1 := Aside0.mk (HT.out.below hb')
  have HB1 := Aside0.mk (HB.out.trans (hb'.mono HB.out.size))
  have k1 := HT1.out.f1
  have k2 := HT1.out.f2
  clear hb hb' HT HB
  go_wp2
  rw [rounds_succ]
  go_wp2_with fail
  refine (abs_0_0 _ _ _ _ HT1.out.q2 HT1.out.s2 (HT1.out.a2.cell 1 _ rfl)).mono ?_
  rintro e w2 ⟨rfl, hb⟩
  have hb' := drawn_below hb
  have HT2 := Aside0.mk (HT1.out.below hb')
  have HB2 := Aside0.mk (HB1.out.trans (hb'.mono HB1.out.size))
  have k1 := HT2.out.f1
  have k2 := HT2.out.f2
  clear hb hb' HT1 HB1
  go_wp2
  go_ret
  exact ⟨rfl, HB2.out⟩
set_option maxHeartbeats 4000000 in
set_option maxRecDepth 100000 in
theorem all_1 (c1 t1 c2 p2 t2 r cap : Nat) (w : World) (h : Tests 1 c1 t1 c2 p2 t2 r w) :
    Calls Tryz.prog 137 #[.agg townV, .slice (some ⟨r, 0, none⟩) 2 cap] w fun e w' => e = .returned (.bool false) ∧ Below w.heap.size w w' := by
  have hb0 := below_alloc (Below.refl _ w) (.cells townV 147)
  have HT := Aside0.mk (h.below hb0)
  have HB := Aside0.mk hb0
  have k1 := HT.out.f1
  have k2 := HT.out.f2
  clear h hb0
  go_enter Tryz.func137, Tryz.ntmps137
  go_wp2
  obtain ⟨w0, hw0⟩ : ∃ w0, w.alloc (.cells townV 147) = w0 := ⟨_, rfl⟩
  rw [hw0] at HT HB k1 k2 ⊢
  clear hw0
  refine wp_loop_rounds 4 ?_
  rw [rounds_succ]
  go_wp2
  refine wp_loop_rounds 3 ?_
  rw [rounds_succ]
  go_wp2_with fail
  refine (ind_0_1 _ _ _ HT.out.s1 (HT.out.a1.cell 1 _ rfl)).mono ?_
  rintro e w1 ⟨rfl, hb⟩
  have hb' := drawn_below hb
  have HT1 := Aside0.mk (HT.out.below hb')
  have HB1 := Aside0.mk (HB.out.trans (hb'.mono HB.out.size))
  have k1 := HT1.out.f1
  have k2 := HT1.out.f2
  clear hb hb' HT HB
  go_wp2
  rw [rounds_succ]
  go_wp2_with fail
  refine (abs_0_1 _ _ _ _ HT1.out.q2 HT1.out.s2 (HT1.out.a2.cell 1 _ rfl)).mono ?_
  rintro e w2 ⟨rfl, hb⟩
  have hb' := drawn_below hb
  have HT2 := Aside0.mk (HT1.out.below hb')
  have HB2 := Aside0.mk (HB1.out.trans (hb'.mono HB1.out.size))
  have k1 := HT2.out.f1
  have k2 := HT2.out.f2
  clear hb hb' HT1 HB1
  go_wp2
  rw [rounds_succ]
  go_wp2
  rw [rounds_succ]
  go_wp2
  refine wp_loop_rounds 3 ?_
  rw [rounds_succ]
  go_wp2_with fail
  refine (ind_1_1 _ _ _ HT2.out.s1 (HT2.out.a1.cell 2 _ rfl)).mono ?_
  rintro e w3 ⟨rfl, hb⟩
  have hb' := drawn_below hb
  have HT3 := Aside0.mk (HT2.out.below hb')
  have HB3 := Aside0.mk (HB2.out.trans (hb'.mono HB2.out.size))
  have k1 := HT3.out.f1
  have k2 := HT3.out.f2
  clear hb hb' HT2 HB2
  go_wp2
  rw [rounds_succ]
  go_wp2_with fail
  refine (abs_1_1 _ _ _ _ HT3.out.q2 HT3.out.s2 (HT3.out.a2.cell 2 _ rfl)).mono ?_
  rintro e w4 ⟨rfl, hb⟩
  have hb' := drawn_below hb
  have HT4 := Aside0.mk (HT3.out.below hb')
  have HB4 := Aside0.mk (HB3.out.trans (hb'.mono HB3.out.size))
  have k1 := HT4.out.f1
  have k2 := HT4.out.f2
  clear hb hb' HT3 HB3
  go_wp2
  go_ret
  exact ⟨rfl, HB4.out⟩
set_option maxHeartbeats 4000000 in
set_option maxRecDepth 100000 in
theorem all_3 (c1 t1 c2 p2 t2 r cap : Nat) (w : World) (h : Tests 3 c1 t1 c2 p2 t2 r w) :
    Calls Tryz.prog 137 #[.agg townV, .slice (some ⟨r, 0, none⟩) 2 cap] w fun e w' => e = .returned (.bool false) ∧ Below w.heap.size w w' := by
  have hb0 := below_alloc (Below.refl _ w) (.cells townV 147)
  have HT := Aside0.mk (h.below hb0)
  have HB := Aside0.mk hb0
  have k1 := HT.out.f1
  have k2 := HT.out.f2
  clear h hb0
  go_enter Tryz.func137, Tryz.ntmps137
  go_wp2
  obtain ⟨w0, hw0⟩ : ∃ w0, w.alloc (.cells townV 147) = w0 := ⟨_, rfl⟩
  rw [hw0] at HT HB k1 k2 ⊢
  clear hw0
  refine wp_loop_rounds 4 ?_
  rw [rounds_succ]
  go_wp2
  refine wp_loop_rounds 3 ?_
  rw [rounds_succ]
  go_wp2_with fail
  refine (ind_0_3 _ _ _ HT.out.s1 (HT.out.a1.cell 1 _ rfl)).mono ?_
  rintro e w1 ⟨rfl, hb⟩
  have hb' := drawn_below hb
  have HT1 := Aside0.mk (HT.out.below hb')
  have HB1 := Aside0.mk (HB.out.trans (hb'.mono HB.out.size))
  have k1 := HT1.out.f1
  have k2 := HT1.out.f2
  clear hb hb' HT HB
  go_wp2
  go_ret
  exact ⟨rfl, HB1.out⟩
set_option maxHeartbeats 4000000 in
set_option maxRecDepth 100000 in
theorem all_7 (c1 t1 c2 p2 t2 r cap : Nat) (w : World) (h : Tests 7 c1 t1 c2 p2 t2 r w) :
    Calls Tryz.prog 137 #[.agg townV, .slice (some ⟨r, 0, none⟩) 2 cap] w fun e w' => e = .returned (.bool false) ∧ Below w.heap.size w w' := by
  have hb0 := below_alloc (Below.refl _ w) (.cells townV 147)
  have HT := Aside0.mk (h.below hb0)
  have HB := Aside0.mk hb0
  have k1 := HT.out.f1
  have k2 := HT.out.f2
  clear h hb0
  go_enter Tryz.func137, Tryz.ntmps137
  go_wp2
  obtain ⟨w0, hw0⟩ : ∃ w0, w.alloc (.cells townV 147) = w0 := ⟨_, rfl⟩
  rw [hw0] at HT HB k1 k2 ⊢
  clear hw0
  refine wp_loop_rounds 4 ?_
  rw [rounds_succ]
  go_wp2
  refine wp_loop_rounds 3 ?_
  rw [rounds_succ]
  go_wp2_with fail
  refine (ind_0_7 _ _ _ HT.out.s1 (HT.out.a1.cell 1 _ rfl)).mono ?_
  rintro e w1 ⟨rfl, hb⟩
  have hb' := drawn_below hb
  have HT1 := Aside0.mk (HT.out.below hb')
  have HB1 := Aside0.mk (HB.out.trans (hb'.mono HB.out.size))
  have k1 := HT1.out.f1
  have k2 := HT1.out.f2
  clear hb hb' HT HB
  go_wp2
  go_ret
  exact ⟨rfl, HB1.out⟩
set_option maxHeartbeats 4000000 in
set_option maxRecDepth 100000 in
theorem all_5 (c1 t1 c2 p2 t2 r cap : Nat) (w : World) (h : Tests 5 c1 t1 c2 p2 t2 r w) :
    Calls Tryz.prog 137 #[.agg townV, .slice (some ⟨r, 0, none⟩) 2 cap] w fun e w' => e = .returned (.bool true) ∧ Below w.heap.size w w' := by
  have hb0 := below_alloc (Below.refl _ w) (.cells townV 147)
  have HT := Aside0.mk (h.below hb0)
  have HB := Aside0.mk hb0
  have k1 := HT.out.f1
  have k2 := HT.out.f2
  clear h hb0
  go_enter Tryz.func137, Tryz.ntmps137
  go_wp2
  obtain ⟨w0, hw0⟩ : ∃ w0, w.alloc (.cells townV 147) = w0 := ⟨_, rfl⟩
  rw [hw0] at HT HB k1 k2 ⊢
  clear hw0
  refine wp_loop_rounds 4 ?_
  rw [rounds_succ]
  go_wp2
  refine wp_loop_rounds 3 ?_
  rw [rounds_succ]
  go_wp2_with fail
  refine (ind_0_5 _ _ _ HT.out.s1 (HT.out.a1.cell 1 _ rfl)).mono ?_
  rintro e w1 ⟨rfl, hb⟩
  have hb' := drawn_below hb
  have HT1 := Aside0.mk (HT.out.below hb')
  have HB1 := Aside0.mk (HB.out.trans (hb'.mono HB.out.size))
  have k1 := HT1.out.f1
  have k2 := HT1.out.f2
  clear hb hb' HT HB
  go_wp2
  rw [rounds_succ]
  go_wp2_with fail
  refine (abs_0_5 _ _ _ _ HT1.out.q2 HT1.out.s2 (HT1.out.a2.cell 1 _ rfl)).mono ?_
  rintro e w2 ⟨rfl, hb⟩
  have hb' := drawn_below hb
  have HT2 := Aside0.mk (HT1.out.below hb')
  have HB2 := Aside0.mk (HB1.out.trans (hb'.mono HB1.out.size))
  have k1 := HT2.out.f1
  have k2 := HT2.out.f2
  clear hb hb' HT1 HB1
  go_wp2
  rw [rounds_succ]
  go_wp2
  rw [rounds_succ]
  go_wp2
  refine wp_loop_rounds 3 ?_
  rw [rounds_succ]
  go_wp2_with fail
  refine (ind_1_5 _ _ _ HT2.out.s1 (HT2.out.a1.cell 2 _ rfl)).mono ?_
  rintro e w3 ⟨rfl, hb⟩
  have hb' := drawn_below hb
  have HT3 := Aside0.mk (HT2.out.below hb')
  have HB3 := Aside0.mk (HB2.out.trans (hb'.mono HB2.out.size))
  have k1 := HT3.out.f1
  have k2 := HT3.out.f2
  clear hb hb' HT2 HB2
  go_wp2
  rw [rounds_succ]
  go_wp2_with fail
  refine (abs_1_5 _ _ _ _ HT3.out.q2 HT3.out.s2 (HT3.out.a2.cell 2 _ rfl)).mono ?_
  rintro e w4 ⟨rfl, hb⟩
  have hb' := drawn_below hb
  have HT4 := Aside0.mk (HT3.out.below hb')
  have HB4 := Aside0.mk (HB3.out.trans (hb'.mono HB3.out.size))
  have k1 := HT4.out.f1
  have k2 := HT4.out.f2
  clear hb hb' HT3 HB3
  go_wp2
  rw [rounds_succ]
  go_wp2
  rw [rounds_succ]
  go_wp2
  refine wp_loop_rounds 3 ?_
  rw [rounds_succ]
  go_wp2_with fail
  refine (ind_2_5 _ _ _ HT4.out.s1 (HT4.out.a1.cell 3 _ rfl)).mono ?_
  rintro e w5 ⟨rfl, hb⟩
  have hb' := drawn_below hb
  have HT5 := Aside0.mk (HT4.out.below hb')
  have HB5 := Aside0.mk (HB4.out.trans (hb'.mono HB4.out.size))
  have k1 := HT5.out.f1
  have k2 := HT5.out.f2
  clear hb hb' HT4 HB4
  go_wp2
  rw [rounds_succ]
  go_wp2_with fail
  refine (abs_2_5 _ _ _ _ HT5.out.q2 HT5.out.s2 (HT5.out.a2.cell 3 _ rfl)).mono ?_
  rintro e w6 ⟨rfl, hb⟩
  have hb' := drawn_below hb
  have HT6 := Aside0.mk (HT5.out.below hb')
  have HB6 := Aside0.mk (HB5.out.trans (hb'.mono HB5.out.size))
  have k1 := HT6.out.f1
  have k2 := HT6.out.f2
  clear hb hb' HT5 HB5
  go_wp2
  rw [rounds_succ]
  go_wp2
  rw [rounds_succ]
  go_wp2
  go_ret
  exact ⟨rfl, HB6.out⟩

end Go.Proofs.YtldohjlcckbfaaaGreatDoor.Hand
