/- A part of the proof that pomadetop.TopTold returns true for every input: HandV, HandX, HandXa, HandXb, HandXc. No condition beyond those that each theorem states. -/
import Derived.BigRegion
import Derived.Test.YtldohjlcckbfaaaGreatDoorK44
namespace Go.Proofs.YtldohjlcckbfaaaGreatDoor.Hand
open Go.RowKit Go.Proofs.YtldohjlcckbfaaaGreatDoorW.PrintWords Go.Proofs.YtldohjlcckbfaaaGreatDoorW.PrintLast Go.Proofs.YtldohjlcckbfaaaGreatDoorW.PrintMore
set_option linter.unusedVariables false
set_option linter.unusedSimpArgs false
open Go.Proofs.YtldohjlcckbfaaaGreatDoor.Pre
set_option maxHeartbeats 2000000 in
set_option maxRecDepth 100000 in
theorem ind_0_0 (cs ct : Nat) (w : World) (hs : w.cell? ⟨cs, 0, none⟩ = some (.int .i64 0)) (hT : w.cell? ⟨ct, 1, none⟩ = some (.int .i64 2)) :
    Calls Tryz.prog 177 #[.int .i64 0, .pointer (some ⟨cs, 0, none⟩), .pointer (some ⟨ct, 0, none⟩)] w fun e w' => e = .returned (.bool true) ∧ Drawn0 w w' := by
  have b1 : bits .and .i64 0 1 = 0 := by rfl
  have b2 : bits .and .i64 2 0 = 0 := by rfl
  go_enter Tryz.func177, Tryz.ntmps177
  go_wp2
  go_quiet (fail)
  go_wp2
  go_ret
  exact ⟨rfl, ⟨_, rfl⟩⟩
set_option maxHeartbeats 2000000 in
set_option maxRecDepth 100000 in
theorem ind_0_1 (cs ct : Nat) (w : World) (hs : w.cell? ⟨cs, 0, none⟩ = some (.int .i64 1)) (hT : w.cell? ⟨ct, 1, none⟩ = some (.int .i64 2)) :
    Calls Tryz.prog 177 #[.int .i64 0, .pointer (some ⟨cs, 0, none⟩), .pointer (some ⟨ct, 0, none⟩)] w fun e w' => e = .returned (.bool true) ∧ Drawn0 w w' := by
  have b1 : bits .and .i64 1 1 = 1 := by rfl
  have b2 : bits .and .i64 2 1 = 0 := by rfl
  go_enter Tryz.func177, Tryz.ntmps177
  go_wp2
  go_quiet (fail)
  go_wp2
  go_ret
  exact ⟨rfl, ⟨_, rfl⟩⟩
set_option maxHeartbeats 2000000 in
set_option maxRecDepth 100000 in
theorem ind_0_3 (cs ct : Nat) (w : World) (hs : w.cell? ⟨cs, 0, none⟩ = some (.int .i64 3)) (hT : w.cell? ⟨ct, 1, none⟩ = some (.int .i64 2)) :
    Calls Tryz.prog 177 #[.int .i64 0, .pointer (some ⟨cs, 0, none⟩), .pointer (some ⟨ct, 0, none⟩)] w fun e w' => e = .returned (.bool false) ∧ Drawn0 w w' := by
  have b1 : bits .and .i64 3 1 = 1 := by rfl
  have b2 : bits .and .i64 2 3 = 2 := by rfl
  go_enter Tryz.func177, Tryz.ntmps177
  go_wp2
  go_quiet (fail)
  go_wp2
  go_ret
  exact ⟨rfl, ⟨_, rfl⟩⟩
set_option maxHeartbeats 2000000 in
set_option maxRecDepth 100000 in
theorem ind_0_5 (cs ct : Nat) (w : World) (hs : w.cell? ⟨cs, 0, none⟩ = some (.int .i64 5)) (hT : w.cell? ⟨ct, 1, none⟩ = some (.int .i64 2)) :
    Calls Tryz.prog 177 #[.int .i64 0, .pointer (some ⟨cs, 0, none⟩), .pointer (some ⟨ct, 0, none⟩)] w fun e w' => e = .returned (.bool true) ∧ Drawn0 w w' := by
  have b1 : bits .and .i64 5 1 = 1 := by rfl
  have b2 : bits .and .i64 2 5 = 0 := by rfl
  go_enter Tryz.func177, Tryz.ntmps177
  go_wp2
  go_quiet (fail)
  go_wp2
  go_ret
  exact ⟨rfl, ⟨_, rfl⟩⟩
set_option maxHeartbeats 2000000 in
set_option maxRecDepth 100000 in
theorem ind_0_7 (cs ct : Nat) (w : World) (hs : w.cell? ⟨cs, 0, none⟩ = some (.int .i64 7)) (hT : w.cell? ⟨ct, 1, none⟩ = some (.int .i64 2)) :
    Calls Tryz.prog 177 #[.int .i64 0, .pointer (some ⟨cs, 0, none⟩), .pointer (some ⟨ct, 0, none⟩)] w fun e w' => e = .returned (.bool false) ∧ Drawn0 w w' := by
  have b1 : bits .and .i64 7 1 = 1 := by rfl
  have b2 : bits .and .i64 2 7 = 2 := by rfl
  go_enter Tryz.func177, Tryz.ntmps177
  go_wp2
  go_quiet (fail)
  go_wp2
  go_ret
  exact ⟨rfl, ⟨_, rfl⟩⟩
set_option maxHeartbeats 2000000 in
set_option maxRecDepth 100000 in
theorem ind_1_1 (cs ct : Nat) (w : World) (hs : w.cell? ⟨cs, 0, none⟩ = some (.int .i64 1)) (hT : w.cell? ⟨ct, 2, none⟩ = some (.int .i64 4)) :
    Calls Tryz.prog 177 #[.int .i64 1, .pointer (some ⟨cs, 0, none⟩), .pointer (some ⟨ct, 0, none⟩)] w fun e w' => e = .returned (.bool true) ∧ Drawn0 w w' := by
  have b1 : bits .and .i64 0 1 = 0 := by rfl
  have b2 : bits .and .i64 4 1 = 0 := by rfl
  go_enter Tryz.func177, Tryz.ntmps177
  go_wp2
  go_quiet (fail)
  go_wp2
  go_ret
  exact ⟨rfl, ⟨_, rfl⟩⟩
set_option maxHeartbeats 2000000 in
set_option maxRecDepth 100000 in
theorem ind_1_5 (cs ct : Nat) (w : World) (hs : w.cell? ⟨cs, 0, none⟩ = some (.int .i64 5)) (hT : w.cell? ⟨ct, 2, none⟩ = some (.int .i64 4)) :
    Calls Tryz.prog 177 #[.int .i64 1, .pointer (some ⟨cs, 0, none⟩), .pointer (some ⟨ct, 0, none⟩)] w fun e w' => e = .returned (.bool true) ∧ Drawn0 w w' := by
  have b1 : bits .and .i64 2 1 = 0 := by rfl
  have b2 : bits .and .i64 4 5 = 4 := by rfl
  go_enter Tryz.func177, Tryz.ntmps177
  go_wp2
  go_quiet (fail)
  go_wp2
  go_ret
  exact ⟨rfl, ⟨_, rfl⟩⟩
set_option maxHeartbeats 2000000 in
set_option maxRecDepth 100000 in
theorem ind_2_5 (cs ct : Nat) (w : World) (hs : w.cell? ⟨cs, 0, none⟩ = some (.int .i64 5)) (hT : w.cell? ⟨ct, 3, none⟩ = some (.int .i64 0)) :
    Calls Tryz.prog 177 #[.int .i64 2, .pointer (some ⟨cs, 0, none⟩), .pointer (some ⟨ct, 0, none⟩)] w fun e w' => e = .returned (.bool true) ∧ Drawn0 w w' := by
  have b1 : bits .and .i64 1 1 = 1 := by rfl
  have b2 : bits .and .i64 0 5 = 0 := by rfl
  go_enter Tryz.func177, Tryz.ntmps177
  go_wp2
  go_quiet (fail)
  go_wp2
  go_ret
  exact ⟨rfl, ⟨_, rfl⟩⟩
set_option maxHeartbeats 2000000 in
set_option maxRecDepth 100000 in
theorem abs_0_0 (cp cs ct : Nat) (w : World) (hp : w.cell? ⟨cp, 0, none⟩ = some (.int .i64 7)) (hs : w.cell? ⟨cs, 0, none⟩ = some (.int .i64 0)) (hT : w.cell? ⟨ct, 1, none⟩ = some (.int .i64 2)) :
    Calls Tryz.prog 178 #[.int .i64 0, .pointer (some ⟨cp, 0, none⟩), .pointer (some ⟨cs, 0, none⟩), .pointer (some ⟨ct, 0, none⟩)] w fun e w' => e = .returned (.bool false) ∧ Drawn0 w w' := by
  have b0 : bits .andNot .i64 7 0 = 7 := by rfl
  have b1 : bits .and .i64 7 1 = 1 := by rfl
  have b2 : bits .and .i64 2 0 = 0 := by rfl
  go_enter Tryz.func178, Tryz.ntmps178
  go_wp2
  go_quiet (fail)
  go_wp2
  go_ret
  exact ⟨rfl, ⟨_, rfl⟩⟩
set_option maxHeartbeats 2000000 in
set_option maxRecDepth 100000 in
theorem abs_0_1 (cp cs ct : Nat) (w : World) (hp : w.cell? ⟨cp, 0, none⟩ = some (.int .i64 7)) (hs : w.cell? ⟨cs, 0, none⟩ = some (.int .i64 1)) (hT : w.cell? ⟨ct, 1, none⟩ = some (.int .i64 2)) :
    Calls Tryz.prog 178 #[.int .i64 0, .pointer (some ⟨cp, 0, none⟩), .pointer (some ⟨cs, 0, none⟩), .pointer (some ⟨ct, 0, none⟩)] w fun e w' => e = .returned (.bool true) ∧ Drawn0 w w' := by
  have b0 : bits .andNot .i64 7 1 = 6 := by rfl
  have b1 : bits .and .i64 6 1 = 0 := by rfl
  have b2 : bits .and .i64 2 1 = 0 := by rfl
  go_enter Tryz.func178, Tryz.ntmps178
  go_wp2
  go_quiet (fail)
  go_wp2
  go_ret
  exact ⟨rfl, ⟨_, rfl⟩⟩
set_option maxHeartbeats 2000000 in
set_option maxRecDepth 100000 in
theorem abs_0_5 (cp cs ct : Nat) (w : World) (hp : w.cell? ⟨cp, 0, none⟩ = some (.int .i64 7)) (hs : w.cell? ⟨cs, 0, none⟩ = some (.int .i64 5)) (hT : w.cell? ⟨ct, 1, none⟩ = some (.int .i64 2)) :
    Calls Tryz.prog 178 #[.int .i64 0, .pointer (some ⟨cp, 0, none⟩), .pointer (some ⟨cs, 0, none⟩), .pointer (some ⟨ct, 0, none⟩)] w fun e w' => e = .returned (.bool true) ∧ Drawn0 w w' := by
  have b0 : bits .andNot .i64 7 5 = 2 := by rfl
  have b1 : bits .and .i64 2 1 = 0 := by rfl
  have b2 : bits .and .i64 2 5 = 0 := by rfl
  go_enter Tryz.func178, Tryz.ntmps178
  go_wp2
  go_quiet (fail)
  go_wp2
  go_ret
  exact ⟨rfl, ⟨_, rfl⟩⟩
set_option maxHeartbeats 2000000 in
set_option maxRecDepth 100000 in
theorem abs_1_1 (cp cs ct : Nat) (w : World) (hp : w.cell? ⟨cp, 0, none⟩ = some (.int .i64 7)) (hs : w.cell? ⟨cs, 0, none⟩ = some (.int .i64 1)) (hT : w.cell? ⟨ct, 2, none⟩ = some (.int .i64 4)) :
    Calls Tryz.prog 178 #[.int .i64 1, .pointer (some ⟨cp, 0, none⟩), .pointer (some ⟨cs, 0, none⟩), .pointer (some ⟨ct, 0, none⟩)] w fun e w' => e = .returned (.bool false) ∧ Drawn0 w w' := by
  have b0 : bits .andNot .i64 7 1 = 6 := by rfl
  have b1 : bits .and .i64 3 1 = 1 := by rfl
  have b2 : bits .and .i64 4 1 = 0 := by rfl
  go_enter Tryz.func178, Tryz.ntmps178
  go_wp2
  go_quiet (fail)
  go_wp2
  go_ret
  exact ⟨rfl, ⟨_, rfl⟩⟩
set_option maxHeartbeats 2000000 in
set_option maxRecDepth 100000 in
theorem abs_1_5 (cp cs ct : Nat) (w : World) (hp : w.cell? ⟨cp, 0, none⟩ = some (.int .i64 7)) (hs : w.cell? ⟨cs, 0, none⟩ = some (.int .i64 5)) (hT : w.cell? ⟨ct, 2, none⟩ = some (.int .i64 4)) :
    Calls Tryz.prog 178 #[.int .i64 1, .pointer (some ⟨cp, 0, none⟩), .pointer (some ⟨cs, 0, none⟩), .pointer (some ⟨ct, 0, none⟩)] w fun e w' => e = .returned (.bool true) ∧ Drawn0 w w' := by
  have b0 : bits .andNot .i64 7 5 = 2 := by rfl
  have b1 : bits .and .i64 1 1 = 1 := by rfl
  have b2 : bits .and .i64 4 5 = 4 := by rfl
  go_enter Tryz.func178, Tryz.ntmps178
  go_wp2
  go_quiet (fail)
  go_wp2
  go_ret
  exact ⟨rfl, ⟨_, rfl⟩⟩
set_option maxHeartbeats 2000000 in
set_option maxRecDepth 100000 in
theorem abs_2_5 (cp cs ct : Nat) (w : World) (hp : w.cell? ⟨cp, 0, none⟩ = some (.int .i64 7)) (hs : w.cell? ⟨cs, 0, none⟩ = some (.int .i64 5)) (hT : w.cell? ⟨ct, 3, none⟩ = some (.int .i64 0)) :
    Calls Tryz.prog 178 #[.int .i64 2, .pointer (some ⟨cp, 0, none⟩), .pointer (some ⟨cs, 0, none⟩), .pointer (some ⟨ct, 0, none⟩)] w fun e w' => e = .returned (.bool true) ∧ Drawn0 w w' := by
  have b0 : bits .andNot .i64 7 5 = 2 := by rfl
  have b1 : bits .and .i64 0 1 = 0 := by rfl
  have b2 : bits .and .i64 0 5 = 0 := by rfl
  go_enter Tryz.func178, Tryz.ntmps178
  go_wp2
  go_quiet (fail)
  go_wp2
  go_ret
  exact ⟨rfl, ⟨_, rfl⟩⟩
set_option maxHeartbeats 2000000 in
set_option maxRecDepth 100000 in
theorem ind_make (S : Int) (w : World) : Calls Tryz.prog 138 #[.agg townV, .int .i64 S] w fun e w' => e = .returned (.func (.func 177) #[] #[.pointer (some ⟨w.heap.size + 1, 0, none⟩), .pointer (some ⟨w.heap.size, 0, none⟩)]) ∧ w' = (w.alloc (.cells townV 147)).alloc (.cells #[.int .i64 S] 3) := by
  have hmf : ∀ (fn : Fn) (first cap : Array Value) (w : World), (Instr.makeFunc fn first cap).run Tryz.prog w = .ok (.func fn first cap) w := fun _ _ _ _ => rfl
  go_enter Tryz.func138, Tryz.ntmps138
  go_wp2
  go_ret
  exact ⟨rfl, rfl⟩
set_option maxHeartbeats 2000000 in
set_option maxRecDepth 100000 in
theorem abs_make (S p : Int) (w : World) : Calls Tryz.prog 139 #[.agg townV, .int .i64 S, .int .i64 p] w fun e w' => e = .returned (.func (.func 178) #[] #[.pointer (some ⟨w.heap.size + 2, 0, none⟩), .pointer (some ⟨w.heap.size + 1, 0, none⟩), .pointer (some ⟨w.heap.size, 0, none⟩)]) ∧ w' = ((w.alloc (.cells townV 147)).alloc (.cells #[.int .i64 S] 3)).alloc (.cells #[.int .i64 p] 3) := by
  have hmf : ∀ (fn : Fn) (first cap : Array Value) (w : World), (Instr.makeFunc fn first cap).run Tryz.prog w = .ok (.func fn first cap) w := fun _ _ _ _ => rfl
  go_enter Tryz.func139, Tryz.ntmps139
  go_wp2
  go_ret
  exact ⟨rfl, rfl⟩
structure Tests (S : Int) (c1 t1 c2 p2 t2 r : Nat) (w : World) : Prop where
  s1 : w.cell? ⟨c1, 0, none⟩ = some (.int .i64 S)
  a1 : TownAt t1 w
  s2 : w.cell? ⟨c2, 0, none⟩ = some (.int .i64 S)
  q2 : w.cell? ⟨p2, 0, none⟩ = some (.int .i64 7)
  a2 : TownAt t2 w
  f1 : w.cell? ⟨r, 0, none⟩ = some (.func (.func 177) #[] #[.pointer (some ⟨c1, 0, none⟩), .pointer (some ⟨t1, 0, none⟩)])
  f2 : w.cell? ⟨r, 1, none⟩ = some (.func (.func 178) #[] #[.pointer (some ⟨p2, 0, none⟩), .pointer (some ⟨c2, 0, none⟩), .pointer (some ⟨t2, 0, none⟩)])
theorem Tests.below {S : Int} {c1 t1 c2 p2 t2 r : Nat} {w w' : World} (h : Tests S c1 t1 c2 p2 t2 r w) (hb : Below w.heap.size w w') : Tests S c1 t1 c2 p2 t2 r w' :=
  ⟨pw_cell_below hb h.s1, h.a1.below hb, pw_cell_below hb h.s2, pw_cell_below hb h.q2, h.a2.below hb, pw_cell_below hb h.f1, pw_cell_below hb h.f2⟩
theorem drawn_below {w w' : World} (h : Drawn0 w w') : Below w.heap.size w w' := by
  obtain ⟨n, rfl⟩ := h
  exact pw_below_drewN (Below.refl _ _) n
set_option maxHeartbeats 4000000 in
set_option maxRecDepth 100000 in
theorem all_0 (c1 t1 c2 p2 t2 r cap : Nat) (w : World) (h : Tests 0 c1 t1 c2 p2 t2 r w) :
    Calls Tryz.prog 137 #[.agg townV, .slice (some ⟨r, 0, none⟩) 2 cap] w fun e w' => e = .returned (.bool false) ∧ Below w.heap.size w w' := by
  have hb0 := below_alloc (Below.refl _ w) (.cells townV 147)
  have HT := Aside0.mk (h.below hb0)
  have HB := Aside0.mk hb0
  have k1 := HT.out.f1
  have k2 := HT.out.f2
  clear h hb0
  go_enter Tryz.func137, Tryz.ntmps137
  go_wp2
  obtain ⟨w0, hw0⟩ : ∃ w0, w.alloc (.cells townV 147) = w0 := ⟨_, rfl⟩
  rw [hw0] at HT HB k1 k2 ⊢
  clear hw0
  refine wp_loop_rounds 4 ?_
  rw [rounds_succ]
  go_wp2
  refine wp_loop_rounds 3 ?_
  rw [rounds_succ]
  go_wp2_with fail
  refine (ind_0_0 _ _ _ HT.out.s1 (HT.out.a1.cell 1 _ rfl)).mono ?_
  rintro e w1 ⟨rfl, hb⟩
  have hb' := drawn_below hb
  have HT1 := Aside0.mk (HT.out.below hb')
  have HB1 := Aside0.mk (HB.out.trans (hb'.mono HB.out.size))
  have k1 := HT1.out.f1
  have k2 := HT1.out.f2
  clear hb hb' HT HB
  go_wp2
  rw [rounds_succ]
  go_wp2_with fail
  refine (abs_0_0 _ _ _ _ HT1.out.q2 HT1.out.s2 (HT1.out.a2.cell 1 _ rfl)).mono ?_
  rintro e w2 ⟨rfl, hb⟩
  have hb' := drawn_below hb
  have HT2 := Aside0.mk (HT1.out.below hb')
  have HB2 := Aside0.mk (HB1.out.trans (hb'.mono HB1.out.size))
  have k1 := HT2.out.f1
  have k2 := HT2.out.f2
  clear hb hb' HT1 HB1
  go_wp2
  go_ret
  exact ⟨rfl, HB2.out⟩
set_option maxHeartbeats 4000000 in
set_option maxRecDepth 100000 in
theorem all_1 (c1 t1 c2 p2 t2 r cap : Nat) (w : World) (h : Tests 1 c1 t1 c2 p2 t2 r w) :
    Calls Tryz.prog 137 #[.agg townV, .slice (some ⟨r, 0, none⟩) 2 cap] w fun e w' => e = .returned (.bool false) ∧ Below w.heap.size w w' := by
  have hb0 := below_alloc (Below.refl _ w) (.cells townV 147)
  have HT := Aside0.mk (h.below hb0)
  have HB := Aside0.mk hb0
  have k1 := HT.out.f1
  have k2 := HT.out.f2
  clear h hb0
  go_enter Tryz.func137, Tryz.ntmps137
  go_wp2
  obtain ⟨w0, hw0⟩ : ∃ w0, w.alloc (.cells townV 147) = w0 := ⟨_, rfl⟩
  rw [hw0] at HT HB k1 k2 ⊢
  clear hw0
  refine wp_loop_rounds 4 ?_
  rw [rounds_succ]
  go_wp2
  refine wp_loop_rounds 3 ?_
  rw [rounds_succ]
  go_wp2_with fail
  refine (ind_0_1 _ _ _ HT.out.s1 (HT.out.a1.cell 1 _ rfl)).mono ?_
  rintro e w1 ⟨rfl, hb⟩
  have hb' := drawn_below hb
  have HT1 := Aside0.mk (HT.out.below hb')
  have HB1 := Aside0.mk (HB.out.trans (hb'.mono HB.out.size))
  have k1 := HT1.out.f1
  have k2 := HT1.out.f2
  clear hb hb' HT HB
  go_wp2
  rw [rounds_succ]
  go_wp2_with fail
  refine (abs_0_1 _ _ _ _ HT1.out.q2 HT1.out.s2 (HT1.out.a2.cell 1 _ rfl)).mono ?_
  rintro e w2 ⟨rfl, hb⟩
  have hb' := drawn_below hb
  have HT2 := Aside0.mk (HT1.out.below hb')
  have HB2 := Aside0.mk (HB1.out.trans (hb'.mono HB1.out.size))
  have k1 := HT2.out.f1
  have k2 := HT2.out.f2
  clear hb hb' HT1 HB1
  go_wp2
  rw [rounds_succ]
  go_wp2
  rw [rounds_succ]
  go_wp2
  refine wp_loop_rounds 3 ?_
  rw [rounds_succ]
  go_wp2_with fail
  refine (ind_1_1 _ _ _ HT2.out.s1 (HT2.out.a1.cell 2 _ rfl)).mono ?_
  rintro e w3 ⟨rfl, hb⟩
  have hb' := drawn_below hb
  have HT3 := Aside0.mk (HT2.out.below hb')
  have HB3 := Aside0.mk (HB2.out.trans (hb'.mono HB2.out.size))
  have k1 := HT3.out.f1
  have k2 := HT3.out.f2
  clear hb hb' HT2 HB2
  go_wp2
  rw [rounds_succ]
  go_wp2_with fail
  refine (abs_1_1 _ _ _ _ HT3.out.q2 HT3.out.s2 (HT3.out.a2.cell 2 _ rfl)).mono ?_
  rintro e w4 ⟨rfl, hb⟩
  have hb' := drawn_below hb
  have HT4 := Aside0.mk (HT3.out.below hb')
  have HB4 := Aside0.mk (HB3.out.trans (hb'.mono HB3.out.size))
  have k1 := HT4.out.f1
  have k2 := HT4.out.f2
  clear hb hb' HT3 HB3
  go_wp2
  go_ret
  exact ⟨rfl, HB4.out⟩
set_option maxHeartbeats 4000000 in
set_option maxRecDepth 100000 in
theorem all_3 (c1 t1 c2 p2 t2 r cap : Nat) (w : World) (h : Tests 3 c1 t1 c2 p2 t2 r w) :
    Calls Tryz.prog 137 #[.agg townV, .slice (some ⟨r, 0, none⟩) 2 cap] w fun e w' => e = .returned (.bool false) ∧ Below w.heap.size w w' := by
  have hb0 := below_alloc (Below.refl _ w) (.cells townV 147)
  have HT := Aside0.mk (h.below hb0)
  have HB := Aside0.mk hb0
  have k1 := HT.out.f1
  have k2 := HT.out.f2
  clear h hb0
  go_enter Tryz.func137, Tryz.ntmps137
  go_wp2
  obtain ⟨w0, hw0⟩ : ∃ w0, w.alloc (.cells townV 147) = w0 := ⟨_, rfl⟩
  rw [hw0] at HT HB k1 k2 ⊢
  clear hw0
  refine wp_loop_rounds 4 ?_
  rw [rounds_succ]
  go_wp2
  refine wp_loop_rounds 3 ?_
  rw [rounds_succ]
  go_wp2_with fail
  refine (ind_0_3 _ _ _ HT.out.s1 (HT.out.a1.cell 1 _ rfl)).mono ?_
  rintro e w1 ⟨rfl, hb⟩
  have hb' := drawn_below hb
  have HT1 := Aside0.mk (HT.out.below hb')
  have HB1 := Aside0.mk (HB.out.trans (hb'.mono HB.out.size))
  have k1 := HT1.out.f1
  have k2 := HT1.out.f2
  clear hb hb' HT HB
  go_wp2
  go_ret
  exact ⟨rfl, HB1.out⟩
set_option maxHeartbeats 4000000 in
set_option maxRecDepth 100000 in
theorem all_7 (c1 t1 c2 p2 t2 r cap : Nat) (w : World) (h : Tests 7 c1 t1 c2 p2 t2 r w) :
    Calls Tryz.prog 137 #[.agg townV, .slice (some ⟨r, 0, none⟩) 2 cap] w fun e w' => e = .returned (.bool false) ∧ Below w.heap.size w w' := by
  have hb0 := below_alloc (Below.refl _ w) (.cells townV 147)
  have HT := Aside0.mk (h.below hb0)
  have HB := Aside0.mk hb0
  have k1 := HT.out.f1
  have k2 := HT.out.f2
  clear h hb0
  go_enter Tryz.func137, Tryz.ntmps137
  go_wp2
  obtain ⟨w0, hw0⟩ : ∃ w0, w.alloc (.cells townV 147) = w0 := ⟨_, rfl⟩
  rw [hw0] at HT HB k1 k2 ⊢
  clear hw0
  refine wp_loop_rounds 4 ?_
  rw [rounds_succ]
  go_wp2
  refine wp_loop_rounds 3 ?_
  rw [rounds_succ]
  go_wp2_with fail
  refine (ind_0_7 _ _ _ HT.out.s1 (HT.out.a1.cell 1 _ rfl)).mono ?_
  rintro e w1 ⟨rfl, hb⟩
  have hb' := drawn_below hb
  have HT1 := Aside0.mk (HT.out.below hb')
  have HB1 := Aside0.mk (HB.out.trans (hb'.mono HB.out.size))
  have k1 := HT1.out.f1
  have k2 := HT1.out.f2
  clear hb hb' HT HB
  go_wp2
  go_ret
  exact ⟨rfl, HB1.out⟩
set_option maxHeartbeats 4000000 in
set_option maxRecDepth 100000 in
theorem all_5 (c1 t1 c2 p2 t2 r cap : Nat) (w : World) (h : Tests 5 c1 t1 c2 p2 t2 r w) :
    Calls Tryz.prog 137 #[.agg townV, .slice (some ⟨r, 0, none⟩) 2 cap] w fun e w' => e = .returned (.bool true) ∧ Below w.heap.size w w' := by
  have hb0 := below_alloc (Below.refl _ w) (.cells townV 147)
  have HT := Aside0.mk (h.below hb0)
  have HB := Aside0.mk hb0
  have k1 := HT.out.f1
  have k2 := HT.out.f2
  clear h hb0
  go_enter Tryz.func137, Tryz.ntmps137
  go_wp2
  obtain ⟨w0, hw0⟩ : ∃ w0, w.alloc (.cells townV 147) = w0 := ⟨_, rfl⟩
  rw [hw0] at HT HB k1 k2 ⊢
  clear hw0
  refine wp_loop_rounds 4 ?_
  rw [rounds_succ]
  go_wp2
  refine wp_loop_rounds 3 ?_
  rw [rounds_succ]
  go_wp2_with fail
  refine (ind_0_5 _ _ _ HT.out.s1 (HT.out.a1.cell 1 _ rfl)).mono ?_
  rintro e w1 ⟨rfl, hb⟩
  have hb' := drawn_below hb
  have HT1 := Aside0.mk (HT.out.below hb')
  have HB1 := Aside0.mk (HB.out.trans (hb'.mono HB.out.size))
  have k1 := HT1.out.f1
  have k2 := HT1.out.f2
  clear hb hb' HT HB
  go_wp2
  rw [rounds_succ]
  go_wp2_with fail
  refine (abs_0_5 _ _ _ _ HT1.out.q2 HT1.out.s2 (HT1.out.a2.cell 1 _ rfl)).mono ?_
  rintro e w2 ⟨rfl, hb⟩
  have hb' := drawn_below hb
  have HT2 := Aside0.mk (HT1.out.below hb')
  have HB2 := Aside0.mk (HB1.out.trans (hb'.mono HB1.out.size))
  have k1 := HT2.out.f1
  have k2 := HT2.out.f2
  clear hb hb' HT1 HB1
  go_wp2
  rw [rounds_succ]
  go_wp2
  rw [rounds_succ]
  go_wp2
  refine wp_loop_rounds 3 ?_
  rw [rounds_succ]
  go_wp2_with fail
  refine (ind_1_5 _ _ _ HT2.out.s1 (HT2.out.a1.cell 2 _ rfl)).mono ?_
  rintro e w3 ⟨rfl, hb⟩
  have hb' := drawn_below hb
  have HT3 := Aside0.mk (HT2.out.below hb')
  have HB3 := Aside0.mk (HB2.out.trans (hb'.mono HB2.out.size))
  have k1 := HT3.out.f1
  have k2 := HT3.out.f2
  clear hb hb' HT2 HB2
  go_wp2
  rw [rounds_succ]
  go_wp2_with fail
  refine (abs_1_5 _ _ _ _ HT3.out.q2 HT3.out.s2 (HT3.out.a2.cell 2 _ rfl)).mono ?_
  rintro e w4 ⟨rfl, hb⟩
  have hb' := drawn_below hb
  have HT4 := Aside0.mk (HT3.out.below hb')
  have HB4 := Aside0.mk (HB3.out.trans (hb'.mono HB3.out.size))
  have k1 := HT4.out.f1
  have k2 := HT4.out.f2
  clear hb hb' HT3 HB3
  go_wp2
  rw [rounds_succ]
  go_wp2
  rw [rounds_succ]
  go_wp2
  refine wp_loop_rounds 3 ?_
  rw [rounds_succ]
  go_wp2_with fail
  refine (ind_2_5 _ _ _ HT4.out.s1 (HT4.out.a1.cell 3 _ rfl)).mono ?_
  rintro e w5 ⟨rfl, hb⟩
  have hb' := drawn_below hb
  have HT5 := Aside0.mk (HT4.out.below hb')
  have HB5 := Aside0.mk (HB4.out.trans (hb'.mono HB4.out.size))
  have k1 := HT5.out.f1
  have k2 := HT5.out.f2
  clear hb hb' HT4 HB4
  go_wp2
  rw [rounds_succ]
  go_wp2_with fail
  refine (abs_2_5 _ _ _ _ HT5.out.q2 HT5.out.s2 (HT5.out.a2.cell 3 _ rfl)).mono ?_
  rintro e w6 ⟨rfl, hb⟩
  have hb' := drawn_below hb
  have HT6 := Aside0.mk (HT5.out.below hb')
  have HB6 := Aside0.mk (HB5.out.trans (hb'.mono HB5.out.size))
  have k1 := HT6.out.f1
  have k2 := HT6.out.f2
  clear hb hb' HT5 HB5
  go_wp2
  rw [rounds_succ]
  go_wp2
  rw [rounds_succ]
  go_wp2
  go_ret
  exact ⟨rfl, HB6.out⟩
end Go.Proofs.YtldohjlcckbfaaaGreatDoor.Hand
namespace Go.Proofs.YtldohjlcckbfaaaGreatDoor.Hand
open Go.RowKit Go.Proofs.YtldohjlcckbfaaaGreatDoorW.PrintWords Go.Proofs.YtldohjlcckbfaaaGreatDoorW.PrintLast Go.Proofs.YtldohjlcckbfaaaGreatDoorW.PrintMore
set_option linter.unusedVariables false
set_option linter.unusedSimpArgs false
open Go.Proofs.YtldohjlcckbfaaaGreatDoor.Pre
theorem tests_at (S : Int) (w : World) : Tests S (w.heap.size + 1 + 1) (w.heap.size + 1) (w.heap.size + 1 + 1 + 1 + 1) (w.heap.size + 1 + 1 + 1 + 2) (w.heap.size + 1 + 1 + 1) (w.heap.size + 1 + 1 + 1 + 1 + 1 + 1)
    (((((((w.alloc (.cells townV 147)).alloc (.cells townV 147)).alloc (.cells #[.int .i64 S] 3)).alloc (.cells townV 147)).alloc (.cells #[.int .i64 S] 3)).alloc (.cells #[.int .i64 7] 3)).alloc
      (.cells #[.func (.func 177) #[] #[.pointer (some ⟨w.heap.size + 1 + 1, 0, none⟩), .pointer (some ⟨w.heap.size + 1, 0, none⟩)],
        .func (.func 178) #[] #[.pointer (some ⟨w.heap.size + 1 + 1 + 1 + 2, 0, none⟩), .pointer (some ⟨w.heap.size + 1 + 1 + 1 + 1, 0, none⟩), .pointer (some ⟨w.heap.size + 1 + 1 + 1, 0, none⟩)]] 90)).drew := by
  obtain ⟨n, hn⟩ : ∃ n, w.heap.size = n := ⟨_, rfl⟩
  have z1 : (w.alloc (.cells townV 147)).heap.size = n + 1 := by simp [hn]
  obtain ⟨w1, e1⟩ : ∃ w1, w.alloc (.cells townV 147) = w1 := ⟨_, rfl⟩
  rw [e1] at z1 ⊢
  rw [hn]
  have a1 := TownAt.new w1
  rw [z1] at a1
  have z2 : (w1.alloc (.cells townV 147)).heap.size = n + 1 + 1 := by simp [z1]
  obtain ⟨w2, e2⟩ : ∃ w2, w1.alloc (.cells townV 147) = w2 := ⟨_, rfl⟩
  rw [e2] at z2 a1 ⊢
  have s1 := cell_new w2 #[.int .i64 S] 3 0 (.int .i64 S) rfl
  have B2 := below_alloc (Below.refl _ w2) (.cells #[.int .i64 S] 3)
  rw [z2] at s1
  have z3 : (w2.alloc (.cells #[.int .i64 S] 3)).heap.size = n + 1 + 1 + 1 := by simp [z2]
  obtain ⟨w3, e3⟩ : ∃ w3, w2.alloc (.cells #[.int .i64 S] 3) = w3 := ⟨_, rfl⟩
  rw [e3] at z3 s1 B2 ⊢
  have a2 := TownAt.new w3
  have B3 := below_alloc (Below.refl _ w3) (.cells townV 147)
  rw [z3] at a2
  have z4 : (w3.alloc (.cells townV 147)).heap.size = n + 1 + 1 + 1 + 1 := by simp [z3]
  obtain ⟨w4, e4⟩ : ∃ w4, w3.alloc (.cells townV 147) = w4 := ⟨_, rfl⟩
  rw [e4] at z4 a2 B3 ⊢
  have s2 := cell_new w4 #[.int .i64 S] 3 0 (.int .i64 S) rfl
  have B4 := below_alloc (Below.refl _ w4) (.cells #[.int .i64 S] 3)
  rw [z4] at s2
  have z5 : (w4.alloc (.cells #[.int .i64 S] 3)).heap.size = n + 1 + 1 + 1 + 2 := by simp [z4]
  obtain ⟨w5, e5⟩ : ∃ w5, w4.alloc (.cells #[.int .i64 S] 3) = w5 := ⟨_, rfl⟩
  rw [e5] at z5 s2 B4 ⊢
  have q2 := cell_new w5 #[.int .i64 7] 3 0 (.int .i64 7) rfl
  have B5 := below_alloc (Below.refl _ w5) (.cells #[.int .i64 7] 3)
  rw [z5] at q2
  have z6 : (w5.alloc (.cells #[.int .i64 7] 3)).heap.size = n + 1 + 1 + 1 + 1 + 1 + 1 := by simp [z5]
  obtain ⟨w6, e6⟩ : ∃ w6, w5.alloc (.cells #[.int .i64 7] 3) = w6 := ⟨_, rfl⟩
  rw [e6] at z6 q2 B5 ⊢
  obtain ⟨xs, hxs⟩ : ∃ xs : Array Value, #[.func (.func 177) #[] #[.pointer (some ⟨n + 1 + 1, 0, none⟩), .pointer (some ⟨n + 1, 0, none⟩)],
        .func (.func 178) #[] #[.pointer (some ⟨n + 1 + 1 + 1 + 2, 0, none⟩), .pointer (some ⟨n + 1 + 1 + 1 + 1, 0, none⟩), .pointer (some ⟨n + 1 + 1 + 1, 0, none⟩)]] = xs := ⟨_, rfl⟩
  have f1 := cell_new w6 xs 90 0 (.func (.func 177) #[] #[.pointer (some ⟨n + 1 + 1, 0, none⟩), .pointer (some ⟨n + 1, 0, none⟩)]) (by rw [← hxs]; rfl)
  have f2 := cell_new w6 xs 90 1 (.func (.func 178) #[] #[.pointer (some ⟨n + 1 + 1 + 1 + 2, 0, none⟩), .pointer (some ⟨n + 1 + 1 + 1 + 1, 0, none⟩), .pointer (some ⟨n + 1 + 1 + 1, 0, none⟩)]) (by rw [← hxs]; rfl)
  rw [z6] at f1 f2
  rw [hxs]
  have B6 := below_alloc (Below.refl _ w6) (.cells xs 90)
  obtain ⟨w7, e7⟩ : ∃ w7, w6.alloc (.cells xs 90) = w7 := ⟨_, rfl⟩
  rw [e7] at f1 f2 B6 ⊢
  have B7 := below_drew1 (Below.refl w7.heap.size w7)
  have t6 := B6.trans (B7.mono B6.size)
  have t5 := B5.trans (t6.mono B5.size)
  have t4 := B4.trans (t5.mono B4.size)
  have t3 := B3.trans (t4.mono B3.size)
  have t2 := B2.trans (t3.mono B2.size)
  exact ⟨pw_cell_below t3 s1, a1.below t2, pw_cell_below t5 s2, pw_cell_below t6 q2, a2.below t4, pw_cell_below B7 f1, pw_cell_below B7 f2⟩
theorem ever_calls (w : World) : Calls Tryz.prog 90 #[.agg townV] w fun e w' => e = .returned (.int .i64 7) ∧ w' = w.alloc (.cells townV 147) := by
  go_enter Tryz.func90, Tryz.ntmps90
  go_wp2
  go_ret
  exact ⟨rfl, rfl⟩
end Go.Proofs.YtldohjlcckbfaaaGreatDoor.Hand
namespace Go.Proofs.YtldohjlcckbfaaaGreatDoor.Hand
open Go.RowKit Go.Proofs.YtldohjlcckbfaaaGreatDoorW.PrintWords Go.Proofs.YtldohjlcckbfaaaGreatDoorW.PrintLast Go.Proofs.YtldohjlcckbfaaaGreatDoorW.PrintMore
set_option linter.unusedVariables false
set_option linter.unusedSimpArgs false
open Go.Proofs.YtldohjlcckbfaaaGreatDoor.Pre
set_option maxHeartbeats 4000000 in
set_option maxRecDepth 100000 in
theorem kernel_0 (w : World) :
    Calls Tryz.prog 89 #[.agg townV, .int .i64 0, .int .i64 7] w fun e w' => e = .returned (.bool false) ∧ Below w.heap.size w w' := by
  have hmf : ∀ (fn : Fn) (first cap : Array Value) (w : World), (Instr.makeFunc fn first cap).run Tryz.prog w = .ok (.func fn first cap) w := fun _ _ _ _ => rfl
  go_enter Tryz.func89, Tryz.ntmps89
  go_wp2
  go_region_law (go_simp; (first | (go_at_call 138; ((with_reducible refine (ind_make _ _).mono ?_); rintro e w1 ⟨rfl, rfl⟩)) | (go_at_call 139; ((with_reducible refine (abs_make _ _ _).mono ?_); rintro e w1 ⟨rfl, rfl⟩)) | (go_at_call 137; ((refine (all_0 _ _ _ _ _ _ _ _ (tests_at 0 w)).mono ?_); rintro e w1 ⟨rfl, hb⟩))))
  all_goals go_wp2
  all_goals go_ret
  all_goals refine ⟨rfl, Below.trans ?_ (hb.mono (by simp; omega))⟩
  all_goals repeat (first | exact Below.refl _ _ | apply below_drew1 | apply below_alloc)
set_option maxHeartbeats 4000000 in
set_option maxRecDepth 100000 in
theorem kernel_1 (w : World) :
    Calls Tryz.prog 89 #[.agg townV, .int .i64 1, .int .i64 7] w fun e w' => e = .returned (.bool false) ∧ Below w.heap.size w w' := by
  have hmf : ∀ (fn : Fn) (first cap : Array Value) (w : World), (Instr.makeFunc fn first cap).run Tryz.prog w = .ok (.func fn first cap) w := fun _ _ _ _ => rfl
  go_enter Tryz.func89, Tryz.ntmps89
  go_wp2
  go_region_law (go_simp; (first | (go_at_call 138; ((with_reducible refine (ind_make _ _).mono ?_); rintro e w1 ⟨rfl, rfl⟩)) | (go_at_call 139; ((with_reducible refine (abs_make _ _ _).mono ?_); rintro e w1 ⟨rfl, rfl⟩)) | (go_at_call 137; ((refine (all_1 _ _ _ _ _ _ _ _ (tests_at 1 w)).mono ?_); rintro e w1 ⟨rfl, hb⟩))))
  all_goals go_wp2
  all_goals go_ret
  all_goals refine ⟨rfl, Below.trans ?_ (hb.mono (by simp; omega))⟩
  all_goals repeat (first | exact Below.refl _ _ | apply below_drew1 | apply below_alloc)
end Go.Proofs.YtldohjlcckbfaaaGreatDoor.Hand
namespace Go.Proofs.YtldohjlcckbfaaaGreatDoor.Hand
open Go.RowKit Go.Proofs.YtldohjlcckbfaaaGreatDoorW.PrintWords Go.Proofs.YtldohjlcckbfaaaGreatDoorW.PrintLast Go.Proofs.YtldohjlcckbfaaaGreatDoorW.PrintMore
set_option linter.unusedVariables false
set_option linter.unusedSimpArgs false
open Go.Proofs.YtldohjlcckbfaaaGreatDoor.Pre
set_option maxHeartbeats 4000000 in
set_option maxRecDepth 100000 in
theorem kernel_3 (w : World) :
    Calls Tryz.prog 89 #[.agg townV, .int .i64 3, .int .i64 7] w fun e w' => e = .returned (.bool false) ∧ Below w.heap.size w w' := by
  have hmf : ∀ (fn : Fn) (first cap : Array Value) (w : World), (Instr.makeFunc fn first cap).run Tryz.prog w = .ok (.func fn first cap) w := fun _ _ _ _ => rfl
  go_enter Tryz.func89, Tryz.ntmps89
  go_wp2
  go_region_law (go_simp; (first | (go_at_call 138; ((with_reducible refine (ind_make _ _).mono ?_); rintro e w1 ⟨rfl, rfl⟩)) | (go_at_call 139; ((with_reducible refine (abs_make _ _ _).mono ?_); rintro e w1 ⟨rfl, rfl⟩)) | (go_at_call 137; ((refine (all_3 _ _ _ _ _ _ _ _ (tests_at 3 w)).mono ?_); rintro e w1 ⟨rfl, hb⟩))))
  all_goals go_wp2
  all_goals go_ret
  all_goals refine ⟨rfl, Below.trans ?_ (hb.mono (by simp; omega))⟩
  all_goals repeat (first | exact Below.refl _ _ | apply below_drew1 | apply below_alloc)
set_option maxHeartbeats 4000000 in
set_option maxRecDepth 100000 in
theorem kernel_7 (w : World) :
    Calls Tryz.prog 89 #[.agg townV, .int .i64 7, .int .i64 7] w fun e w' => e = .returned (.bool false) ∧ Below w.heap.size w w' := by
  have hmf : ∀ (fn : Fn) (first cap : Array Value) (w : World), (Instr.makeFunc fn first cap).run Tryz.prog w = .ok (.func fn first cap) w := fun _ _ _ _ => rfl
  go_enter Tryz.func89, Tryz.ntmps89
  go_wp2
  go_region_law (go_simp; (first | (go_at_call 138; ((with_reducible refine (ind_make _ _).mono ?_); rintro e w1 ⟨rfl, rfl⟩)) | (go_at_call 139; ((with_reducible refine (abs_make _ _ _).mono ?_); rintro e w1 ⟨rfl, rfl⟩)) | (go_at_call 137; ((refine (all_7 _ _ _ _ _ _ _ _ (tests_at 7 w)).mono ?_); rintro e w1 ⟨rfl, hb⟩))))
  all_goals go_wp2
  all_goals go_ret
  all_goals refine ⟨rfl, Below.trans ?_ (hb.mono (by simp; omega))⟩
  all_goals repeat (first | exact Below.refl _ _ | apply below_drew1 | apply below_alloc)
end Go.Proofs.YtldohjlcckbfaaaGreatDoor.Hand
namespace Go.Proofs.YtldohjlcckbfaaaGreatDoor.Hand
open Go.RowKit Go.Proofs.YtldohjlcckbfaaaGreatDoorW.PrintWords Go.Proofs.YtldohjlcckbfaaaGreatDoorW.PrintLast Go.Proofs.YtldohjlcckbfaaaGreatDoorW.PrintMore
set_option linter.unusedVariables false
set_option linter.unusedSimpArgs false
open Go.Proofs.YtldohjlcckbfaaaGreatDoor.Pre
set_option maxHeartbeats 4000000 in
set_option maxRecDepth 100000 in
theorem kernel_5 (w : World) :
    Calls Tryz.prog 89 #[.agg townV, .int .i64 5, .int .i64 7] w fun e w' => e = .returned (.bool true) ∧ Below w.heap.size w w' := by
  have hmf : ∀ (fn : Fn) (first cap : Array Value) (w : World), (Instr.makeFunc fn first cap).run Tryz.prog w = .ok (.func fn first cap) w := fun _ _ _ _ => rfl
  go_enter Tryz.func89, Tryz.ntmps89
  go_wp2
  go_region_law (go_simp; (first | (go_at_call 138; ((with_reducible refine (ind_make _ _).mono ?_); rintro e w1 ⟨rfl, rfl⟩)) | (go_at_call 139; ((with_reducible refine (abs_make _ _ _).mono ?_); rintro e w1 ⟨rfl, rfl⟩)) | (go_at_call 137; ((refine (all_5 _ _ _ _ _ _ _ _ (tests_at 5 w)).mono ?_); rintro e w1 ⟨rfl, hb⟩))))
  all_goals go_wp2
  all_goals go_ret
  all_goals refine ⟨rfl, Below.trans ?_ (hb.mono (by simp; omega))⟩
  all_goals repeat (first | exact Below.refl _ _ | apply below_drew1 | apply below_alloc)
end Go.Proofs.YtldohjlcckbfaaaGreatDoor.Hand
