/- What the closed example of layers 1 and 2 comes to, part 3: the least fixed point. -/
import Derived.Test.YtldohjlcckbfaaaGreatDoorProg
import Derived.Below
import Derived.Deep.Draws
import Derived.Deep.AppendLies
import Derived.Maps.AppendAt
import Derived.OwnWalk
import Derived.Laws.BytesArg
import Derived.Laws.MakeOwn
import Derived.Laws.OwnMore
import Derived.Deep.OwnRows
import Derived.Tactics
import Derived.Lib.ConvBytes
import Derived.Laws.Slices
import Derived.WalkKit
import Derived.KernelRfl
import Derived.RowKit3
import Derived.Deep.LoopGhost
import Derived.Deep.QuietTactic
import Derived.BigQuiet
import Derived.WideLaws
import Derived.Deep.DeepCutAuto
import Derived.Deep.CutBlock
import Derived.Deep.RegionHeld3
import Derived.Laws.Rows
import Derived.Lib.AppendStr
import Derived.ArgAppend
import Derived.Laws.IdiomCopy
import Derived.OrdersHeld
import Derived.Laws.BitsLemmas
import Derived.RowKit
import Derived.Test.YtldohjlcckbfaaaGreatDoorWWords
import Derived.Test.YtldohjlcckbfaaaGreatDoorWLast
import Derived.Test.YtldohjlcckbfaaaGreatDoorWTab
import Derived.Test.YtldohjlcckbfaaaGreatDoorWFour
import Derived.Test.YtldohjlcckbfaaaGreatDoorWQPut
import Derived.Test.YtldohjlcckbfaaaGreatDoorWApart
import Derived.Test.YtldohjlcckbfaaaGreatDoorWArr
import Derived.Test.YtldohjlcckbfaaaGreatDoorWZeros
import Derived.Test.YtldohjlcckbfaaaGreatDoorWFoot
import Derived.Test.YtldohjlcckbfaaaGreatDoorWKept
import Derived.Test.YtldohjlcckbfaaaGreatDoorWShare
import Derived.Test.YtldohjlcckbfaaaGreatDoorWN
import Derived.Test.YtldohjlcckbfaaaGreatDoorWFootNe
import Derived.Test.YtldohjlcckbfaaaGreatDoorWAt
import Derived.Test.YtldohjlcckbfaaaGreatDoorWEqStruct
import Derived.Test.YtldohjlcckbfaaaGreatDoorWRepsOne
import Derived.Test.YtldohjlcckbfaaaGreatDoorWInv
import Derived.Test.YtldohjlcckbfaaaGreatDoorWInvWords
import Derived.Test.YtldohjlcckbfaaaGreatDoorWGuard
import Derived.Test.YtldohjlcckbfaaaGreatDoorWNEv
import Derived.Test.YtldohjlcckbfaaaGreatDoorWMore
import Derived.Test.YtldohjlcckbfaaaGreatDoorHandT
import Derived.Deep.OwnRows
import Derived.Test.YtldohjlcckbfaaaGreatDoorShelf
namespace Go.Proofs.YtldohjlcckbfaaaGreatDoor.Hand
open Go.RowKit Go.Proofs.YtldohjlcckbfaaaGreatDoorW.PrintWords Go.Proofs.YtldohjlcckbfaaaGreatDoorW.PrintLast Go.Proofs.YtldohjlcckbfaaaGreatDoorW.PrintMore
set_option linter.unusedVariables false
set_option linter.unusedSimpArgs false

open Go.Proofs.YtldohjlcckbfaaaGreatDoor.Pre
/-- Three bytes in a block of their own. -/
structure Out3 (q : Nat) (a b c : Int) (w : World) : Prop where
  at_ : w.heap[q]? = some (.cells #[.int .u8 a, .int .u8 b, .int .u8 c] 5 (0, 0))
theorem Out3.lt {q : Nat} {a b c : Int} {w : World} (h : Out3 q a b c w) : q < w.heap.size := (Array.getElem?_eq_some_iff.1 h.at_).1
theorem Out3.below {q : Nat} {a b c : Int} {w w' : World} (h : Out3 q a b c w) (hb : Below w.heap.size w w') : Out3 q a b c w' := ⟨(hb.5 _ h.lt).trans h.at_⟩
theorem Out3.cell {q : Nat} {a b c : Int} {w : World} (h : Out3 q a b c w) (k : Nat) (v : Value) (hv : (#[.int .u8 a, .int .u8 b, .int .u8 c] : Array Value)[k]? = some v) : w.cell? ⟨q, k, none⟩ = some v := by
  simp only [World.cell?, h.at_]
  simpa using hv
theorem Out3.free {q : Nat} {a b c : Int} {w : World} (h : Out3 q a b c w) (k : Nat) : w.frozen? ⟨q, k, none⟩ = false := by
  simp only [World.frozen?, h.at_]
  simp
theorem Out3.set0 {q : Nat} {a b c : Int} {w : World} (h : Out3 q a b c w) (x : Int) : Out3 q x b c (w.setCell ⟨q, 0, none⟩ (.int .u8 x)) := ⟨by
  rw [heap_setCell_same w q 0 _ _ _ h.at_]; rfl⟩
theorem Out3.set1 {q : Nat} {a b c : Int} {w : World} (h : Out3 q a b c w) (x : Int) : Out3 q a x c (w.setCell ⟨q, 1, none⟩ (.int .u8 x)) := ⟨by
  rw [heap_setCell_same w q 1 _ _ _ h.at_]; rfl⟩
theorem Out3.set2 {q : Nat} {a b c : Int} {w : World} (h : Out3 q a b c w) (x : Int) : Out3 q a b x (w.setCell ⟨q, 2, none⟩ (.int .u8 x)) := ⟨by
  rw [heap_setCell_same w q 2 _ _ _ h.at_]; rfl⟩
theorem Out3.C {q : Nat} {a b c : Int} {w : World} (h : Out3 q a b c w) : Kd.C (Kd.int .u8) w (some ⟨q, 0, none⟩) 3 [a, b, c] := by
  refine Kd.C_of_reads (enc := Value.int .u8) (d := 0) ⟨rfl, by decide, fun hn => ⟨_, rfl, fun j hj => ?_⟩⟩
  rw [add_plain]
  match j, hj with
  | 0, _ => exact h.cell 0 _ rfl
  | 1, _ => exact h.cell 1 _ rfl
  | 2, _ => exact h.cell 2 _ rfl
theorem Row3.set {g q : Nat} {x y z : Value} {w : World} (h : Row3 g x y z w) (hq : g ≠ q) (k : Nat) (v : Value) : Row3 g x y z (w.setCell ⟨q, k, none⟩ v) :=
  h.block (Below.heap_setCell _ _ _ _ hq)
theorem strs : strOfNums [63, 63, 49] = ⟨#[63, 63, 49]⟩ ∧ strOfNums [63, 48, 49] = ⟨#[63, 48, 49]⟩ ∧ strOfNums [49, 48, 49] = ⟨#[49, 48, 49]⟩ := by decide
theorem make3 (w : World) : (Instr.makeSlice 98 (.int .i64 3) (.int .i64 3)).run Tryz.prog w = .ok (.slice (some ⟨w.heap.size, 0, none⟩) 3 3) (w.alloc (.cells #[.int .u8 0, .int .u8 0, .int .u8 0] 5)) := by
  have h := run_make_row' (P := Tryz.prog) 98 5 (.int .u8 0) 1 Tryz.underlying98 (by kernel_rfl) rfl .i64 .i64 3 (by decide) (by decide) w
  have e : madeCells #[Value.int .u8 0] 3 = #[.int .u8 0, .int .u8 0, .int .u8 0] := by kernel_rfl
  rw [e] at h
  exact h
set_option maxHeartbeats 4000000 in
set_option maxRecDepth 100000 in
theorem next_0 (g cap : Nat) (w : World) (hR : Row3 g (fN 1) (fN 2) fC w) : Calls Tryz.prog 86 #[.slice (some ⟨g, 0, none⟩) 3 cap, .string ⟨#[63, 63, 63]⟩] w fun e w' => e = .returned (.string ⟨#[63, 63, 49]⟩) ∧ Below w.heap.size w w' := by
  have hm : ∀ w v, (method 429 270 v "pomade/truth.value").run Tryz.prog w = .ok (292, v) w := fun _ _ => by kernel_rfl
  have hm2 : ∀ w v, (method 429 267 v "pomade/truth.value").run Tryz.prog w = .ok (288, v) w := fun _ _ => by kernel_rfl
  have hmk := make3
  have HR := Aside0.mk (hR.below (below_alloc (Below.refl _ w) (.cells #[.int .u8 0, .int .u8 0, .int .u8 0] 5)))
  have HO := Aside0.mk (Out3.mk (q := w.heap.size) (w := w.alloc (.cells #[.int .u8 0, .int .u8 0, .int .u8 0] 5)) (by rw [heap_alloc_new]))
  have HB := Aside0.mk (below_alloc (Below.refl _ w) (.cells #[.int .u8 0, .int .u8 0, .int .u8 0] 5))
  have hgl := hR.lt
  have k0 := HR.out.c0
  have hql : w.heap.size < (w.alloc (.cells #[.int .u8 0, .int .u8 0, .int .u8 0] 5)).heap.size := by simp
  clear hR
  go_enter Tryz.func86, Tryz.ntmps86
  go_wp2
  clear hmk
  obtain ⟨w0, hw0⟩ : ∃ w0, w.alloc (.cells #[.int .u8 0, .int .u8 0, .int .u8 0] 5) = w0 := ⟨_, rfl⟩
  obtain ⟨q, hq⟩ : ∃ q, w.heap.size = q := ⟨_, rfl⟩
  rw [hw0] at HR HO HB k0 hql ⊢
  rw [hq] at HO hql hgl ⊢
  clear hw0
  refine wp_loop_rounds 4 ?_
  rw [rounds_succ]
  go_wp2_with fail
  refine (not_01 _).mono ?_
  rintro e w1 ⟨rfl, hb⟩
  have HR1 := Aside0.mk (HR.out.below hb)
  have HO1 := Aside0.mk (HO.out.below hb)
  have HB1 := Aside0.mk (HB.out.trans (hb.mono HB.out.size))
  clear hb HR HO HB k0
  have kc := HO1.out.cell 0 _ rfl
  have kf := HO1.out.free 0
  have HRs := Aside0.mk (HR1.out.set (q := q) (by omega) 0 (.int .u8 63))
  have HOs := Aside0.mk (HO1.out.set0 63)
  have HBs := Aside0.mk (HB1.out.setCell (p := ⟨q, 0, none⟩) (by show w.heap.size ≤ q; omega) (.int .u8 63))
  have k1 := HRs.out.c1
  go_wp2
  clear kc kf HR1 HO1 HB1
  obtain ⟨w1s, hws⟩ : ∃ ws, w1.setCell ⟨q, 0, none⟩ (.int .u8 63) = ws := ⟨_, rfl⟩
  rw [hws] at HRs HOs HBs k1 ⊢
  clear hws
  have HR1 := HRs
  have HO1 := HOs
  have HB1 := HBs
  clear HRs HOs HBs
  rw [rounds_succ]
  go_wp2_with fail
  refine (not_02 _).mono ?_
  rintro e w2 ⟨rfl, hb⟩
  have HR2 := Aside0.mk (HR1.out.below hb)
  have HO2 := Aside0.mk (HO1.out.below hb)
  have HB2 := Aside0.mk (HB1.out.trans (hb.mono HB1.out.size))
  clear hb HR1 HO1 HB1 k1
  have kc := HO2.out.cell 1 _ rfl
  have kf := HO2.out.free 1
  have HRs := Aside0.mk (HR2.out.set (q := q) (by omega) 1 (.int .u8 63))
  have HOs := Aside0.mk (HO2.out.set1 63)
  have HBs := Aside0.mk (HB2.out.setCell (p := ⟨q, 1, none⟩) (by show w.heap.size ≤ q; omega) (.int .u8 63))
  have k2 := HRs.out.c2
  go_wp2
  clear kc kf HR2 HO2 HB2
  obtain ⟨w2s, hws⟩ : ∃ ws, w2.setCell ⟨q, 1, none⟩ (.int .u8 63) = ws := ⟨_, rfl⟩
  rw [hws] at HRs HOs HBs k2 ⊢
  clear hws
  have HR2 := HRs
  have HO2 := HOs
  have HB2 := HBs
  clear HRs HOs HBs
  rw [rounds_succ]
  go_wp2_with fail
  refine (const_val _ _).mono ?_
  rintro e w3 ⟨rfl, rfl⟩
  clear k2
  have kc := HO2.out.cell 2 _ rfl
  have kf := HO2.out.free 2
  have HOs := Aside0.mk (HO2.out.set2 49)
  have HBs := Aside0.mk (HB2.out.setCell (p := ⟨q, 2, none⟩) (by show w.heap.size ≤ q; omega) (.int .u8 49))
  clear HO2 HB2 HR2
  go_wp2
  clear kc kf
  obtain ⟨w3s, hws⟩ : ∃ ws, w2s.setCell ⟨q, 2, none⟩ (.int .u8 49) = ws := ⟨_, rfl⟩
  rw [hws] at HOs HBs ⊢
  clear hws
  rw [rounds_succ]
  have hcb := Kd.C_string (P := Tryz.prog) (c := 3) Tryz.underlying98 Tryz.underlying5 Tryz.underlying9 HOs.out.C
  rw [strs.1] at hcb
  go_wp2
  go_ret
  exact ⟨rfl, HBs.out⟩
set_option maxHeartbeats 4000000 in
set_option maxRecDepth 100000 in
theorem next_1 (g cap : Nat) (w : World) (hR : Row3 g (fN 1) (fN 2) fC w) : Calls Tryz.prog 86 #[.slice (some ⟨g, 0, none⟩) 3 cap, .string ⟨#[63, 63, 49]⟩] w fun e w' => e = .returned (.string ⟨#[63, 48, 49]⟩) ∧ Below w.heap.size w w' := by
  have hm : ∀ w v, (method 429 270 v "pomade/truth.value").run Tryz.prog w = .ok (292, v) w := fun _ _ => by kernel_rfl
  have hm2 : ∀ w v, (method 429 267 v "pomade/truth.value").run Tryz.prog w = .ok (288, v) w := fun _ _ => by kernel_rfl
  have hmk := make3
  have HR := Aside0.mk (hR.below (below_alloc (Below.refl _ w) (.cells #[.int .u8 0, .int .u8 0, .int .u8 0] 5)))
  have HO := Aside0.mk (Out3.mk (q := w.heap.size) (w := w.alloc (.cells #[.int .u8 0, .int .u8 0, .int .u8 0] 5)) (by rw [heap_alloc_new]))
  have HB := Aside0.mk (below_alloc (Below.refl _ w) (.cells #[.int .u8 0, .int .u8 0, .int .u8 0] 5))
  have hgl := hR.lt
  have k0 := HR.out.c0
  have hql : w.heap.size < (w.alloc (.cells #[.int .u8 0, .int .u8 0, .int .u8 0] 5)).heap.size := by simp
  clear hR
  go_enter Tryz.func86, Tryz.ntmps86
  go_wp2
  clear hmk
  obtain ⟨w0, hw0⟩ : ∃ w0, w.alloc (.cells #[.int .u8 0, .int .u8 0, .int .u8 0] 5) = w0 := ⟨_, rfl⟩
  obtain ⟨q, hq⟩ : ∃ q, w.heap.size = q := ⟨_, rfl⟩
  rw [hw0] at HR HO HB k0 hql ⊢
  rw [hq] at HO hql hgl ⊢
  clear hw0
  refine wp_loop_rounds 4 ?_
  rw [rounds_succ]
  go_wp2_with fail
  refine (not_11 _).mono ?_
  rintro e w1 ⟨rfl, hb⟩
  have HR1 := Aside0.mk (HR.out.below hb)
  have HO1 := Aside0.mk (HO.out.below hb)
  have HB1 := Aside0.mk (HB.out.trans (hb.mono HB.out.size))
  clear hb HR HO HB k0
  have kc := HO1.out.cell 0 _ rfl
  have kf := HO1.out.free 0
  have HRs := Aside0.mk (HR1.out.set (q := q) (by omega) 0 (.int .u8 63))
  have HOs := Aside0.mk (HO1.out.set0 63)
  have HBs := Aside0.mk (HB1.out.setCell (p := ⟨q, 0, none⟩) (by show w.heap.size ≤ q; omega) (.int .u8 63))
  have k1 := HRs.out.c1
  go_wp2
  clear kc kf HR1 HO1 HB1
  obtain ⟨w1s, hws⟩ : ∃ ws, w1.setCell ⟨q, 0, none⟩ (.int .u8 63) = ws := ⟨_, rfl⟩
  rw [hws] at HRs HOs HBs k1 ⊢
  clear hws
  have HR1 := HRs
  have HO1 := HOs
  have HB1 := HBs
  clear HRs HOs HBs
  rw [rounds_succ]
  go_wp2_with fail
  refine (not_12 _).mono ?_
  rintro e w2 ⟨rfl, hb⟩
  have HR2 := Aside0.mk (HR1.out.below hb)
  have HO2 := Aside0.mk (HO1.out.below hb)
  have HB2 := Aside0.mk (HB1.out.trans (hb.mono HB1.out.size))
  clear hb HR1 HO1 HB1 k1
  have kc := HO2.out.cell 1 _ rfl
  have kf := HO2.out.free 1
  have HRs := Aside0.mk (HR2.out.set (q := q) (by omega) 1 (.int .u8 48))
  have HOs := Aside0.mk (HO2.out.set1 48)
  have HBs := Aside0.mk (HB2.out.setCell (p := ⟨q, 1, none⟩) (by show w.heap.size ≤ q; omega) (.int .u8 48))
  have k2 := HRs.out.c2
  go_wp2
  clear kc kf HR2 HO2 HB2
  obtain ⟨w2s, hws⟩ : ∃ ws, w2.setCell ⟨q, 1, none⟩ (.int .u8 48) = ws := ⟨_, rfl⟩
  rw [hws] at HRs HOs HBs k2 ⊢
  clear hws
  have HR2 := HRs
  have HO2 := HOs
  have HB2 := HBs
  clear HRs HOs HBs
  rw [rounds_succ]
  go_wp2_with fail
  refine (const_val _ _).mono ?_
  rintro e w3 ⟨rfl, rfl⟩
  clear k2
  have kc := HO2.out.cell 2 _ rfl
  have kf := HO2.out.free 2
  have HOs := Aside0.mk (HO2.out.set2 49)
  have HBs := Aside0.mk (HB2.out.setCell (p := ⟨q, 2, none⟩) (by show w.heap.size ≤ q; omega) (.int .u8 49))
  clear HO2 HB2 HR2
  go_wp2
  clear kc kf
  obtain ⟨w3s, hws⟩ : ∃ ws, w2s.setCell ⟨q, 2, none⟩ (.int .u8 49) = ws := ⟨_, rfl⟩
  rw [hws] at HOs HBs ⊢
  clear hws
  rw [rounds_succ]
  have hcb := Kd.C_string (P := Tryz.prog) (c := 3) Tryz.underlying98 Tryz.underlying5 Tryz.underlying9 HOs.out.C
  rw [strs.2.1] at hcb
  go_wp2
  go_ret
  exact ⟨rfl, HBs.out⟩
set_option maxHeartbeats 4000000 in
set_option maxRecDepth 100000 in
theorem next_2 (g cap : Nat) (w : World) (hR : Row3 g (fN 1) (fN 2) fC w) : Calls Tryz.prog 86 #[.slice (some ⟨g, 0, none⟩) 3 cap, .string ⟨#[63, 48, 49]⟩] w fun e w' => e = .returned (.string ⟨#[49, 48, 49]⟩) ∧ Below w.heap.size w w' := by
  have hm : ∀ w v, (method 429 270 v "pomade/truth.value").run Tryz.prog w = .ok (292, v) w := fun _ _ => by kernel_rfl
  have hm2 : ∀ w v, (method 429 267 v "pomade/truth.value").run Tryz.prog w = .ok (288, v) w := fun _ _ => by kernel_rfl
  have hmk := make3
  have HR := Aside0.mk (hR.below (below_alloc (Below.refl _ w) (.cells #[.int .u8 0, .int .u8 0, .int .u8 0] 5)))
  have HO := Aside0.mk (Out3.mk (q := w.heap.size) (w := w.alloc (.cells #[.int .u8 0, .int .u8 0, .int .u8 0] 5)) (by rw [heap_alloc_new]))
  have HB := Aside0.mk (below_alloc (Below.refl _ w) (.cells #[.int .u8 0, .int .u8 0, .int .u8 0] 5))
  have hgl := hR.lt
  have k0 := HR.out.c0
  have hql : w.heap.size < (w.alloc (.cells #[.int .u8 0, .int .u8 0, .int .u8 0] 5)).heap.size := by simp
  clear hR
  go_enter Tryz.func86, Tryz.ntmps86
  go_wp2
  clear hmk
  obtain ⟨w0, hw0⟩ : ∃ w0, w.alloc (.cells #[.int .u8 0, .int .u8 0, .int .u8 0] 5) = w0 := ⟨_, rfl⟩
  obtain ⟨q, hq⟩ : ∃ q, w.heap.size = q := ⟨_, rfl⟩
  rw [hw0] at HR HO HB k0 hql ⊢
  rw [hq] at HO hql hgl ⊢
  clear hw0
  refine wp_loop_rounds 4 ?_
  rw [rounds_succ]
  go_wp2_with fail
  refine (not_21 _).mono ?_
  rintro e w1 ⟨rfl, hb⟩
  have HR1 := Aside0.mk (HR.out.below hb)
  have HO1 := Aside0.mk (HO.out.below hb)
  have HB1 := Aside0.mk (HB.out.trans (hb.mono HB.out.size))
  clear hb HR HO HB k0
  have kc := HO1.out.cell 0 _ rfl
  have kf := HO1.out.free 0
  have HRs := Aside0.mk (HR1.out.set (q := q) (by omega) 0 (.int .u8 49))
  have HOs := Aside0.mk (HO1.out.set0 49)
  have HBs := Aside0.mk (HB1.out.setCell (p := ⟨q, 0, none⟩) (by show w.heap.size ≤ q; omega) (.int .u8 49))
  have k1 := HRs.out.c1
  go_wp2
  clear kc kf HR1 HO1 HB1
  obtain ⟨w1s, hws⟩ : ∃ ws, w1.setCell ⟨q, 0, none⟩ (.int .u8 49) = ws := ⟨_, rfl⟩
  rw [hws] at HRs HOs HBs k1 ⊢
  clear hws
  have HR1 := HRs
  have HO1 := HOs
  have HB1 := HBs
  clear HRs HOs HBs
  rw [rounds_succ]
  go_wp2_with fail
  refine (not_22 _).mono ?_
  rintro e w2 ⟨rfl, hb⟩
  have HR2 := Aside0.mk (HR1.out.below hb)
  have HO2 := Aside0.mk (HO1.out.below hb)
  have HB2 := Aside0.mk (HB1.out.trans (hb.mono HB1.out.size))
  clear hb HR1 HO1 HB1 k1
  have kc := HO2.out.cell 1 _ rfl
  have kf := HO2.out.free 1
  have HRs := Aside0.mk (HR2.out.set (q := q) (by omega) 1 (.int .u8 48))
  have HOs := Aside0.mk (HO2.out.set1 48)
  have HBs := Aside0.mk (HB2.out.setCell (p := ⟨q, 1, none⟩) (by show w.heap.size ≤ q; omega) (.int .u8 48))
  have k2 := HRs.out.c2
  go_wp2
  clear kc kf HR2 HO2 HB2
  obtain ⟨w2s, hws⟩ : ∃ ws, w2.setCell ⟨q, 1, none⟩ (.int .u8 48) = ws := ⟨_, rfl⟩
  rw [hws] at HRs HOs HBs k2 ⊢
  clear hws
  have HR2 := HRs
  have HO2 := HOs
  have HB2 := HBs
  clear HRs HOs HBs
  rw [rounds_succ]
  go_wp2_with fail
  refine (const_val _ _).mono ?_
  rintro e w3 ⟨rfl, rfl⟩
  clear k2
  have kc := HO2.out.cell 2 _ rfl
  have kf := HO2.out.free 2
  have HOs := Aside0.mk (HO2.out.set2 49)
  have HBs := Aside0.mk (HB2.out.setCell (p := ⟨q, 2, none⟩) (by show w.heap.size ≤ q; omega) (.int .u8 49))
  clear HO2 HB2 HR2
  go_wp2
  clear kc kf
  obtain ⟨w3s, hws⟩ : ∃ ws, w2s.setCell ⟨q, 2, none⟩ (.int .u8 49) = ws := ⟨_, rfl⟩
  rw [hws] at HOs HBs ⊢
  clear hws
  rw [rounds_succ]
  have hcb := Kd.C_string (P := Tryz.prog) (c := 3) Tryz.underlying98 Tryz.underlying5 Tryz.underlying9 HOs.out.C
  rw [strs.2.2] at hcb
  go_wp2
  go_ret
  exact ⟨rfl, HBs.out⟩
theorem rep3 (w : World) : Calls Tryz.prog 85 #[.string ⟨#[63]⟩, .int .i64 3] w fun e w' => e = .returned (.string ⟨#[63, 63, 63]⟩) ∧ Below w.heap.size w w' :=
  (Tryz.strings_Repeat ⟨#[63]⟩ 3 w (by decide) (by decide)).mono fun e w' ⟨he, hb⟩ => ⟨he.trans (by rfl), hb⟩
set_option maxHeartbeats 4000000 in
set_option maxRecDepth 100000 in
theorem least_calls (g cap : Nat) (w : World) (hR : Row3 g (.string sen1) (.string sen2) (.string sen3) w) :
    Calls Tryz.prog 46 #[.slice (some ⟨g, 0, none⟩) 3 cap] w fun e w' => e = .returned (.tuple #[.string ⟨#[49, 48, 49]⟩, .int .i64 0]) ∧ Below w.heap.size w w' := by
  have HR := Aside0.mk hR
  clear hR
  go_enter Tryz.func46, Tryz.ntmps46
  go_wp2_with fail
  refine (sys_calls g cap _ HR.out).mono ?_
  rintro e w1 ⟨v, rfl, ho, hb1⟩
  obtain ⟨g2, c2, rfl, hg2, hr2⟩ := own_row3 ho
  have HR2 := Aside0.mk hr2
  have HB1 := Aside0.mk hb1
  clear ho hb1 hr2 HR
  go_wp2_with fail
  refine (rep3 _).mono ?_
  rintro e w2 ⟨rfl, hb2⟩
  have HR3 := Aside0.mk (HR2.out.below hb2)
  have HB2 := Aside0.mk (HB1.out.trans (hb2.mono HB1.out.size))
  clear hb2 HR2 HB1
  go_wp2
  refine wp_loop_rounds 4 ?_
  rw [rounds_succ]
  go_wp2_with fail
  refine (next_0 g2 c2 _ HR3.out).mono ?_
  rintro e w3 ⟨rfl, hb3⟩
  have HR4 := Aside0.mk (HR3.out.below hb3)
  have HB3 := Aside0.mk (HB2.out.trans (hb3.mono HB2.out.size))
  clear hb3 HR3 HB2
  go_wp2
  rw [rounds_succ]
  go_wp2_with fail
  refine (next_1 g2 c2 _ HR4.out).mono ?_
  rintro e w4 ⟨rfl, hb4⟩
  have HR5 := Aside0.mk (HR4.out.below hb4)
  have HB4 := Aside0.mk (HB3.out.trans (hb4.mono HB3.out.size))
  clear hb4 HR4 HB3
  go_wp2
  rw [rounds_succ]
  go_wp2_with fail
  refine (next_2 g2 c2 _ HR5.out).mono ?_
  rintro e w5 ⟨rfl, hb5⟩
  have HB5 := Aside0.mk (HB4.out.trans (hb5.mono HB4.out.size))
  clear hb5 HR5 HB4
  go_wp2
  rw [rounds_succ]
  go_wp2
  go_ret2
  exact ⟨rfl, HB5.out⟩

end Go.Proofs.YtldohjlcckbfaaaGreatDoor.Hand
