-- Written by a program of this session (wip/tools/hprint.py over the kit's print.py); Lean checks it.
import Derived.Test.YtnjimbgfafkogaaDoorPrint0
import Derived.Test.YtnjimbgfafkogaaDoorPrint3
namespace Go.Proofs.YtnjimbgfafkogaaDoor.Print
open Go.RowKit Go.Proofs.YtnjimbgfafkogaaDoor.Hand Go.Proofs.YtnjimbgfafkogaaDoor.Pre Go.Proofs.YtnjimbgfafkogaaDoor.Bal Go.Proofs.YtnjimbgfafkogaaDoor.Base Go.Proofs.YtnjimbgfafkogaaDoorW.PrintWords Go.Proofs.YtnjimbgfafkogaaDoorW.PrintLast Go.Proofs.YtnjimbgfafkogaaDoorW.PrintMore
attribute [local go_sem] max2_int min2_int max_two min_two max_three min_three max_four min_four   -- for this text's walks alone
set_option linter.unusedVariables false
set_option linter.unusedSimpArgs false

/-! ### till_Zeros: function 32 -/
def till_Zeros.f (k : Nat) (a0 : Int) : Option (List Int × Int) := (till_arcs.f k a0).bind fun bt246 => (some (bt246.1, bt246.2))
theorem till_Zeros.mono : ∀ a0 k, LeO (till_Zeros.f k a0) (till_Zeros.f (k + 1) a0) := by
 intro a0 k
 unfold till_Zeros.f
 repeat' first
   | (with_reducible exact till_arcs.mono _ _)
   | (with_reducible exact LeO.refl _)
   | (with_reducible exact LeO.none _)
   | (with_reducible refine LeO.ite ?_ ?_)
   | (with_reducible refine LeO.bind ?_ (fun _ => ?_))
   | exact till_arcs.mono _ _
   | exact LeO.none _
   | refine LeO.ite ?_ ?_
   | refine LeO.bind ?_ (fun _ => ?_)
set_option maxHeartbeats 8000000 in
set_option maxRecDepth 100000 in
theorem till_Zeros.calls (k : Nat) (a0 : Int) (r1 : List Int) (r2 : Int) (w : World) (h : till_Zeros.f k a0 = some (r1, r2)) :
  Calls Tryd.prog 32 #[.int .i64 a0] w fun e w' => ∃ v0_ : Value, e = .returned (.tuple #[v0_, .int .i64 r2]) ∧ Kd.R (Kd.int .i64) 3 w' w.heap.size (fun _ => True) v0_ r1 ∧ Below w.heap.size w w' := by
 have HB := Aside0.mk (Below.refl w.heap.size w)
 have H : ((till_arcs.f k a0).bind fun bt246 => (some (bt246.1, bt246.2))) = some (r1, r2) := h
 clear h
 replace H := Option.bind_eq_some_iff.mp H
 obtain ⟨⟨t246, t247⟩, A20, H⟩ := H
 replace H : (some (t246, t247)) = some (r1, r2) := H
 have A2 := Aside0.mk A20
 clear A20
 simp only [Option.some.injEq, Prod.mk.injEq] at H
 obtain ⟨rfl, rfl⟩ := H
 go_enter Tryd.func32, Tryd.ntmps32
 go_wp2_with (first | ((with_reducible refine gate_callee (f := 59) rfl ?_); refine goesL_ (some 5) rfl rfl Tryd.func59 (by kernel_rfl) rfl #[.int .i64 a0] rfl (by (try simp only [List.map_toArray, List.map_cons, List.map_nil]); first | done | rfl | (simp only [List.length_drop, List.length_take]; rfl)) ?_; (with_reducible refine (till_arcs.calls k a0 t246 t247 _ A2.out).mono ?_); rintro e w3 ⟨v248, rfl, ho0, hb⟩; refine ⟨_, rfl, ?_⟩; have n0_ := Aside0.mk (Kd.R_lower ho0 (below_size (by repeat (first | (with_reducible first | exact HB.out | apply below_alloc | apply pw_below_drewN | apply below_drew1) | exact HB.out)))); have n1_ := Aside0.mk (below_step (by repeat (first | (with_reducible first | exact HB.out | apply below_alloc | apply pw_below_drewN | apply below_drew1) | exact HB.out)) hb); clear HB; have HO249 := n0_; have HB := n1_; clear n0_ n1_; (try clear hb); (try clear hb2); (try clear hk); (try clear hi); (try clear ho0)))
 go_ret2
 exact ⟨_, by first | rfl | (simp [errW_none, errW_some] <;> rfl) | (simp [*, errW_none, errW_some] <;> rfl), by (with_reducible repeat (first | apply Kd.R_alloc | apply Kd.R_drewN | apply Kd.R_drew)); exact HO249.out, by repeat (first | (with_reducible first | exact HB.out | apply below_alloc | apply pw_below_drewN | apply below_drew1) | exact HB.out)⟩

/-! ### pomadelaw09_TillArcs: function 10 -/
mutual
def pomadelaw09_TillArcs.j0 : Nat → Int → List Int → Bool → Option (Bool)
 | 0, _, _, _ => none
 | k + 1, x3, x4, x41 => if x41 = true then (some false) else (pomadelaw09_TillArcs.l0 k x3 x4 0 0)
def pomadelaw09_TillArcs.l0 : Nat → Int → List Int → Int → Int → Option (Bool)
 | 0, _, _, _, _ => none
 | k + 1, x3, x4, x8, x9 => if x9 ≤ x3 then (if 0 ≤ x9 then (if x9 < (x4.length : Int) then ((pomadelaw09_choose.f k (wrap64 (2 * x9)) x9).bind fun t297 => ((pomadelaw09_choose.f k (wrap64 ((wrap64 (2 * x3)) - (wrap64 (2 * x9)))) (wrap64 (x3 - x9))).bind fun t298 => (if (rd x4 x9) = (wrap64 (t297 * t298)) then (pomadelaw09_TillArcs.l0 k x3 x4 (wrap64 (x8 + (rd x4 x9))) (wrap64 (x9 + 1))) else (some false)))) else (none)) else (none)) else (if 0 ≤ (wrap64 (2 * x3)) then (if x8 = (shl .i64 1 (wrap64 (2 * x3))) then ((pomadelaw09_alive.f k).bind fun t295 => (some t295)) else (some false)) else (none))
end
def pomadelaw09_TillArcs.f (k : Nat) (a0 : Int) : Option (Bool) := (till_Sides.f k (wrap64 (Int.tmod a0 31))).bind fun bt286 => ((till_Zeros.f k (wrap64 (Int.tmod a0 31))).bind fun bt290 => (if bt286.2 = 0 then (if bt290.2 = 0 then (if (bt286.1.length : Int) = (wrap64 ((wrap64 (Int.tmod a0 31)) + 1)) then ((pomadelaw09_same.f k bt286.1 bt290.1).bind fun t294 => (pomadelaw09_TillArcs.j0 k (wrap64 (Int.tmod a0 31)) bt286.1 (!t294))) else (pomadelaw09_TillArcs.j0 k (wrap64 (Int.tmod a0 31)) bt286.1 true)) else (pomadelaw09_TillArcs.j0 k (wrap64 (Int.tmod a0 31)) bt286.1 true)) else (pomadelaw09_TillArcs.j0 k (wrap64 (Int.tmod a0 31)) bt286.1 true)))
theorem pomadelaw09_TillArcs.mono_l : ∀ k, (∀ y0 y1 y2, LeO (pomadelaw09_TillArcs.j0 k y0 y1 y2) (pomadelaw09_TillArcs.j0 (k + 1) y0 y1 y2)) ∧ (∀ y0 y1 y2 y3, LeO (pomadelaw09_TillArcs.l0 k y0 y1 y2 y3) (pomadelaw09_TillArcs.l0 (k + 1) y0 y1 y2 y3))
 | 0 => ⟨fun _ _ _ r h => by simp [pomadelaw09_TillArcs.j0] at h, fun _ _ _ _ r h => by simp [pomadelaw09_TillArcs.l0] at h⟩
 | k + 1 => by
  obtain ⟨ih0, ih1⟩ := pomadelaw09_TillArcs.mono_l k
  refine ⟨?_, ?_⟩
  ·intro y0 y1 y2
   unfold pomadelaw09_TillArcs.j0
   repeat' first
   | (with_reducible exact ih0 _ _ _)
   | (with_reducible exact ih1 _ _ _ _)
   | (with_reducible exact pomadelaw09_alive.mono _)
   | (with_reducible exact pomadelaw09_choose.mono _ _ _)
   | (with_reducible exact pomadelaw09_same.mono _ _ _)
   | (with_reducible exact till_Sides.mono _ _)
   | (with_reducible exact till_Zeros.mono _ _)
   | (with_reducible exact LeO.refl _)
   | (with_reducible exact LeO.none _)
   | (with_reducible refine LeO.ite ?_ ?_)
   | (with_reducible refine LeO.bind ?_ (fun _ => ?_))
   | exact ih0 _ _ _
   | exact ih1 _ _ _ _
   | exact pomadelaw09_alive.mono _
   | exact pomadelaw09_choose.mono _ _ _
   | exact pomadelaw09_same.mono _ _ _
   | exact till_Sides.mono _ _
   | exact till_Zeros.mono _ _
   | exact LeO.none _
   | refine LeO.ite ?_ ?_
   | refine LeO.bind ?_ (fun _ => ?_)
  ·intro y0 y1 y2 y3
   unfold pomadelaw09_TillArcs.l0
   repeat' first
   | (with_reducible exact ih0 _ _ _)
   | (with_reducible exact ih1 _ _ _ _)
   | (with_reducible exact pomadelaw09_alive.mono _)
   | (with_reducible exact pomadelaw09_choose.mono _ _ _)
   | (with_reducible exact pomadelaw09_same.mono _ _ _)
   | (with_reducible exact till_Sides.mono _ _)
   | (with_reducible exact till_Zeros.mono _ _)
   | (with_reducible exact LeO.refl _)
   | (with_reducible exact LeO.none _)
   | (with_reducible refine LeO.ite ?_ ?_)
   | (with_reducible refine LeO.bind ?_ (fun _ => ?_))
   | exact ih0 _ _ _
   | exact ih1 _ _ _ _
   | exact pomadelaw09_alive.mono _
   | exact pomadelaw09_choose.mono _ _ _
   | exact pomadelaw09_same.mono _ _ _
   | exact till_Sides.mono _ _
   | exact till_Zeros.mono _ _
   | exact LeO.none _
   | refine LeO.ite ?_ ?_
   | refine LeO.bind ?_ (fun _ => ?_)
theorem pomadelaw09_TillArcs.mono : ∀ a0 k, LeO (pomadelaw09_TillArcs.f k a0) (pomadelaw09_TillArcs.f (k + 1) a0) := by
 intro a0 k
 obtain ⟨ih0, ih1⟩ := pomadelaw09_TillArcs.mono_l k
 unfold pomadelaw09_TillArcs.f
 repeat' first
   | (with_reducible exact ih0 _ _ _)
   | (with_reducible exact ih1 _ _ _ _)
   | (with_reducible exact pomadelaw09_alive.mono _)
   | (with_reducible exact pomadelaw09_choose.mono _ _ _)
   | (with_reducible exact pomadelaw09_same.mono _ _ _)
   | (with_reducible exact till_Sides.mono _ _)
   | (with_reducible exact till_Zeros.mono _ _)
   | (with_reducible exact LeO.refl _)
   | (with_reducible exact LeO.none _)
   | (with_reducible refine LeO.ite ?_ ?_)
   | (with_reducible refine LeO.bind ?_ (fun _ => ?_))
   | exact ih0 _ _ _
   | exact ih1 _ _ _ _
   | exact pomadelaw09_alive.mono _
   | exact pomadelaw09_choose.mono _ _ _
   | exact pomadelaw09_same.mono _ _ _
   | exact till_Sides.mono _ _
   | exact till_Zeros.mono _ _
   | exact LeO.none _
   | refine LeO.ite ?_ ?_
   | refine LeO.bind ?_ (fun _ => ?_)
set_option maxHeartbeats 8000000 in
set_option maxRecDepth 100000 in
theorem pomadelaw09_TillArcs.calls (k : Nat) (a0 : Int) (r : Bool) (w : World) (h : pomadelaw09_TillArcs.f k a0 = some r) :
  Calls Tryd.prog 10 #[.int .u8 a0] w fun e w' => e = .returned (.bool r) ∧ Below w.heap.size w w' := by
 have HB := Aside0.mk (Below.refl w.heap.size w)
 have H : ((till_Sides.f k (wrap64 (Int.tmod a0 31))).bind fun bt286 => ((till_Zeros.f k (wrap64 (Int.tmod a0 31))).bind fun bt290 => (if bt286.2 = 0 then (if bt290.2 = 0 then (if (bt286.1.length : Int) = (wrap64 ((wrap64 (Int.tmod a0 31)) + 1)) then ((pomadelaw09_same.f k bt286.1 bt290.1).bind fun t294 => (pomadelaw09_TillArcs.j0 k (wrap64 (Int.tmod a0 31)) bt286.1 (!t294))) else (pomadelaw09_TillArcs.j0 k (wrap64 (Int.tmod a0 31)) bt286.1 true)) else (pomadelaw09_TillArcs.j0 k (wrap64 (Int.tmod a0 31)) bt286.1 true)) else (pomadelaw09_TillArcs.j0 k (wrap64 (Int.tmod a0 31)) bt286.1 true)))) = some r := h
 clear h
 replace H := Option.bind_eq_some_iff.mp H
 obtain ⟨⟨t286, t287⟩, A20, H⟩ := H
 replace H : ((till_Zeros.f k (wrap64 (Int.tmod a0 31))).bind fun bt290 => (if t287 = 0 then (if bt290.2 = 0 then (if (t286.length : Int) = (wrap64 ((wrap64 (Int.tmod a0 31)) + 1)) then ((pomadelaw09_same.f k t286 bt290.1).bind fun t294 => (pomadelaw09_TillArcs.j0 k (wrap64 (Int.tmod a0 31)) t286 (!t294))) else (pomadelaw09_TillArcs.j0 k (wrap64 (Int.tmod a0 31)) t286 true)) else (pomadelaw09_TillArcs.j0 k (wrap64 (Int.tmod a0 31)) t286 true)) else (pomadelaw09_TillArcs.j0 k (wrap64 (Int.tmod a0 31)) t286 true))) = some r := H
 have A2 := Aside0.mk A20
 clear A20
 replace H := Option.bind_eq_some_iff.mp H
 obtain ⟨⟨t290, t291⟩, A30, H⟩ := H
 replace H : (if t287 = 0 then (if t291 = 0 then (if (t286.length : Int) = (wrap64 ((wrap64 (Int.tmod a0 31)) + 1)) then ((pomadelaw09_same.f k t286 t290).bind fun t294 => (pomadelaw09_TillArcs.j0 k (wrap64 (Int.tmod a0 31)) t286 (!t294))) else (pomadelaw09_TillArcs.j0 k (wrap64 (Int.tmod a0 31)) t286 true)) else (pomadelaw09_TillArcs.j0 k (wrap64 (Int.tmod a0 31)) t286 true)) else (pomadelaw09_TillArcs.j0 k (wrap64 (Int.tmod a0 31)) t286 true)) = some r := H
 have A3 := Aside0.mk A30
 clear A30
 have HC4 := Aside0.mk H
 clear H
 go_enter Tryd.func10, Tryd.ntmps10
 go_upto_region 4 with (first | (go_at_call 30; (with_reducible refine (till_Sides.calls k (wrap64 (Int.tmod a0 31)) t286 t287 _ A2.out).mono ?_); rintro e w5 ⟨v288, rfl, ho0, hb⟩; have n0_ := Aside0.mk (Kd.R_lower ho0 (below_size (by repeat (first | (with_reducible first | exact HB.out | apply below_alloc | apply pw_below_drewN | apply below_drew1) | exact HB.out)))); have n1_ := Aside0.mk (below_step (by repeat (first | (with_reducible first | exact HB.out | apply below_alloc | apply pw_below_drewN | apply below_drew1) | exact HB.out)) hb); clear HB; have HO289 := n0_; have HB := n1_; clear n0_ n1_; (try clear hb); (try clear hb2); (try clear hk); (try clear hi); (try clear ho0)) | (go_at_call 32; (with_reducible refine (till_Zeros.calls k (wrap64 (Int.tmod a0 31)) t290 t291 _ A3.out).mono ?_); rintro e w6 ⟨v292, rfl, ho0, hb⟩; have n0_ := Aside0.mk (Kd.R_elder' (by (with_reducible repeat (first | apply Kd.R_alloc | apply Kd.R_drewN | apply Kd.R_drew)); exact HO289.out) (Kd.R_base ho0) hb); have n1_ := Aside0.mk (Kd.R_lower (Kd.R_new' ho0 (Kd.R_lt (by (with_reducible repeat (first | apply Kd.R_alloc | apply Kd.R_drewN | apply Kd.R_drew)); exact HO289.out))) (below_size (by repeat (first | (with_reducible first | exact HB.out | apply below_alloc | apply pw_below_drewN | apply below_drew1) | exact HB.out)))); have n2_ := Aside0.mk (below_step (by repeat (first | (with_reducible first | exact HB.out | apply below_alloc | apply pw_below_drewN | apply below_drew1) | exact HB.out)) hb); clear HO289; clear HB; have HO289 := n0_; have HO293 := n1_; have HB := n2_; clear n0_ n1_ n2_; (try clear hb); (try clear hb2); (try clear hk); (try clear hi); (try clear ho0)))
 repeat (go_quiet (first | (go_at_call 30; (with_reducible refine (till_Sides.calls k (wrap64 (Int.tmod a0 31)) t286 t287 _ A2.out).mono ?_); rintro e w5 ⟨v288, rfl, ho0, hb⟩; have n0_ := Aside0.mk (Kd.R_lower ho0 (below_size (by repeat (first | (with_reducible first | exact HB.out | apply below_alloc | apply pw_below_drewN | apply below_drew1) | exact HB.out)))); have n1_ := Aside0.mk (below_step (by repeat (first | (with_reducible first | exact HB.out | apply below_alloc | apply pw_below_drewN | apply below_drew1) | exact HB.out)) hb); clear HB; have HO289 := n0_; have HB := n1_; clear n0_ n1_; (try clear hb); (try clear hb2); (try clear hk); (try clear hi); (try clear ho0)) | (go_at_call 32; (with_reducible refine (till_Zeros.calls k (wrap64 (Int.tmod a0 31)) t290 t291 _ A3.out).mono ?_); rintro e w6 ⟨v292, rfl, ho0, hb⟩; have n0_ := Aside0.mk (Kd.R_elder' (by (with_reducible repeat (first | apply Kd.R_alloc | apply Kd.R_drewN | apply Kd.R_drew)); exact HO289.out) (Kd.R_base ho0) hb); have n1_ := Aside0.mk (Kd.R_lower (Kd.R_new' ho0 (Kd.R_lt (by (with_reducible repeat (first | apply Kd.R_alloc | apply Kd.R_drewN | apply Kd.R_drew)); exact HO289.out))) (below_size (by repeat (first | (with_reducible first | exact HB.out | apply below_alloc | apply pw_below_drewN | apply below_drew1) | exact HB.out)))); have n2_ := Aside0.mk (below_step (by repeat (first | (with_reducible first | exact HB.out | apply below_alloc | apply pw_below_drewN | apply below_drew1) | exact HB.out)) hb); clear HO289; clear HB; have HO289 := n0_; have HO293 := n1_; have HB := n2_; clear n0_ n1_ n2_; (try clear hb); (try clear hb2); (try clear hk); (try clear hi); (try clear ho0))); go_upto_region 4 with (first | (go_at_call 30; (with_reducible refine (till_Sides.calls k (wrap64 (Int.tmod a0 31)) t286 t287 _ A2.out).mono ?_); rintro e w5 ⟨v288, rfl, ho0, hb⟩; have n0_ := Aside0.mk (Kd.R_lower ho0 (below_size (by repeat (first | (with_reducible first | exact HB.out | apply below_alloc | apply pw_below_drewN | apply below_drew1) | exact HB.out)))); have n1_ := Aside0.mk (below_step (by repeat (first | (with_reducible first | exact HB.out | apply below_alloc | apply pw_below_drewN | apply below_drew1) | exact HB.out)) hb); clear HB; have HO289 := n0_; have HB := n1_; clear n0_ n1_; (try clear hb); (try clear hb2); (try clear hk); (try clear hi); (try clear ho0)) | (go_at_call 32; (with_reducible refine (till_Zeros.calls k (wrap64 (Int.tmod a0 31)) t290 t291 _ A3.out).mono ?_); rintro e w6 ⟨v292, rfl, ho0, hb⟩; have n0_ := Aside0.mk (Kd.R_elder' (by (with_reducible repeat (first | apply Kd.R_alloc | apply Kd.R_drewN | apply Kd.R_drew)); exact HO289.out) (Kd.R_base ho0) hb); have n1_ := Aside0.mk (Kd.R_lower (Kd.R_new' ho0 (Kd.R_lt (by (with_reducible repeat (first | apply Kd.R_alloc | apply Kd.R_drewN | apply Kd.R_drew)); exact HO289.out))) (below_size (by repeat (first | (with_reducible first | exact HB.out | apply below_alloc | apply pw_below_drewN | apply below_drew1) | exact HB.out)))); have n2_ := Aside0.mk (below_step (by repeat (first | (with_reducible first | exact HB.out | apply below_alloc | apply pw_below_drewN | apply below_drew1) | exact HB.out)) hb); clear HO289; clear HB; have HO289 := n0_; have HO293 := n1_; have HB := n2_; clear n0_ n1_ n2_; (try clear hb); (try clear hb2); (try clear hk); (try clear hi); (try clear ho0))))
 (try clear hwI_)
 (try simp only [Act.put, List.setIfInBounds_toArray, List.set_cons_zero, List.set_cons_succ])
 go_cut [41] (fun v41 wc => ∃ (kq : Nat) (x41_3 : Bool), v41 = .bool x41_3 ∧ Aside0 (pomadelaw09_TillArcs.j0 kq (wrap64 (Int.tmod a0 31)) t286 x41_3 = some r) ∧ Aside0 (kq ≤ k) ∧ Aside0 (Kd.R (Kd.int .i64) 3 wc w.heap.size (fun _ => True) v288 t286) ∧ Aside0 (Below w.heap.size w wc))
 case first =>
  have H := HC4.out
  clear HC4
  by_cases c7 : t287 = 0
  ·rw [if_pos c7] at H
   have c7b0 : (t287 == 0) = true := beq_iff_eq.mpr c7
   have c7b1 : (t287 != 0) = false := bne_eq_false_iff_eq.mpr c7
   clear c7
   (first | rw [c7b0] | (simp only [i64_w, i32_w]; rw [c7b0]) | skip)
   by_cases c8 : t291 = 0
   ·rw [if_pos c8] at H
    have c8b0 : (t291 == 0) = true := beq_iff_eq.mpr c8
    have c8b1 : (t291 != 0) = false := bne_eq_false_iff_eq.mpr c8
    clear c8
    by_cases c9 : (t286.length : Int) = (wrap64 ((wrap64 (Int.tmod a0 31)) + 1))
    ·rw [if_pos c9] at H
     have c9b0 : ((t286.length : Int) == (wrap64 ((wrap64 (Int.tmod a0 31)) + 1))) = true := beq_iff_eq.mpr c9
     have c9b1 : ((t286.length : Int) != (wrap64 ((wrap64 (Int.tmod a0 31)) + 1))) = false := bne_eq_false_iff_eq.mpr c9
     clear c9
     replace H := Option.bind_eq_some_iff.mp H
     obtain ⟨t294, A100, H⟩ := H
     replace H : (pomadelaw09_TillArcs.j0 k (wrap64 (Int.tmod a0 31)) t286 (!t294)) = some r := H
     have A10 := Aside0.mk A100
     clear A100
     have H' := Aside0.mk H
     clear H
     obtain ⟨Ao11, co11, eo11⟩ := Kd.R_slice HO289.out
     subst eo11
     obtain ⟨Ao12, co12, eo12⟩ := Kd.R_slice HO293.out
     subst eo12
     have hwI_ : ∀ n_ : Int, IntKind.i64.wrap n_ = wrap64 n_ := i64_w
     go_wp2_with (first | (go_at_call 21; (with_reducible refine (pomadelaw09_same.calls k _ _ t286 _ _ t290 t294 _ ?side1 ?side2 ?side3 ?side4 A10.out).mono ?_); (case side1 => repeat (first | exact (Kd.R_reads' HO289.out).2.2 | (with_reducible refine Kd.C_alloc ?_ _) | (with_reducible refine Kd.C_drewN ?_ _) | (with_reducible refine Kd.C_drew ?_))); (case side2 => exact (Kd.R_reads' HO289.out).2.1); (case side3 => repeat (first | exact (Kd.R_reads' HO293.out).2.2 | (with_reducible refine Kd.C_alloc ?_ _) | (with_reducible refine Kd.C_drewN ?_ _) | (with_reducible refine Kd.C_drew ?_))); (case side4 => exact (Kd.R_reads' HO293.out).2.1); rintro e w' ⟨rfl, ⟨nd, rfl⟩⟩; (try first | exact ⟨rfl, _, World.drewN_drewN _ _ _⟩ | exact ⟨rfl, _, Eq.trans (World.drewN_drewN _ _ _) (congrArg (World.drewN _) (Nat.add_assoc _ _ _))⟩)))
     repeat (go_quiet (first | (go_at_call 21; (with_reducible refine (pomadelaw09_same.calls k _ _ t286 _ _ t290 t294 _ ?side1 ?side2 ?side3 ?side4 A10.out).mono ?_); (case side1 => repeat (first | exact (Kd.R_reads' HO289.out).2.2 | (with_reducible refine Kd.C_alloc ?_ _) | (with_reducible refine Kd.C_drewN ?_ _) | (with_reducible refine Kd.C_drew ?_))); (case side2 => exact (Kd.R_reads' HO289.out).2.1); (case side3 => repeat (first | exact (Kd.R_reads' HO293.out).2.2 | (with_reducible refine Kd.C_alloc ?_ _) | (with_reducible refine Kd.C_drewN ?_ _) | (with_reducible refine Kd.C_drew ?_))); (case side4 => exact (Kd.R_reads' HO293.out).2.1); rintro e w' ⟨rfl, ⟨nd, rfl⟩⟩; (try first | exact ⟨rfl, _, World.drewN_drewN _ _ _⟩ | exact ⟨rfl, _, Eq.trans (World.drewN_drewN _ _ _) (congrArg (World.drewN _) (Nat.add_assoc _ _ _))⟩))); try go_wp2_with (first | (go_at_call 21; (with_reducible refine (pomadelaw09_same.calls k _ _ t286 _ _ t290 t294 _ ?side1 ?side2 ?side3 ?side4 A10.out).mono ?_); (case side1 => repeat (first | exact (Kd.R_reads' HO289.out).2.2 | (with_reducible refine Kd.C_alloc ?_ _) | (with_reducible refine Kd.C_drewN ?_ _) | (with_reducible refine Kd.C_drew ?_))); (case side2 => exact (Kd.R_reads' HO289.out).2.1); (case side3 => repeat (first | exact (Kd.R_reads' HO293.out).2.2 | (with_reducible refine Kd.C_alloc ?_ _) | (with_reducible refine Kd.C_drewN ?_ _) | (with_reducible refine Kd.C_drew ?_))); (case side4 => exact (Kd.R_reads' HO293.out).2.1); rintro e w' ⟨rfl, ⟨nd, rfl⟩⟩; (try first | exact ⟨rfl, _, World.drewN_drewN _ _ _⟩ | exact ⟨rfl, _, Eq.trans (World.drewN_drewN _ _ _) (congrArg (World.drewN _) (Nat.add_assoc _ _ _))⟩))))
     (try clear hwI_)
     go_meet
     case rel => exact ⟨_, (!t294), (by first | rfl | (simp; done) | (simp [*]; done)), H', ⟨by first | omega | exact Nat.le_refl _⟩, ⟨by (with_reducible repeat (first | apply Kd.R_alloc | apply Kd.R_drewN | apply Kd.R_drew)); exact Kd.R_mono HO289.out (fun _ hk => trivial)⟩, ⟨by repeat (first | (with_reducible first | exact HB.out | apply below_alloc | apply pw_below_drewN | apply below_drew1) | exact HB.out)⟩⟩
    ·rw [if_neg c9] at H
     have c9b0 : ((t286.length : Int) == (wrap64 ((wrap64 (Int.tmod a0 31)) + 1))) = false := beq_eq_false_iff_ne.mpr c9
     have c9b1 : ((t286.length : Int) != (wrap64 ((wrap64 (Int.tmod a0 31)) + 1))) = true := bne_iff_ne.mpr c9
     have H' := Aside0.mk H
     clear H
     obtain ⟨Ao13, co13, eo13⟩ := Kd.R_slice HO289.out
     subst eo13
     go_wp2
     repeat (go_quiet (fail); try go_wp2)
     (try clear hwI_)
     go_meet
     case rel => exact ⟨_, (true), (by first | rfl | (simp; done) | (simp [*]; done)), H', ⟨by first | omega | exact Nat.le_refl _⟩, ⟨by (with_reducible repeat (first | apply Kd.R_alloc | apply Kd.R_drewN | apply Kd.R_drew)); exact Kd.R_mono HO289.out (fun _ hk => trivial)⟩, ⟨by repeat (first | (with_reducible first | exact HB.out | apply below_alloc | apply pw_below_drewN | apply below_drew1) | exact HB.out)⟩⟩
   ·rw [if_neg c8] at H
    have c8b0 : (t291 == 0) = false := beq_eq_false_iff_ne.mpr c8
    have c8b1 : (t291 != 0) = true := bne_iff_ne.mpr c8
    have H' := Aside0.mk H
    clear H
    go_wp2
    repeat (go_quiet (fail); try go_wp2)
    (try clear hwI_)
    go_meet
    case rel => exact ⟨_, (true), (by first | rfl | (simp; done) | (simp [*]; done)), H', ⟨by first | omega | exact Nat.le_refl _⟩, ⟨by (with_reducible repeat (first | apply Kd.R_alloc | apply Kd.R_drewN | apply Kd.R_drew)); exact Kd.R_mono HO289.out (fun _ hk => trivial)⟩, ⟨by repeat (first | (with_reducible first | exact HB.out | apply below_alloc | apply pw_below_drewN | apply below_drew1) | exact HB.out)⟩⟩
  ·rw [if_neg c7] at H
   have c7b0 : (t287 == 0) = false := beq_eq_false_iff_ne.mpr c7
   have c7b1 : (t287 != 0) = true := bne_iff_ne.mpr c7
   (first | rw [c7b0] | (simp only [i64_w, i32_w]; rw [c7b0]) | skip)
   have H' := Aside0.mk H
   clear H
   go_wp2
   repeat (go_quiet (fail); try go_wp2)
   (try clear hwI_)
   go_meet
   case rel => exact ⟨_, (true), (by first | rfl | (simp; done) | (simp [*]; done)), H', ⟨by first | omega | exact Nat.le_refl _⟩, ⟨by (with_reducible repeat (first | apply Kd.R_alloc | apply Kd.R_drewN | apply Kd.R_drew)); exact Kd.R_mono HO289.out (fun _ hk => trivial)⟩, ⟨by repeat (first | (with_reducible first | exact HB.out | apply below_alloc | apply pw_below_drewN | apply below_drew1) | exact HB.out)⟩⟩
 case rest =>
  clear HC4
  try clear c1
  try clear p2
  try clear p6
  try clear c7
  try clear c7b0
  try clear c7b1
  try clear c8
  try clear c8b0
  try clear c8b1
  try clear c9
  try clear c9b0
  try clear c9b1
  try clear c10
  obtain ⟨kq, x41_3, rfl, HA, HJ3, HO_4, HB⟩ := hcut
  cases kq with
  | zero => exact absurd HA.out (by simp [pomadelaw09_TillArcs.j0])
  | succ kj3 =>
   have H := HA.out
   clear HA
   simp only [pomadelaw09_TillArcs.j0] at H
   by_cases c14 : x41_3 = true
   ·subst c14
    have H1 : (some false) = some r := by rw [if_pos rfl] at H; exact H
    clear H
    have H := H1
    clear H1
    obtain rfl := Option.some.inj H
    go_wp2
    repeat (go_quiet (fail); try go_wp2)
    (try clear hwI_)
    go_ret
    exact ⟨by first | rfl | (simp [errW_none, errW_some] <;> rfl) | (simp [*, errW_none, errW_some] <;> rfl), by repeat (first | (with_reducible first | exact HB.out | apply below_alloc | apply pw_below_drewN | apply below_drew1) | exact HB.out)⟩
   ·replace c14 := Bool.eq_false_iff.mpr c14
    subst c14
    have H1 : (pomadelaw09_TillArcs.l0 kj3 (wrap64 (Int.tmod a0 31)) t286 0 0) = some r := by rw [if_neg (show ¬ (false = true) by decide)] at H; exact H
    clear H
    have H := H1
    clear H1
    have H' := Aside0.mk H
    clear H
    go_wp2
    repeat (go_quiet (fail); try go_wp2)
    (try clear hwI_)
    go_loopg [8, 9] kj3 (fun kq v8 v9 w' => ∃ (x8_2 : Int) (x9_2 : Int), v8 = .int .i64 x8_2 ∧ v9 = .int .i64 x9_2 ∧ Aside0 (pomadelaw09_TillArcs.l0 kq (wrap64 (Int.tmod a0 31)) t286 x8_2 x9_2 = some r) ∧ Aside0 (kq ≤ kj3) ∧ Aside0 (Kd.R (Kd.int .i64) 3 w' w.heap.size (fun _ => True) v288 t286) ∧ Aside0 (Below w.heap.size w w'))
    case atStart => exact ⟨(0), (0), (by first | rfl | (simp; done) | (simp [*]; done)), (by first | rfl | (simp; done) | (simp [*]; done)), H', ⟨Nat.le_refl _⟩, ⟨by (with_reducible repeat (first | apply Kd.R_alloc | apply Kd.R_drewN | apply Kd.R_drew)); exact HO_4.out⟩, ⟨by repeat (first | (with_reducible first | exact HB.out | apply below_alloc | apply pw_below_drewN | apply below_drew1) | exact HB.out)⟩⟩
    case round =>
     clear H'
     try clear c1
     try clear p2
     try clear p6
     try clear c7
     try clear c7b0
     try clear c7b1
     try clear c8
     try clear c8b0
     try clear c8b1
     try clear c9
     try clear c9b0
     try clear c9b1
     try clear c10
     try clear c14
     try clear p2
     try clear p6
     obtain ⟨x8_2, x9_2, rfl, rfl, HA, HK2, HO_4, HB⟩ := hrel
     cases gk with
     | zero => exact absurd HA.out (by simp [pomadelaw09_TillArcs.l0])
     | succ k2 =>
      have H := HA.out
      clear HA
      simp only [pomadelaw09_TillArcs.l0] at H
      by_cases c15 : x9_2 ≤ (wrap64 (Int.tmod a0 31))
      ·rw [if_pos c15] at H
       have c15b0 : decide (x9_2 ≤ (wrap64 (Int.tmod a0 31))) = true := decide_eq_true c15
       clear c15
       by_cases c16 : 0 ≤ x9_2
       ·rw [if_pos c16] at H
        have c16b0 : decide (0 ≤ x9_2) = true := decide_eq_true c16
        clear c16
        by_cases c17 : x9_2 < (t286.length : Int)
        ·rw [if_pos c17] at H
         have c17b0 : decide (x9_2 < (t286.length : Int)) = true := decide_eq_true c17
         clear c17
         replace H := Option.bind_eq_some_iff.mp H
         obtain ⟨t297, A180, H⟩ := H
         replace H : ((pomadelaw09_choose.f k2 (wrap64 ((wrap64 (2 * (wrap64 (Int.tmod a0 31)))) - (wrap64 (2 * x9_2)))) (wrap64 ((wrap64 (Int.tmod a0 31)) - x9_2))).bind fun t298 => (if (rd t286 x9_2) = (wrap64 (t297 * t298)) then (pomadelaw09_TillArcs.l0 k2 (wrap64 (Int.tmod a0 31)) t286 (wrap64 (x8_2 + (rd t286 x9_2))) (wrap64 (x9_2 + 1))) else (some false))) = some r := H
         have A18 := Aside0.mk A180
         clear A180
         replace H := Option.bind_eq_some_iff.mp H
         obtain ⟨t298, A190, H⟩ := H
         replace H : (if (rd t286 x9_2) = (wrap64 (t297 * t298)) then (pomadelaw09_TillArcs.l0 k2 (wrap64 (Int.tmod a0 31)) t286 (wrap64 (x8_2 + (rd t286 x9_2))) (wrap64 (x9_2 + 1))) else (some false)) = some r := H
         have A19 := Aside0.mk A190
         clear A190
         by_cases c20 : (rd t286 x9_2) = (wrap64 (t297 * t298))
         ·rw [if_pos c20] at H
          have c20b0 : ((rd t286 x9_2) == (wrap64 (t297 * t298))) = true := beq_iff_eq.mpr c20
          have c20b1 : ((rd t286 x9_2) != (wrap64 (t297 * t298))) = false := bne_eq_false_iff_eq.mpr c20
          clear c20
          have H' := Aside0.mk H
          clear H
          obtain ⟨Ao21, co21, eo21⟩ := Kd.R_slice HO_4.out
          subst eo21
          have p296 : 0 ≤ (x9_2 : Int) := of_decide_eq_true (by first | (with_reducible assumption) | assumption)
          have q296 : x9_2 < (t286.length : Int) := of_decide_eq_true (by first | (with_reducible assumption) | assumption)
          obtain ⟨ad296, e296, hx296_0⟩ := Kd.at_int (Kd.R_reads' HO_4.out).2.2 x9_2 p296 q296
          cases e296
          replace p296 := eq_true p296
          replace q296 := eq_true q296
          have hwI_ : ∀ n_ : Int, IntKind.i64.wrap n_ = wrap64 n_ := i64_w
          go_wp2_with (first | (go_at_call 29; (with_reducible refine (pomadelaw09_choose.calls k2 (wrap64 (2 * x9_2)) x9_2 t297 _ A18.out).mono ?_); rintro e w' ⟨rfl, ⟨nd, rfl⟩⟩; (try first | exact ⟨rfl, _, World.drewN_drewN _ _ _⟩ | exact ⟨rfl, _, Eq.trans (World.drewN_drewN _ _ _) (congrArg (World.drewN _) (Nat.add_assoc _ _ _))⟩)) | (go_at_call 29; (with_reducible refine (pomadelaw09_choose.calls k2 (wrap64 ((wrap64 (2 * (wrap64 (Int.tmod a0 31)))) - (wrap64 (2 * x9_2)))) (wrap64 ((wrap64 (Int.tmod a0 31)) - x9_2)) t298 _ A19.out).mono ?_); rintro e w' ⟨rfl, ⟨nd, rfl⟩⟩; (try first | exact ⟨rfl, _, World.drewN_drewN _ _ _⟩ | exact ⟨rfl, _, Eq.trans (World.drewN_drewN _ _ _) (congrArg (World.drewN _) (Nat.add_assoc _ _ _))⟩); have p299 : 0 ≤ (x9_2 : Int) := of_decide_eq_true (by first | (with_reducible assumption) | assumption); have q299 : x9_2 < (t286.length : Int) := of_decide_eq_true (by first | (with_reducible assumption) | assumption); obtain ⟨ad299, e299, hx299_0⟩ := Kd.at_int (Kd.R_reads' HO_4.out).2.2 x9_2 p299 q299; obtain rfl : ad296 = ad299 := (by injection e299); replace p299 := eq_true p299; replace q299 := eq_true q299))
          repeat (go_quiet (first | (go_at_call 29; (with_reducible refine (pomadelaw09_choose.calls k2 (wrap64 (2 * x9_2)) x9_2 t297 _ A18.out).mono ?_); rintro e w' ⟨rfl, ⟨nd, rfl⟩⟩; (try first | exact ⟨rfl, _, World.drewN_drewN _ _ _⟩ | exact ⟨rfl, _, Eq.trans (World.drewN_drewN _ _ _) (congrArg (World.drewN _) (Nat.add_assoc _ _ _))⟩)) | (go_at_call 29; (with_reducible refine (pomadelaw09_choose.calls k2 (wrap64 ((wrap64 (2 * (wrap64 (Int.tmod a0 31)))) - (wrap64 (2 * x9_2)))) (wrap64 ((wrap64 (Int.tmod a0 31)) - x9_2)) t298 _ A19.out).mono ?_); rintro e w' ⟨rfl, ⟨nd, rfl⟩⟩; (try first | exact ⟨rfl, _, World.drewN_drewN _ _ _⟩ | exact ⟨rfl, _, Eq.trans (World.drewN_drewN _ _ _) (congrArg (World.drewN _) (Nat.add_assoc _ _ _))⟩); have p299 : 0 ≤ (x9_2 : Int) := of_decide_eq_true (by first | (with_reducible assumption) | assumption); have q299 : x9_2 < (t286.length : Int) := of_decide_eq_true (by first | (with_reducible assumption) | assumption); obtain ⟨ad299, e299, hx299_0⟩ := Kd.at_int (Kd.R_reads' HO_4.out).2.2 x9_2 p299 q299; obtain rfl : ad296 = ad299 := (by injection e299); replace p299 := eq_true p299; replace q299 := eq_true q299)); try go_wp2_with (first | (go_at_call 29; (with_reducible refine (pomadelaw09_choose.calls k2 (wrap64 (2 * x9_2)) x9_2 t297 _ A18.out).mono ?_); rintro e w' ⟨rfl, ⟨nd, rfl⟩⟩; (try first | exact ⟨rfl, _, World.drewN_drewN _ _ _⟩ | exact ⟨rfl, _, Eq.trans (World.drewN_drewN _ _ _) (congrArg (World.drewN _) (Nat.add_assoc _ _ _))⟩)) | (go_at_call 29; (with_reducible refine (pomadelaw09_choose.calls k2 (wrap64 ((wrap64 (2 * (wrap64 (Int.tmod a0 31)))) - (wrap64 (2 * x9_2)))) (wrap64 ((wrap64 (Int.tmod a0 31)) - x9_2)) t298 _ A19.out).mono ?_); rintro e w' ⟨rfl, ⟨nd, rfl⟩⟩; (try first | exact ⟨rfl, _, World.drewN_drewN _ _ _⟩ | exact ⟨rfl, _, Eq.trans (World.drewN_drewN _ _ _) (congrArg (World.drewN _) (Nat.add_assoc _ _ _))⟩); have p299 : 0 ≤ (x9_2 : Int) := of_decide_eq_true (by first | (with_reducible assumption) | assumption); have q299 : x9_2 < (t286.length : Int) := of_decide_eq_true (by first | (with_reducible assumption) | assumption); obtain ⟨ad299, e299, hx299_0⟩ := Kd.at_int (Kd.R_reads' HO_4.out).2.2 x9_2 p299 q299; obtain rfl : ad296 = ad299 := (by injection e299); replace p299 := eq_true p299; replace q299 := eq_true q299)))
          (try clear hwI_)
          go_roundg k2
          case measure => have := HJ3.out; have := HK2.out; omega
          case rel => exact ⟨(wrap64 (x8_2 + (rd t286 x9_2))), (wrap64 (x9_2 + 1)), (by first | rfl | (simp; done) | (simp [*]; done)), (by first | rfl | (simp; done) | (simp [*]; done)), H', ⟨by have := HJ3.out; have := HK2.out; omega⟩, ⟨by (with_reducible repeat (first | apply Kd.R_alloc | apply Kd.R_drewN | apply Kd.R_drew)); exact HO_4.out⟩, ⟨by repeat (first | (with_reducible first | exact HB.out | apply below_alloc | apply pw_below_drewN | apply below_drew1) | exact HB.out)⟩⟩
         ·rw [if_neg c20] at H
          have c20b0 : ((rd t286 x9_2) == (wrap64 (t297 * t298))) = false := beq_eq_false_iff_ne.mpr c20
          have c20b1 : ((rd t286 x9_2) != (wrap64 (t297 * t298))) = true := bne_iff_ne.mpr c20
          obtain rfl := Option.some.inj H
          obtain ⟨Ao22, co22, eo22⟩ := Kd.R_slice HO_4.out
          subst eo22
          have p296 : 0 ≤ (x9_2 : Int) := of_decide_eq_true (by first | (with_reducible assumption) | assumption)
          have q296 : x9_2 < (t286.length : Int) := of_decide_eq_true (by first | (with_reducible assumption) | assumption)
          obtain ⟨ad296, e296, hx296_0⟩ := Kd.at_int (Kd.R_reads' HO_4.out).2.2 x9_2 p296 q296
          cases e296
          replace p296 := eq_true p296
          replace q296 := eq_true q296
          have hwI_ : ∀ n_ : Int, IntKind.i64.wrap n_ = wrap64 n_ := i64_w
          go_wp2_with (first | (go_at_call 29; (with_reducible refine (pomadelaw09_choose.calls k2 (wrap64 (2 * x9_2)) x9_2 t297 _ A18.out).mono ?_); rintro e w' ⟨rfl, ⟨nd, rfl⟩⟩; (try first | exact ⟨rfl, _, World.drewN_drewN _ _ _⟩ | exact ⟨rfl, _, Eq.trans (World.drewN_drewN _ _ _) (congrArg (World.drewN _) (Nat.add_assoc _ _ _))⟩)) | (go_at_call 29; (with_reducible refine (pomadelaw09_choose.calls k2 (wrap64 ((wrap64 (2 * (wrap64 (Int.tmod a0 31)))) - (wrap64 (2 * x9_2)))) (wrap64 ((wrap64 (Int.tmod a0 31)) - x9_2)) t298 _ A19.out).mono ?_); rintro e w' ⟨rfl, ⟨nd, rfl⟩⟩; (try first | exact ⟨rfl, _, World.drewN_drewN _ _ _⟩ | exact ⟨rfl, _, Eq.trans (World.drewN_drewN _ _ _) (congrArg (World.drewN _) (Nat.add_assoc _ _ _))⟩)))
          repeat (go_quiet (first | (go_at_call 29; (with_reducible refine (pomadelaw09_choose.calls k2 (wrap64 (2 * x9_2)) x9_2 t297 _ A18.out).mono ?_); rintro e w' ⟨rfl, ⟨nd, rfl⟩⟩; (try first | exact ⟨rfl, _, World.drewN_drewN _ _ _⟩ | exact ⟨rfl, _, Eq.trans (World.drewN_drewN _ _ _) (congrArg (World.drewN _) (Nat.add_assoc _ _ _))⟩)) | (go_at_call 29; (with_reducible refine (pomadelaw09_choose.calls k2 (wrap64 ((wrap64 (2 * (wrap64 (Int.tmod a0 31)))) - (wrap64 (2 * x9_2)))) (wrap64 ((wrap64 (Int.tmod a0 31)) - x9_2)) t298 _ A19.out).mono ?_); rintro e w' ⟨rfl, ⟨nd, rfl⟩⟩; (try first | exact ⟨rfl, _, World.drewN_drewN _ _ _⟩ | exact ⟨rfl, _, Eq.trans (World.drewN_drewN _ _ _) (congrArg (World.drewN _) (Nat.add_assoc _ _ _))⟩))); try go_wp2_with (first | (go_at_call 29; (with_reducible refine (pomadelaw09_choose.calls k2 (wrap64 (2 * x9_2)) x9_2 t297 _ A18.out).mono ?_); rintro e w' ⟨rfl, ⟨nd, rfl⟩⟩; (try first | exact ⟨rfl, _, World.drewN_drewN _ _ _⟩ | exact ⟨rfl, _, Eq.trans (World.drewN_drewN _ _ _) (congrArg (World.drewN _) (Nat.add_assoc _ _ _))⟩)) | (go_at_call 29; (with_reducible refine (pomadelaw09_choose.calls k2 (wrap64 ((wrap64 (2 * (wrap64 (Int.tmod a0 31)))) - (wrap64 (2 * x9_2)))) (wrap64 ((wrap64 (Int.tmod a0 31)) - x9_2)) t298 _ A19.out).mono ?_); rintro e w' ⟨rfl, ⟨nd, rfl⟩⟩; (try first | exact ⟨rfl, _, World.drewN_drewN _ _ _⟩ | exact ⟨rfl, _, Eq.trans (World.drewN_drewN _ _ _) (congrArg (World.drewN _) (Nat.add_assoc _ _ _))⟩))))
          (try clear hwI_)
          go_ret
          exact ⟨by first | rfl | (simp [errW_none, errW_some] <;> rfl) | (simp [*, errW_none, errW_some] <;> rfl), by repeat (first | (with_reducible first | exact HB.out | apply below_alloc | apply pw_below_drewN | apply below_drew1) | exact HB.out)⟩
        ·rw [if_neg c17] at H
         exact absurd H (by simp)
       ·rw [if_neg c16] at H
        exact absurd H (by simp)
      ·rw [if_neg c15] at H
       have c15b0 : decide (x9_2 ≤ (wrap64 (Int.tmod a0 31))) = false := decide_eq_false c15
       clear c15
       obtain ⟨ji23, hji23⟩ : ∃ j_ : Int, (wrap64 (2 * (wrap64 (Int.tmod a0 31)))) = j_ := ⟨_, rfl⟩
       replace H : (if 0 ≤ (ji23) then (if x8_2 = (shl .i64 1 (ji23)) then ((pomadelaw09_alive.f k2).bind fun t295 => (some t295)) else (some false)) else (none)) = some r := by first | (rw [hji23] at H; exact H) | (simp only [hji23] at H ⊢; exact H)
       have hji23w : (IntKind.i64.wrap (2 * (wrap64 (Int.tmod a0 31)))) = ji23 := (i64_w _).trans hji23
       by_cases c24 : 0 ≤ (ji23)
       ·rw [if_pos c24] at H
        have c24b0 := eq_true c24
        have c24b1 : decide (0 ≤ (ji23)) = true := decide_eq_true c24
        clear c24
        obtain ⟨ji25, hji25⟩ : ∃ j_ : Int, (shl .i64 1 (ji23)) = j_ := ⟨_, rfl⟩
        replace H : (if x8_2 = (ji25) then ((pomadelaw09_alive.f k2).bind fun t295 => (some t295)) else (some false)) = some r := by first | (rw [hji25] at H; exact H) | (simp only [hji25] at H ⊢; exact H)
        have hji25_ : (IntKind.i64.wrap (1 * 2 ^ min (ji23).toNat 64)) = ji25 := hji25
        have hji25z : (ji23) ≤ 64 → (IntKind.i64.wrap (1 * 2 ^ (ji23).toNat)) = ji25 := shl_small hji25
        have hji25u : (IntKind.i64.wrap (2 ^ min (ji23).toNat 64)) = ji25 := by have h_ := hji25_; rw [Int.one_mul] at h_; exact h_
        have hji25v : (ji23) ≤ 64 → (IntKind.i64.wrap (2 ^ (ji23).toNat)) = ji25 := fun hle_ => by have h_ := hji25z hle_; rw [Int.one_mul] at h_; exact h_
        have hji25y : (wrap64 (1 * 2 ^ min (ji23).toNat 64)) = ji25 := (i64_w _).symm.trans hji25_
        have hji25x : (ji23) ≤ 64 → (wrap64 (1 * 2 ^ (ji23).toNat)) = ji25 := fun h_ => (i64_w _).symm.trans (hji25z h_)
        by_cases c26 : x8_2 = (ji25)
        ·rw [if_pos c26] at H
         have c26b0 : (x8_2 == (ji25)) = true := beq_iff_eq.mpr c26
         have c26b1 : (x8_2 != (ji25)) = false := bne_eq_false_iff_eq.mpr c26
         clear c26
         replace H := Option.bind_eq_some_iff.mp H
         obtain ⟨t295, A270, H⟩ := H
         replace H : (some t295) = some r := H
         have A27 := Aside0.mk A270
         clear A270
         obtain rfl := Option.some.inj H
         have hwI_ : ∀ n_ : Int, IntKind.i64.wrap n_ = wrap64 n_ := i64_w
         go_wp2_with (first | (go_at_call 18; (with_reducible refine (pomadelaw09_alive.calls k2  t295 _ A27.out).mono ?_); rintro e w28 ⟨rfl, hb⟩; have n0_ := Aside0.mk (Kd.R_below (by (with_reducible repeat (first | apply Kd.R_alloc | apply Kd.R_drewN | apply Kd.R_drew)); exact HO_4.out) hb); have n1_ := Aside0.mk (below_step (by repeat (first | (with_reducible first | exact HB.out | apply below_alloc | apply pw_below_drewN | apply below_drew1) | exact HB.out)) hb); clear HO_4; clear HB; have HO_4 := n0_; have HB := n1_; clear n0_ n1_; (try clear hb); (try clear hb2); (try clear hk); (try clear hi)))
         repeat (go_quiet (first | (go_at_call 18; (with_reducible refine (pomadelaw09_alive.calls k2  t295 _ A27.out).mono ?_); rintro e w28 ⟨rfl, hb⟩; have n0_ := Aside0.mk (Kd.R_below (by (with_reducible repeat (first | apply Kd.R_alloc | apply Kd.R_drewN | apply Kd.R_drew)); exact HO_4.out) hb); have n1_ := Aside0.mk (below_step (by repeat (first | (with_reducible first | exact HB.out | apply below_alloc | apply pw_below_drewN | apply below_drew1) | exact HB.out)) hb); clear HO_4; clear HB; have HO_4 := n0_; have HB := n1_; clear n0_ n1_; (try clear hb); (try clear hb2); (try clear hk); (try clear hi))); try go_wp2_with (first | (go_at_call 18; (with_reducible refine (pomadelaw09_alive.calls k2  t295 _ A27.out).mono ?_); rintro e w28 ⟨rfl, hb⟩; have n0_ := Aside0.mk (Kd.R_below (by (with_reducible repeat (first | apply Kd.R_alloc | apply Kd.R_drewN | apply Kd.R_drew)); exact HO_4.out) hb); have n1_ := Aside0.mk (below_step (by repeat (first | (with_reducible first | exact HB.out | apply below_alloc | apply pw_below_drewN | apply below_drew1) | exact HB.out)) hb); clear HO_4; clear HB; have HO_4 := n0_; have HB := n1_; clear n0_ n1_; (try clear hb); (try clear hb2); (try clear hk); (try clear hi))))
         (try clear hwI_)
         go_ret
         exact ⟨by first | rfl | (simp [errW_none, errW_some] <;> rfl) | (simp only [← hji23, ← hji25]; first | rfl | (simp [errW_none, errW_some] <;> rfl)) | (simp [*, errW_none, errW_some] <;> rfl), by repeat (first | (with_reducible first | exact HB.out | apply below_alloc | apply pw_below_drewN | apply below_drew1) | exact HB.out)⟩
        ·rw [if_neg c26] at H
         have c26b0 : (x8_2 == (ji25)) = false := beq_eq_false_iff_ne.mpr c26
         have c26b1 : (x8_2 != (ji25)) = true := bne_iff_ne.mpr c26
         obtain rfl := Option.some.inj H
         go_wp2
         repeat (go_quiet (fail); try go_wp2)
         (try clear hwI_)
         go_ret
         exact ⟨by first | rfl | (simp [errW_none, errW_some] <;> rfl) | (simp only [← hji23, ← hji25]; first | rfl | (simp [errW_none, errW_some] <;> rfl)) | (simp [*, errW_none, errW_some] <;> rfl), by repeat (first | (with_reducible first | exact HB.out | apply below_alloc | apply pw_below_drewN | apply below_drew1) | exact HB.out)⟩
       ·rw [if_neg c24] at H
        exact absurd H (by simp)

/-- THE ONE PURE STATEMENT of pomadelaw09_TillArcs: yours. -/
def pomadelaw09_TillArcs.Pure : Prop := ∀ (a0 : Int), (Lit.int .u8 a0).wf = true → ∃ k, pomadelaw09_TillArcs.f k a0 = some true
theorem pomadelaw09_TillArcs.walk (P : pomadelaw09_TillArcs.Pure) (a0 : Int) (w : World) (w0 : (Lit.int .u8 a0).wf = true) :
  Calls Tryd.prog 10 #[.int .u8 a0] w fun e w' => e = .returned (.bool true) ∧ Below w.heap.size w w' := by
 obtain ⟨k, h⟩ := P a0 w0
 refine (pomadelaw09_TillArcs.calls k a0 true w h).mono ?_
 rintro e w' ⟨rfl, hd⟩
 exact ⟨rfl, hd⟩

-- NOT PRINTED: function 34 (till_Above)

-- NOT PRINTED: function 11 (pomadelaw09_TillCatalan)

-- NOT PRINTED: function 79 (slices_IndexFunc_int_int)

-- NOT PRINTED: function 62 (slices_ContainsFunc_int_int)

-- NOT PRINTED: function 35 (till_Within)

-- NOT PRINTED: function 12 (pomadelaw09_TillWithin)


end Go.Proofs.YtnjimbgfafkogaaDoor.Print
