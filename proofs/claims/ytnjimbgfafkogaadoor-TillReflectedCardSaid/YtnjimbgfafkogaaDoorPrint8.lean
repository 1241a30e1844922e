-- Written by a program of this session (wip/tools/hprint.py over the kit's print.py); Lean checks it.
import Derived.Test.YtnjimbgfafkogaaDoorPrint0
namespace Go.Proofs.YtnjimbgfafkogaaDoor.Print
open Go.RowKit Go.Proofs.YtnjimbgfafkogaaDoor.Hand Go.Proofs.YtnjimbgfafkogaaDoor.Pre Go.Proofs.YtnjimbgfafkogaaDoor.Bal Go.Proofs.YtnjimbgfafkogaaDoor.Base Go.Proofs.YtnjimbgfafkogaaDoorW.PrintWords Go.Proofs.YtnjimbgfafkogaaDoorW.PrintLast Go.Proofs.YtnjimbgfafkogaaDoorW.PrintMore
attribute [local go_sem] max2_int min2_int max_two min_two max_three min_three max_four min_four   -- for this text's walks alone
set_option linter.unusedVariables false
set_option linter.unusedSimpArgs false

/-! ### pomadelaw09_TillReflected: function 8 -/
mutual
def pomadelaw09_TillReflected.j0 : Nat → ByteArray → Int → ByteArray → Bool → Option (Bool)
 | 0, _, _, _, _ => none
 | k + 1, x0, x5, x6, x51 => if x51 = true then (some false) else (pomadelaw09_TillReflected.l0 k x0 x5 x6 0 0 0)
def pomadelaw09_TillReflected.l0 : Nat → ByteArray → Int → ByteArray → Int → Int → Int → Option (Bool)
 | 0, _, _, _, _, _, _ => none
 | k + 1, x0, x5, x6, x10, x11, x12 => if x12 < (x0.size : Int) then (if 0 ≤ x12 then (if (bt x0 x12) = 43 then (if x12 < (x6.size : Int) then (if (bt x6 x12) = 43 then (pomadelaw09_TillReflected.l0 k x0 x5 x6 (wrap64 (x10 + 1)) (wrap64 (x11 + 1)) (wrap64 (x12 + 1))) else (pomadelaw09_TillReflected.l0 k x0 x5 x6 (wrap64 (x10 + 1)) (wrap64 (x11 - 1)) (wrap64 (x12 + 1)))) else (none)) else (if x12 < (x6.size : Int) then (if (bt x6 x12) = 43 then (pomadelaw09_TillReflected.l0 k x0 x5 x6 (wrap64 (x10 - 1)) (wrap64 (x11 + 1)) (wrap64 (x12 + 1))) else (pomadelaw09_TillReflected.l0 k x0 x5 x6 (wrap64 (x10 - 1)) (wrap64 (x11 - 1)) (wrap64 (x12 + 1)))) else (none))) else (none)) else (if x11 = (wrap64 ((wrap64 (2 * x5)) - x10)) then ((pomadelaw09_alive.f k).bind fun t205 => (some t205)) else (some false))
end
def pomadelaw09_TillReflected.f (k : Nat) (a0 : ByteArray) (a1 : Int) : Option (Bool) := if (a0.size : Int) > 100 then ((pomadelaw09_alive.f k).bind fun t199 => (some t199)) else ((till_Mirror.f k a0 (wrap64 (a1))).bind fun bt200 => (if bt200.2 = 0 then ((till_Mirror.f k bt200.1 (wrap64 (a1))).bind fun bt203 => (if bt203.2 = 0 then (if bt203.1.toList = a0.toList then (pomadelaw09_TillReflected.j0 k a0 (wrap64 (a1)) bt200.1 ((bt200.1.size : Int) != (a0.size : Int))) else (pomadelaw09_TillReflected.j0 k a0 (wrap64 (a1)) bt200.1 true)) else (pomadelaw09_TillReflected.j0 k a0 (wrap64 (a1)) bt200.1 true))) else (if bt200.1.toList = ([] : List UInt8) then ((pomadelaw09_alive.f k).bind fun t202 => (some t202)) else (some false))))
theorem pomadelaw09_TillReflected.mono_l : ∀ k, (∀ y0 y1 y2 y3, LeO (pomadelaw09_TillReflected.j0 k y0 y1 y2 y3) (pomadelaw09_TillReflected.j0 (k + 1) y0 y1 y2 y3)) ∧ (∀ y0 y1 y2 y3 y4 y5, LeO (pomadelaw09_TillReflected.l0 k y0 y1 y2 y3 y4 y5) (pomadelaw09_TillReflected.l0 (k + 1) y0 y1 y2 y3 y4 y5))
 | 0 => ⟨fun _ _ _ _ r h => by simp [pomadelaw09_TillReflected.j0] at h, fun _ _ _ _ _ _ r h => by simp [pomadelaw09_TillReflected.l0] at h⟩
 | k + 1 => by
  obtain ⟨ih0, ih1⟩ := pomadelaw09_TillReflected.mono_l k
  refine ⟨?_, ?_⟩
  ·intro y0 y1 y2 y3
   unfold pomadelaw09_TillReflected.j0
   repeat' first
   | (with_reducible exact ih0 _ _ _ _)
   | (with_reducible exact ih1 _ _ _ _ _ _)
   | (with_reducible exact pomadelaw09_alive.mono _)
   | (with_reducible exact till_Mirror.mono _ _ _)
   | (with_reducible exact LeO.refl _)
   | (with_reducible exact LeO.none _)
   | (with_reducible refine LeO.ite ?_ ?_)
   | (with_reducible refine LeO.bind ?_ (fun _ => ?_))
   | exact ih0 _ _ _ _
   | exact ih1 _ _ _ _ _ _
   | exact pomadelaw09_alive.mono _
   | exact till_Mirror.mono _ _ _
   | exact LeO.none _
   | refine LeO.ite ?_ ?_
   | refine LeO.bind ?_ (fun _ => ?_)
  ·intro y0 y1 y2 y3 y4 y5
   unfold pomadelaw09_TillReflected.l0
   repeat' first
   | (with_reducible exact ih0 _ _ _ _)
   | (with_reducible exact ih1 _ _ _ _ _ _)
   | (with_reducible exact pomadelaw09_alive.mono _)
   | (with_reducible exact till_Mirror.mono _ _ _)
   | (with_reducible exact LeO.refl _)
   | (with_reducible exact LeO.none _)
   | (with_reducible refine LeO.ite ?_ ?_)
   | (with_reducible refine LeO.bind ?_ (fun _ => ?_))
   | exact ih0 _ _ _ _
   | exact ih1 _ _ _ _ _ _
   | exact pomadelaw09_alive.mono _
   | exact till_Mirror.mono _ _ _
   | exact LeO.none _
   | refine LeO.ite ?_ ?_
   | refine LeO.bind ?_ (fun _ => ?_)
theorem pomadelaw09_TillReflected.mono : ∀ a0 a1 k, LeO (pomadelaw09_TillReflected.f k a0 a1) (pomadelaw09_TillReflected.f (k + 1) a0 a1) := by
 intro a0 a1 k
 obtain ⟨ih0, ih1⟩ := pomadelaw09_TillReflected.mono_l k
 unfold pomadelaw09_TillReflected.f
 repeat' first
   | (with_reducible exact ih0 _ _ _ _)
   | (with_reducible exact ih1 _ _ _ _ _ _)
   | (with_reducible exact pomadelaw09_alive.mono _)
   | (with_reducible exact till_Mirror.mono _ _ _)
   | (with_reducible exact LeO.refl _)
   | (with_reducible exact LeO.none _)
   | (with_reducible refine LeO.ite ?_ ?_)
   | (with_reducible refine LeO.bind ?_ (fun _ => ?_))
   | exact ih0 _ _ _ _
   | exact ih1 _ _ _ _ _ _
   | exact pomadelaw09_alive.mono _
   | exact till_Mirror.mono _ _ _
   | exact LeO.none _
   | refine LeO.ite ?_ ?_
   | refine LeO.bind ?_ (fun _ => ?_)
set_option maxHeartbeats 8000000 in
set_option maxRecDepth 100000 in
theorem pomadelaw09_TillReflected.calls (k : Nat) (a0 : ByteArray) (a1 : Int) (r : Bool) (w : World) (h : pomadelaw09_TillReflected.f k a0 a1 = some r) :
  Calls Tryd.prog 8 #[.string a0, .int .i8 a1] w fun e w' => e = .returned (.bool r) ∧ Below w.heap.size w w' := by
 have HB := Aside0.mk (Below.refl w.heap.size w)
 have H : (if (a0.size : Int) > 100 then ((pomadelaw09_alive.f k).bind fun t199 => (some t199)) else ((till_Mirror.f k a0 (wrap64 (a1))).bind fun bt200 => (if bt200.2 = 0 then ((till_Mirror.f k bt200.1 (wrap64 (a1))).bind fun bt203 => (if bt203.2 = 0 then (if bt203.1.toList = a0.toList then (pomadelaw09_TillReflected.j0 k a0 (wrap64 (a1)) bt200.1 ((bt200.1.size : Int) != (a0.size : Int))) else (pomadelaw09_TillReflected.j0 k a0 (wrap64 (a1)) bt200.1 true)) else (pomadelaw09_TillReflected.j0 k a0 (wrap64 (a1)) bt200.1 true))) else (if bt200.1.toList = ([] : List UInt8) then ((pomadelaw09_alive.f k).bind fun t202 => (some t202)) else (some false))))) = some r := h
 clear h
 by_cases c3 : (a0.size : Int) > 100
 ·rw [if_pos c3] at H
  have c3b0 : decide (100 < (a0.size : Int)) = true := decide_eq_true c3
  have c3b1 : decide (100 < a0.size) = true := decide_eq_true (by omega)
  clear c3
  replace H := Option.bind_eq_some_iff.mp H
  obtain ⟨t199, A40, H⟩ := H
  replace H : (some t199) = some r := H
  have A4 := Aside0.mk A40
  clear A40
  obtain rfl := Option.some.inj H
  go_enter Tryd.func8, Tryd.ntmps8
  go_wp2_with (first | ((with_reducible refine gate_callee (f := 18) rfl ?_); refine goesL_ (some 16) rfl rfl Tryd.func18 (by kernel_rfl) rfl #[] rfl (by (try simp only [List.map_toArray, List.map_cons, List.map_nil]); first | done | rfl | (simp only [List.length_drop, List.length_take]; rfl)) ?_; (with_reducible refine (pomadelaw09_alive.calls k  t199 _ A4.out).mono ?_); rintro e w5 ⟨rfl, hb⟩; refine ⟨_, rfl, ?_⟩; have n0_ := Aside0.mk (below_step (by repeat (first | (with_reducible first | exact HB.out | apply below_alloc | apply pw_below_drewN | apply below_drew1) | exact HB.out)) hb); clear HB; have HB := n0_; clear n0_; (try clear hb); (try clear hb2); (try clear hk); (try clear hi)))
  go_ret
  exact ⟨by first | rfl | (simp [errW_none, errW_some] <;> rfl) | (simp [*, errW_none, errW_some] <;> rfl), by repeat (first | (with_reducible first | exact HB.out | apply below_alloc | apply pw_below_drewN | apply below_drew1) | exact HB.out)⟩
 ·rw [if_neg c3] at H
  have c3b0 : decide (100 < (a0.size : Int)) = false := decide_eq_false c3
  have c3b1 : decide (100 < a0.size) = false := decide_eq_false (by omega)
  clear c3
  replace H := Option.bind_eq_some_iff.mp H
  obtain ⟨⟨t200, t201⟩, A60, H⟩ := H
  replace H : (if t201 = 0 then ((till_Mirror.f k t200 (wrap64 (a1))).bind fun bt203 => (if bt203.2 = 0 then (if bt203.1.toList = a0.toList then (pomadelaw09_TillReflected.j0 k a0 (wrap64 (a1)) t200 ((t200.size : Int) != (a0.size : Int))) else (pomadelaw09_TillReflected.j0 k a0 (wrap64 (a1)) t200 true)) else (pomadelaw09_TillReflected.j0 k a0 (wrap64 (a1)) t200 true))) else (if t200.toList = ([] : List UInt8) then ((pomadelaw09_alive.f k).bind fun t202 => (some t202)) else (some false))) = some r := H
  have A6 := Aside0.mk A60
  clear A60
  by_cases c7 : t201 = 0
  ·rw [if_pos c7] at H
   have c7b0 : (t201 == 0) = true := beq_iff_eq.mpr c7
   have c7b1 : (t201 != 0) = false := bne_eq_false_iff_eq.mpr c7
   clear c7
   replace H := Option.bind_eq_some_iff.mp H
   obtain ⟨⟨t203, t204⟩, A80, H⟩ := H
   replace H : (if t204 = 0 then (if t203.toList = a0.toList then (pomadelaw09_TillReflected.j0 k a0 (wrap64 (a1)) t200 ((t200.size : Int) != (a0.size : Int))) else (pomadelaw09_TillReflected.j0 k a0 (wrap64 (a1)) t200 true)) else (pomadelaw09_TillReflected.j0 k a0 (wrap64 (a1)) t200 true)) = some r := H
   have A8 := Aside0.mk A80
   clear A80
   have HC9 := Aside0.mk H
   clear H
   go_enter Tryd.func8, Tryd.ntmps8
   go_upto_region 8 with (first | ((with_reducible refine gate_callee (f := 26) rfl ?_); refine goesL_ (some 22) rfl rfl Tryd.func26 (by kernel_rfl) rfl #[.string a0, .int .i64 (wrap64 (a1))] rfl (by (try simp only [List.map_toArray, List.map_cons, List.map_nil]); first | done | rfl | (simp only [List.length_drop, List.length_take]; rfl)) ?_; (with_reducible refine (till_Mirror.calls k a0 (wrap64 (a1)) t200 t201 _ A6.out).mono ?_); rintro e w10 ⟨rfl, hb⟩; refine ⟨_, rfl, ?_⟩; have n0_ := Aside0.mk (below_step (by repeat (first | (with_reducible first | exact HB.out | apply below_alloc | apply pw_below_drewN | apply below_drew1) | exact HB.out)) hb); clear HB; have HB := n0_; clear n0_; (try clear hb); (try clear hb2); (try clear hk); (try clear hi)) | ((with_reducible refine gate_callee (f := 26) rfl ?_); refine goesL_ (some 35) rfl rfl Tryd.func26 (by kernel_rfl) rfl #[.string t200, .int .i64 (wrap64 (a1))] rfl (by (try simp only [List.map_toArray, List.map_cons, List.map_nil]); first | done | rfl | (simp only [List.length_drop, List.length_take]; rfl)) ?_; (with_reducible refine (till_Mirror.calls k t200 (wrap64 (a1)) t203 t204 _ A8.out).mono ?_); rintro e w11 ⟨rfl, hb⟩; refine ⟨_, rfl, ?_⟩; have n0_ := Aside0.mk (below_step (by repeat (first | (with_reducible first | exact HB.out | apply below_alloc | apply pw_below_drewN | apply below_drew1) | exact HB.out)) hb); clear HB; have HB := n0_; clear n0_; (try clear hb); (try clear hb2); (try clear hk); (try clear hi)))
   (try simp only [Act.put, List.setIfInBounds_toArray, List.set_cons_zero, List.set_cons_succ])
   go_cut [51] (fun v51 wc => ∃ (kq : Nat) (x51_8 : Bool), v51 = .bool x51_8 ∧ Aside0 (pomadelaw09_TillReflected.j0 kq a0 (wrap64 (a1)) t200 x51_8 = some r) ∧ Aside0 (kq ≤ k) ∧ Aside0 (Below w.heap.size w wc))
   case first =>
    have H := HC9.out
    clear HC9
    by_cases c12 : t204 = 0
    ·rw [if_pos c12] at H
     have c12b0 : (t204 == 0) = true := beq_iff_eq.mpr c12
     have c12b1 : (t204 != 0) = false := bne_eq_false_iff_eq.mpr c12
     clear c12
     (first | rw [c12b0] | (simp only [i64_w, i32_w]; rw [c12b0]) | skip)
     by_cases c13 : t203.toList = a0.toList
     ·rw [if_pos c13] at H
      have c13b0 : (t203.toList == a0.toList) = true := beq_iff_eq.mpr c13
      have c13b1 : (t203.toList != a0.toList) = false := bne_eq_false_iff_eq.mpr c13
      clear c13
      have H' := Aside0.mk H
      clear H
      go_wp2
      go_meet
      case rel => exact ⟨_, (((t200.size : Int) != (a0.size : Int))), (by first | rfl | (simp; done) | (simp [*]; done)), H', ⟨by first | omega | exact Nat.le_refl _⟩, ⟨by repeat (first | (with_reducible first | exact HB.out | apply below_alloc | apply pw_below_drewN | apply below_drew1) | exact HB.out)⟩⟩
     ·rw [if_neg c13] at H
      have c13b0 : (t203.toList == a0.toList) = false := beq_eq_false_iff_ne.mpr c13
      have c13b1 : (t203.toList != a0.toList) = true := bne_iff_ne.mpr c13
      have H' := Aside0.mk H
      clear H
      go_wp2
      go_meet
      case rel => exact ⟨_, (true), (by first | rfl | (simp; done) | (simp [*]; done)), H', ⟨by first | omega | exact Nat.le_refl _⟩, ⟨by repeat (first | (with_reducible first | exact HB.out | apply below_alloc | apply pw_below_drewN | apply below_drew1) | exact HB.out)⟩⟩
    ·rw [if_neg c12] at H
     have c12b0 : (t204 == 0) = false := beq_eq_false_iff_ne.mpr c12
     have c12b1 : (t204 != 0) = true := bne_iff_ne.mpr c12
     (first | rw [c12b0] | (simp only [i64_w, i32_w]; rw [c12b0]) | skip)
     have H' := Aside0.mk H
     clear H
     go_wp2
     go_meet
     case rel => exact ⟨_, (true), (by first | rfl | (simp; done) | (simp [*]; done)), H', ⟨by first | omega | exact Nat.le_refl _⟩, ⟨by repeat (first | (with_reducible first | exact HB.out | apply below_alloc | apply pw_below_drewN | apply below_drew1) | exact HB.out)⟩⟩
   case rest =>
    clear HC9
    try clear c1
    try clear c2
    try clear p2
    try clear c3
    try clear c3b0
    try clear c3b1
    try clear p6
    try clear c7
    try clear c7b0
    try clear c7b1
    try clear c8
    try clear c12
    try clear c12b0
    try clear c12b1
    try clear c13
    try clear c13b0
    try clear c13b1
    obtain ⟨kq, x51_8, rfl, HA, HJ8, HB⟩ := hcut
    cases kq with
    | zero => exact absurd HA.out (by simp [pomadelaw09_TillReflected.j0])
    | succ kj8 =>
     have H := HA.out
     clear HA
     simp only [pomadelaw09_TillReflected.j0] at H
     by_cases c14 : x51_8 = true
     ·subst c14
      have H1 : (some false) = some r := by rw [if_pos rfl] at H; exact H
      clear H
      have H := H1
      clear H1
      obtain rfl := Option.some.inj H
      go_wp2
      go_ret
      exact ⟨by first | rfl | (simp [errW_none, errW_some] <;> rfl) | (simp [*, errW_none, errW_some] <;> rfl), by repeat (first | (with_reducible first | exact HB.out | apply below_alloc | apply pw_below_drewN | apply below_drew1) | exact HB.out)⟩
     ·replace c14 := Bool.eq_false_iff.mpr c14
      subst c14
      have H1 : (pomadelaw09_TillReflected.l0 kj8 a0 (wrap64 (a1)) t200 0 0 0) = some r := by rw [if_neg (show ¬ (false = true) by decide)] at H; exact H
      clear H
      have H := H1
      clear H1
      have H' := Aside0.mk H
      clear H
      go_wp2
      go_loopg [10, 11, 12] kj8 (fun kq v10 v11 v12 w' => ∃ (x10_2 : Int) (x11_2 : Int) (x12_2 : Int), v10 = .int .i64 x10_2 ∧ v11 = .int .i64 x11_2 ∧ v12 = .int .i64 x12_2 ∧ Aside0 (pomadelaw09_TillReflected.l0 kq a0 (wrap64 (a1)) t200 x10_2 x11_2 x12_2 = some r) ∧ Aside0 (kq ≤ kj8) ∧ Aside0 (Below w.heap.size w w'))
      case atStart => exact ⟨(0), (0), (0), (by first | rfl | (simp; done) | (simp [*]; done)), (by first | rfl | (simp; done) | (simp [*]; done)), (by first | rfl | (simp; done) | (simp [*]; done)), H', ⟨Nat.le_refl _⟩, ⟨by repeat (first | (with_reducible first | exact HB.out | apply below_alloc | apply pw_below_drewN | apply below_drew1) | exact HB.out)⟩⟩
      case round =>
       clear H'
       try clear c1
       try clear c2
       try clear p2
       try clear c3
       try clear c3b0
       try clear c3b1
       try clear p6
       try clear c7
       try clear c7b0
       try clear c7b1
       try clear c8
       try clear c12
       try clear c12b0
       try clear c12b1
       try clear c13
       try clear c13b0
       try clear c13b1
       try clear c14
       try clear p2
       try clear p6
       obtain ⟨x10_2, x11_2, x12_2, rfl, rfl, rfl, HA, HK2, HB⟩ := hrel
       cases gk with
       | zero => exact absurd HA.out (by simp [pomadelaw09_TillReflected.l0])
       | succ k2 =>
        have H := HA.out
        clear HA
        simp only [pomadelaw09_TillReflected.l0] at H
        by_cases c15 : x12_2 < (a0.size : Int)
        ·rw [if_pos c15] at H
         have c15b0 : decide (x12_2 < (a0.size : Int)) = true := decide_eq_true c15
         clear c15
         by_cases c16 : 0 ≤ x12_2
         ·rw [if_pos c16] at H
          have c16b0 : decide (0 ≤ x12_2) = true := decide_eq_true c16
          clear c16
          by_cases c18 : (bt a0 x12_2) = 43
          ·rw [if_pos c18] at H
           have c18b0 : ((bt a0 x12_2) == 43) = true := beq_iff_eq.mpr c18
           have c18b1 : ((bt a0 x12_2) != 43) = false := bne_eq_false_iff_eq.mpr c18
           clear c18
           by_cases c19 : x12_2 < (t200.size : Int)
           ·rw [if_pos c19] at H
            have c19b0 : decide (x12_2 < (t200.size : Int)) = true := decide_eq_true c19
            clear c19
            by_cases c21 : (bt t200 x12_2) = 43
            ·rw [if_pos c21] at H
             have c21b0 : ((bt t200 x12_2) == 43) = true := beq_iff_eq.mpr c21
             have c21b1 : ((bt t200 x12_2) != 43) = false := bne_eq_false_iff_eq.mpr c21
             clear c21
             have H' := Aside0.mk H
             clear H
             have p17 : 0 ≤ (x12_2 : Int) := of_decide_eq_true (by first | (with_reducible assumption) | assumption)
             have q17 : x12_2 < (a0.size : Int) := of_decide_eq_true (by first | (with_reducible assumption) | assumption)
             have hx17 := bt_at a0 x12_2
             replace p17 := eq_true p17
             replace q17 := eq_true q17
             have p20 : 0 ≤ (x12_2 : Int) := of_decide_eq_true (by first | (with_reducible assumption) | assumption)
             have q20 : x12_2 < (t200.size : Int) := of_decide_eq_true (by first | (with_reducible assumption) | assumption)
             have hx20 := bt_at t200 x12_2
             replace p20 := eq_true p20
             replace q20 := eq_true q20
             go_wp2
             go_roundg k2
             case measure => have := HJ8.out; have := HK2.out; omega
             case rel => exact ⟨(wrap64 (x10_2 + 1)), (wrap64 (x11_2 + 1)), (wrap64 (x12_2 + 1)), (by first | rfl | (simp; done) | (simp [*]; done)), (by first | rfl | (simp; done) | (simp [*]; done)), (by first | rfl | (simp; done) | (simp [*]; done)), H', ⟨by have := HJ8.out; have := HK2.out; omega⟩, ⟨by repeat (first | (with_reducible first | exact HB.out | apply below_alloc | apply pw_below_drewN | apply below_drew1) | exact HB.out)⟩⟩
            ·rw [if_neg c21] at H
             have c21b0 : ((bt t200 x12_2) == 43) = false := beq_eq_false_iff_ne.mpr c21
             have c21b1 : ((bt t200 x12_2) != 43) = true := bne_iff_ne.mpr c21
             have H' := Aside0.mk H
             clear H
             have p17 : 0 ≤ (x12_2 : Int) := of_decide_eq_true (by first | (with_reducible assumption) | assumption)
             have q17 : x12_2 < (a0.size : Int) := of_decide_eq_true (by first | (with_reducible assumption) | assumption)
             have hx17 := bt_at a0 x12_2
             replace p17 := eq_true p17
             replace q17 := eq_true q17
             have p20 : 0 ≤ (x12_2 : Int) := of_decide_eq_true (by first | (with_reducible assumption) | assumption)
             have q20 : x12_2 < (t200.size : Int) := of_decide_eq_true (by first | (with_reducible assumption) | assumption)
             have hx20 := bt_at t200 x12_2
             replace p20 := eq_true p20
             replace q20 := eq_true q20
             go_wp2
             go_roundg k2
             case measure => have := HJ8.out; have := HK2.out; omega
             case rel => exact ⟨(wrap64 (x10_2 + 1)), (wrap64 (x11_2 - 1)), (wrap64 (x12_2 + 1)), (by first | rfl | (simp; done) | (simp [*]; done)), (by first | rfl | (simp; done) | (simp [*]; done)), (by first | rfl | (simp; done) | (simp [*]; done)), H', ⟨by have := HJ8.out; have := HK2.out; omega⟩, ⟨by repeat (first | (with_reducible first | exact HB.out | apply below_alloc | apply pw_below_drewN | apply below_drew1) | exact HB.out)⟩⟩
           ·rw [if_neg c19] at H
            exact absurd H (by simp)
          ·rw [if_neg c18] at H
           have c18b0 : ((bt a0 x12_2) == 43) = false := beq_eq_false_iff_ne.mpr c18
           have c18b1 : ((bt a0 x12_2) != 43) = true := bne_iff_ne.mpr c18
           by_cases c22 : x12_2 < (t200.size : Int)
           ·rw [if_pos c22] at H
            have c22b0 : decide (x12_2 < (t200.size : Int)) = true := decide_eq_true c22
            clear c22
            by_cases c24 : (bt t200 x12_2) = 43
            ·rw [if_pos c24] at H
             have c24b0 : ((bt t200 x12_2) == 43) = true := beq_iff_eq.mpr c24
             have c24b1 : ((bt t200 x12_2) != 43) = false := bne_eq_false_iff_eq.mpr c24
             clear c24
             have H' := Aside0.mk H
             clear H
             have p17 : 0 ≤ (x12_2 : Int) := of_decide_eq_true (by first | (with_reducible assumption) | assumption)
             have q17 : x12_2 < (a0.size : Int) := of_decide_eq_true (by first | (with_reducible assumption) | assumption)
             have hx17 := bt_at a0 x12_2
             replace p17 := eq_true p17
             replace q17 := eq_true q17
             have p23 : 0 ≤ (x12_2 : Int) := of_decide_eq_true (by first | (with_reducible assumption) | assumption)
             have q23 : x12_2 < (t200.size : Int) := of_decide_eq_true (by first | (with_reducible assumption) | assumption)
             have hx23 := bt_at t200 x12_2
             replace p23 := eq_true p23
             replace q23 := eq_true q23
             go_wp2
             go_roundg k2
             case measure => have := HJ8.out; have := HK2.out; omega
             case rel => exact ⟨(wrap64 (x10_2 - 1)), (wrap64 (x11_2 + 1)), (wrap64 (x12_2 + 1)), (by first | rfl | (simp; done) | (simp [*]; done)), (by first | rfl | (simp; done) | (simp [*]; done)), (by first | rfl | (simp; done) | (simp [*]; done)), H', ⟨by have := HJ8.out; have := HK2.out; omega⟩, ⟨by repeat (first | (with_reducible first | exact HB.out | apply below_alloc | apply pw_below_drewN | apply below_drew1) | exact HB.out)⟩⟩
            ·rw [if_neg c24] at H
             have c24b0 : ((bt t200 x12_2) == 43) = false := beq_eq_false_iff_ne.mpr c24
             have c24b1 : ((bt t200 x12_2) != 43) = true := bne_iff_ne.mpr c24
             have H' := Aside0.mk H
             clear H
             have p17 : 0 ≤ (x12_2 : Int) := of_decide_eq_true (by first | (with_reducible assumption) | assumption)
             have q17 : x12_2 < (a0.size : Int) := of_decide_eq_true (by first | (with_reducible assumption) | assumption)
             have hx17 := bt_at a0 x12_2
             replace p17 := eq_true p17
             replace q17 := eq_true q17
             have p23 : 0 ≤ (x12_2 : Int) := of_decide_eq_true (by first | (with_reducible assumption) | assumption)
             have q23 : x12_2 < (t200.size : Int) := of_decide_eq_true (by first | (with_reducible assumption) | assumption)
             have hx23 := bt_at t200 x12_2
             replace p23 := eq_true p23
             replace q23 := eq_true q23
             go_wp2
             go_roundg k2
             case measure => have := HJ8.out; have := HK2.out; omega
             case rel => exact ⟨(wrap64 (x10_2 - 1)), (wrap64 (x11_2 - 1)), (wrap64 (x12_2 + 1)), (by first | rfl | (simp; done) | (simp [*]; done)), (by first | rfl | (simp; done) | (simp [*]; done)), (by first | rfl | (simp; done) | (simp [*]; done)), H', ⟨by have := HJ8.out; have := HK2.out; omega⟩, ⟨by repeat (first | (with_reducible first | exact HB.out | apply below_alloc | apply pw_below_drewN | apply below_drew1) | exact HB.out)⟩⟩
           ·rw [if_neg c22] at H
            exact absurd H (by simp)
         ·rw [if_neg c16] at H
          exact absurd H (by simp)
        ·rw [if_neg c15] at H
         have c15b0 : decide (x12_2 < (a0.size : Int)) = false := decide_eq_false c15
         clear c15
         by_cases c25 : x11_2 = (wrap64 ((wrap64 (2 * (wrap64 (a1)))) - x10_2))
         ·rw [if_pos c25] at H
          have c25b0 : (x11_2 == (wrap64 ((wrap64 (2 * (wrap64 (a1)))) - x10_2))) = true := beq_iff_eq.mpr c25
          have c25b1 : (x11_2 != (wrap64 ((wrap64 (2 * (wrap64 (a1)))) - x10_2))) = false := bne_eq_false_iff_eq.mpr c25
          clear c25
          replace H := Option.bind_eq_some_iff.mp H
          obtain ⟨t205, A260, H⟩ := H
          replace H : (some t205) = some r := H
          have A26 := Aside0.mk A260
          clear A260
          obtain rfl := Option.some.inj H
          go_wp2_with (first | (go_at_call 18; (with_reducible refine (pomadelaw09_alive.calls k2  t205 _ A26.out).mono ?_); rintro e w27 ⟨rfl, hb⟩; have n0_ := Aside0.mk (below_step (by repeat (first | (with_reducible first | exact HB.out | apply below_alloc | apply pw_below_drewN | apply below_drew1) | exact HB.out)) hb); clear HB; have HB := n0_; clear n0_; (try clear hb); (try clear hb2); (try clear hk); (try clear hi)))
          go_ret
          exact ⟨by first | rfl | (simp [errW_none, errW_some] <;> rfl) | (simp [*, errW_none, errW_some] <;> rfl), by repeat (first | (with_reducible first | exact HB.out | apply below_alloc | apply pw_below_drewN | apply below_drew1) | exact HB.out)⟩
         ·rw [if_neg c25] at H
          have c25b0 : (x11_2 == (wrap64 ((wrap64 (2 * (wrap64 (a1)))) - x10_2))) = false := beq_eq_false_iff_ne.mpr c25
          have c25b1 : (x11_2 != (wrap64 ((wrap64 (2 * (wrap64 (a1)))) - x10_2))) = true := bne_iff_ne.mpr c25
          obtain rfl := Option.some.inj H
          go_wp2
          go_ret
          exact ⟨by first | rfl | (simp [errW_none, errW_some] <;> rfl) | (simp [*, errW_none, errW_some] <;> rfl), by repeat (first | (with_reducible first | exact HB.out | apply below_alloc | apply pw_below_drewN | apply below_drew1) | exact HB.out)⟩
  ·rw [if_neg c7] at H
   have c7b0 : (t201 == 0) = false := beq_eq_false_iff_ne.mpr c7
   have c7b1 : (t201 != 0) = true := bne_iff_ne.mpr c7
   by_cases c28 : t200.toList = ([] : List UInt8)
   ·rw [if_pos c28] at H
    have c28b0 : (t200.toList == ([] : List UInt8)) = true := beq_iff_eq.mpr c28
    have c28b1 : (t200.toList != ([] : List UInt8)) = false := bne_eq_false_iff_eq.mpr c28
    clear c28
    replace H := Option.bind_eq_some_iff.mp H
    obtain ⟨t202, A290, H⟩ := H
    replace H : (some t202) = some r := H
    have A29 := Aside0.mk A290
    clear A290
    obtain rfl := Option.some.inj H
    go_enter Tryd.func8, Tryd.ntmps8
    go_wp2_with (first | ((with_reducible refine gate_callee (f := 26) rfl ?_); refine goesL_ (some 22) rfl rfl Tryd.func26 (by kernel_rfl) rfl #[.string a0, .int .i64 (wrap64 (a1))] rfl (by (try simp only [List.map_toArray, List.map_cons, List.map_nil]); first | done | rfl | (simp only [List.length_drop, List.length_take]; rfl)) ?_; (with_reducible refine (till_Mirror.calls k a0 (wrap64 (a1)) t200 t201 _ A6.out).mono ?_); rintro e w30 ⟨rfl, hb⟩; refine ⟨_, rfl, ?_⟩; have n0_ := Aside0.mk (below_step (by repeat (first | (with_reducible first | exact HB.out | apply below_alloc | apply pw_below_drewN | apply below_drew1) | exact HB.out)) hb); clear HB; have HB := n0_; clear n0_; (try clear hb); (try clear hb2); (try clear hk); (try clear hi)) | (go_at_call 18; (with_reducible refine (pomadelaw09_alive.calls k  t202 _ A29.out).mono ?_); rintro e w31 ⟨rfl, hb⟩; have n0_ := Aside0.mk (below_step (by repeat (first | (with_reducible first | exact HB.out | apply below_alloc | apply pw_below_drewN | apply below_drew1) | exact HB.out)) hb); clear HB; have HB := n0_; clear n0_; (try clear hb); (try clear hb2); (try clear hk); (try clear hi)))
    go_ret
    exact ⟨by first | rfl | (simp [errW_none, errW_some] <;> rfl) | (simp [*, errW_none, errW_some] <;> rfl), by repeat (first | (with_reducible first | exact HB.out | apply below_alloc | apply pw_below_drewN | apply below_drew1) | exact HB.out)⟩
   ·rw [if_neg c28] at H
    have c28b0 : (t200.toList == ([] : List UInt8)) = false := beq_eq_false_iff_ne.mpr c28
    have c28b1 : (t200.toList != ([] : List UInt8)) = true := bne_iff_ne.mpr c28
    obtain rfl := Option.some.inj H
    go_enter Tryd.func8, Tryd.ntmps8
    go_wp2_with (first | ((with_reducible refine gate_callee (f := 26) rfl ?_); refine goesL_ (some 22) rfl rfl Tryd.func26 (by kernel_rfl) rfl #[.string a0, .int .i64 (wrap64 (a1))] rfl (by (try simp only [List.map_toArray, List.map_cons, List.map_nil]); first | done | rfl | (simp only [List.length_drop, List.length_take]; rfl)) ?_; (with_reducible refine (till_Mirror.calls k a0 (wrap64 (a1)) t200 t201 _ A6.out).mono ?_); rintro e w32 ⟨rfl, hb⟩; refine ⟨_, rfl, ?_⟩; have n0_ := Aside0.mk (below_step (by repeat (first | (with_reducible first | exact HB.out | apply below_alloc | apply pw_below_drewN | apply below_drew1) | exact HB.out)) hb); clear HB; have HB := n0_; clear n0_; (try clear hb); (try clear hb2); (try clear hk); (try clear hi)))
    go_ret
    exact ⟨by first | rfl | (simp [errW_none, errW_some] <;> rfl) | (simp [*, errW_none, errW_some] <;> rfl), by repeat (first | (with_reducible first | exact HB.out | apply below_alloc | apply pw_below_drewN | apply below_drew1) | exact HB.out)⟩

/-- THE ONE PURE STATEMENT of pomadelaw09_TillReflected: yours. -/
def pomadelaw09_TillReflected.Pure : Prop := ∀ (a0 : ByteArray) (a1 : Int), a0.size ≤ 140737488351232 → (Lit.int .i8 a1).wf = true → ∃ k, pomadelaw09_TillReflected.f k a0 a1 = some true
theorem pomadelaw09_TillReflected.walk (P : pomadelaw09_TillReflected.Pure) (a0 : ByteArray) (a1 : Int) (w : World) (w0 : a0.size ≤ 140737488351232) (w1 : (Lit.int .i8 a1).wf = true) :
  Calls Tryd.prog 8 #[.string a0, .int .i8 a1] w fun e w' => e = .returned (.bool true) ∧ Below w.heap.size w w' := by
 obtain ⟨k, h⟩ := P a0 a1 w0 w1
 refine (pomadelaw09_TillReflected.calls k a0 a1 true w h).mono ?_
 rintro e w' ⟨rfl, hd⟩
 exact ⟨rfl, hd⟩


end Go.Proofs.YtnjimbgfafkogaaDoor.Print
