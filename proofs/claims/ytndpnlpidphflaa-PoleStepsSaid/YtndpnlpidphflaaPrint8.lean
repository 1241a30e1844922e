-- Written by a program of this session (wip/tools/hprint.py over the kit's print.py); Lean checks it.
import Derived.Test.YtndpnlpidphflaaPrint0
import Derived.Test.YtndpnlpidphflaaPrint2
import Derived.Test.YtndpnlpidphflaaPrint3
namespace Go.Proofs.Ytndpnlpidphflaa.Print
open Go.RowKit Go.Proofs.Ytndpnlpidphflaa.Hand Go.Proofs.YtndpnlpidphflaaW.PrintWords Go.Proofs.YtndpnlpidphflaaW.PrintLast Go.Proofs.YtndpnlpidphflaaW.PrintMore
attribute [local go_sem] max2_int min2_int max_two min_two max_three min_three max_four min_four   -- for this text's walks alone
set_option linter.unusedVariables false
set_option linter.unusedSimpArgs false

/-! ### pomadelaw06_PoleBegins: function 12 -/
mutual
def pomadelaw06_PoleBegins.j0 : Nat → Int → Int → Int → Bool → Option (Bool)
  | 0, _, _, _, _ => none
  | k + 1, x2, x3, x9, x42 => if x42 = true then (some false) else ((pomadelaw06_step.f x2).bind fun t235 => (if (wrap64 (x9 + 1)) = 0 then (none) else ((pomaderef06_Played.f x9 t235 (Int.tmod (wrap64 (x3)) (wrap64 (x9 + 1)))).bind fun t236 => ((pole_Begins.f x9 t236).bind fun bt239 => (if bt239.2 = 0 then (if bt239.1 < 1 then (pomadelaw06_PoleBegins.j1 k x9 t236 bt239.1 true) else (pomadelaw06_PoleBegins.j1 k x9 t236 bt239.1 (decide (bt239.1 > t235)))) else (pomadelaw06_PoleBegins.j1 k x9 t236 bt239.1 true))))))
def pomadelaw06_PoleBegins.j1 : Nat → Int → List Int → Int → Bool → Option (Bool)
  | 0, _, _, _, _ => none
  | k + 1, x9, x13, x14, x69 => if x69 = true then (some false) else ((pole_Order.f x9 x14).bind fun bt241 => (if bt241.2 = 0 then (pomadelaw06_PoleBegins.j2 k x13 bt241.1 ((bt241.1.length : Int) != x9)) else (pomadelaw06_PoleBegins.j2 k x13 bt241.1 true)))
def pomadelaw06_PoleBegins.j2 : Nat → List Int → List Int → Bool → Option (Bool)
  | 0, _, _, _ => none
  | k + 1, x13, x16, x83 => if x83 = true then (some false) else (if 0 ≤ (x13.length : Int) then (if (x13.length : Int) ≤ (x16.length : Int) then ((pomadelaw06_same.f k (x16.take ((x13.length : Int) : Int).toNat) x13).bind fun t249 => (if t249 = true then ((pomadelaw06_alive.f k).bind fun t250 => (some t250)) else (some false))) else (none)) else (none))
end
def pomadelaw06_PoleBegins.f (k : Nat) (a0 : Int) (a1 : Int) (a2 : Int) (a3 : Int) : Option (Bool) := if (wrap64 (1 + (wrap64 (Int.tmod a0 200)))) = 0 then (none) else ((pole_Begins.f (wrap64 (1 + (wrap64 (Int.tmod a0 200)))) (([Int.tmod (wrap64 (a1)) (wrap64 (1 + (wrap64 (Int.tmod a0 200))))] : List Int))).bind fun bt233 => (if bt233.2 = 0 then (pomadelaw06_PoleBegins.j0 k a2 a3 (wrap64 (1 + (wrap64 (Int.tmod a0 200)))) (bt233.1 != (wrap64 ((Int.tmod (wrap64 (a1)) (wrap64 (1 + (wrap64 (Int.tmod a0 200))))) + 1)))) else (pomadelaw06_PoleBegins.j0 k a2 a3 (wrap64 (1 + (wrap64 (Int.tmod a0 200)))) true)))
theorem pomadelaw06_PoleBegins.mono_l : ∀ k, (∀ y0 y1 y2 y3, LeO (pomadelaw06_PoleBegins.j0 k y0 y1 y2 y3) (pomadelaw06_PoleBegins.j0 (k + 1) y0 y1 y2 y3)) ∧ (∀ y0 y1 y2 y3, LeO (pomadelaw06_PoleBegins.j1 k y0 y1 y2 y3) (pomadelaw06_PoleBegins.j1 (k + 1) y0 y1 y2 y3)) ∧ (∀ y0 y1 y2, LeO (pomadelaw06_PoleBegins.j2 k y0 y1 y2) (pomadelaw06_PoleBegins.j2 (k + 1) y0 y1 y2))
  | 0 => ⟨fun _ _ _ _ r h => by simp [pomadelaw06_PoleBegins.j0] at h, fun _ _ _ _ r h => by simp [pomadelaw06_PoleBegins.j1] at h, fun _ _ _ r h => by simp [pomadelaw06_PoleBegins.j2] at h⟩
  | k + 1 => by
    obtain ⟨ih0, ih1, ih2⟩ := pomadelaw06_PoleBegins.mono_l k
    refine ⟨?_, ?_, ?_⟩
    · intro y0 y1 y2 y3
      unfold pomadelaw06_PoleBegins.j0
      repeat' first
      | (with_reducible exact ih0 _ _ _ _)
      | (with_reducible exact ih1 _ _ _ _)
      | (with_reducible exact ih2 _ _ _)
      | (with_reducible exact pomadelaw06_alive.mono _)
      | (with_reducible exact pomadelaw06_same.mono _ _ _)
      | (with_reducible exact LeO.refl _)
      | (with_reducible exact LeO.none _)
      | (with_reducible refine LeO.ite ?_ ?_)
      | (with_reducible refine LeO.bind ?_ (fun _ => ?_))
      | exact ih0 _ _ _ _
      | exact ih1 _ _ _ _
      | exact ih2 _ _ _
      | exact pomadelaw06_alive.mono _
      | exact pomadelaw06_same.mono _ _ _
      | exact LeO.none _
      | refine LeO.ite ?_ ?_
      | refine LeO.bind ?_ (fun _ => ?_)
    · intro y0 y1 y2 y3
      unfold pomadelaw06_PoleBegins.j1
      repeat' first
      | (with_reducible exact ih0 _ _ _ _)
      | (with_reducible exact ih1 _ _ _ _)
      | (with_reducible exact ih2 _ _ _)
      | (with_reducible exact pomadelaw06_alive.mono _)
      | (with_reducible exact pomadelaw06_same.mono _ _ _)
      | (with_reducible exact LeO.refl _)
      | (with_reducible exact LeO.none _)
      | (with_reducible refine LeO.ite ?_ ?_)
      | (with_reducible refine LeO.bind ?_ (fun _ => ?_))
      | exact ih0 _ _ _ _
      | exact ih1 _ _ _ _
      | exact ih2 _ _ _
      | exact pomadelaw06_alive.mono _
      | exact pomadelaw06_same.mono _ _ _
      | exact LeO.none _
      | refine LeO.ite ?_ ?_
      | refine LeO.bind ?_ (fun _ => ?_)
    · intro y0 y1 y2
      unfold pomadelaw06_PoleBegins.j2
      repeat' first
      | (with_reducible exact ih0 _ _ _ _)
      | (with_reducible exact ih1 _ _ _ _)
      | (with_reducible exact ih2 _ _ _)
      | (with_reducible exact pomadelaw06_alive.mono _)
      | (with_reducible exact pomadelaw06_same.mono _ _ _)
      | (with_reducible exact LeO.refl _)
      | (with_reducible exact LeO.none _)
      | (with_reducible refine LeO.ite ?_ ?_)
      | (with_reducible refine LeO.bind ?_ (fun _ => ?_))
      | exact ih0 _ _ _ _
      | exact ih1 _ _ _ _
      | exact ih2 _ _ _
      | exact pomadelaw06_alive.mono _
      | exact pomadelaw06_same.mono _ _ _
      | exact LeO.none _
      | refine LeO.ite ?_ ?_
      | refine LeO.bind ?_ (fun _ => ?_)
theorem pomadelaw06_PoleBegins.mono : ∀ a0 a1 a2 a3 k, LeO (pomadelaw06_PoleBegins.f k a0 a1 a2 a3) (pomadelaw06_PoleBegins.f (k + 1) a0 a1 a2 a3) := by
  intro a0 a1 a2 a3 k
  obtain ⟨ih0, ih1, ih2⟩ := pomadelaw06_PoleBegins.mono_l k
  unfold pomadelaw06_PoleBegins.f
  repeat' first
      | (with_reducible exact ih0 _ _ _ _)
      | (with_reducible exact ih1 _ _ _ _)
      | (with_reducible exact ih2 _ _ _)
      | (with_reducible exact pomadelaw06_alive.mono _)
      | (with_reducible exact pomadelaw06_same.mono _ _ _)
      | (with_reducible exact LeO.refl _)
      | (with_reducible exact LeO.none _)
      | (with_reducible refine LeO.ite ?_ ?_)
      | (with_reducible refine LeO.bind ?_ (fun _ => ?_))
      | exact ih0 _ _ _ _
      | exact ih1 _ _ _ _
      | exact ih2 _ _ _
      | exact pomadelaw06_alive.mono _
      | exact pomadelaw06_same.mono _ _ _
      | exact LeO.none _
      | refine LeO.ite ?_ ?_
      | refine LeO.bind ?_ (fun _ => ?_)
set_option maxHeartbeats 8000000 in
set_option maxRecDepth 100000 in
theorem pomadelaw06_PoleBegins.calls (k : Nat) (a0 : Int) (a1 : Int) (a2 : Int) (a3 : Int) (r : Bool) (w : World) (h : pomadelaw06_PoleBegins.f k a0 a1 a2 a3 = some r) :
    Calls Try.prog 12 #[.int .u8 a0, .int .u8 a1, .int .u16 a2, .int .u8 a3] w fun e w' => e = .returned (.bool r) ∧ Below w.heap.size w w' := by
  have HB := Aside0.mk (Below.refl w.heap.size w)
  have H : (if (wrap64 (1 + (wrap64 (Int.tmod a0 200)))) = 0 then (none) else ((pole_Begins.f (wrap64 (1 + (wrap64 (Int.tmod a0 200)))) (([Int.tmod (wrap64 (a1)) (wrap64 (1 + (wrap64 (Int.tmod a0 200))))] : List Int))).bind fun bt233 => (if bt233.2 = 0 then (pomadelaw06_PoleBegins.j0 k a2 a3 (wrap64 (1 + (wrap64 (Int.tmod a0 200)))) (bt233.1 != (wrap64 ((Int.tmod (wrap64 (a1)) (wrap64 (1 + (wrap64 (Int.tmod a0 200))))) + 1)))) else (pomadelaw06_PoleBegins.j0 k a2 a3 (wrap64 (1 + (wrap64 (Int.tmod a0 200)))) true)))) = some r := h
  clear h
  by_cases c5 : (wrap64 (1 + (wrap64 (Int.tmod a0 200)))) = 0
  · rw [if_pos c5] at H
    exact absurd H (by simp)
  · rw [if_neg c5] at H
    have c5b0 : ((wrap64 (1 + (wrap64 (Int.tmod a0 200)))) == 0) = false := beq_eq_false_iff_ne.mpr c5
    have c5b1 : ((wrap64 (1 + (wrap64 (Int.tmod a0 200)))) != 0) = true := bne_iff_ne.mpr c5
    obtain ⟨y230, hy230⟩ : ∃ y_ : List Int, y_ = (([Int.tmod (wrap64 (a1)) (wrap64 (1 + (wrap64 (Int.tmod a0 200))))] : List Int)) := ⟨_, rfl⟩
    replace H : ((pole_Begins.f (wrap64 (1 + (wrap64 (Int.tmod a0 200)))) y230).bind fun bt233 => (if bt233.2 = 0 then (pomadelaw06_PoleBegins.j0 k a2 a3 (wrap64 (1 + (wrap64 (Int.tmod a0 200)))) (bt233.1 != (wrap64 ((Int.tmod (wrap64 (a1)) (wrap64 (1 + (wrap64 (Int.tmod a0 200))))) + 1)))) else (pomadelaw06_PoleBegins.j0 k a2 a3 (wrap64 (1 + (wrap64 (Int.tmod a0 200)))) true))) = some r := by first | (rw [hy230]; with_reducible exact H) | (have H2_ := (Option.bind_some _ _).symm.trans H; rw [hy230]; with_reducible exact H2_) | (have H2_ := (Option.bind_some _ _).symm.trans H; with_reducible exact H2_) | with_reducible exact H | (rw [hy230]; exact H) | exact H
    have Ny230 := Aside0.mk hy230
    clear hy230
    replace H := Option.bind_eq_some_iff.mp H
    obtain ⟨⟨t233, t234⟩, A60, H⟩ := H
    replace H : (if t234 = 0 then (pomadelaw06_PoleBegins.j0 k a2 a3 (wrap64 (1 + (wrap64 (Int.tmod a0 200)))) (t233 != (wrap64 ((Int.tmod (wrap64 (a1)) (wrap64 (1 + (wrap64 (Int.tmod a0 200))))) + 1)))) else (pomadelaw06_PoleBegins.j0 k a2 a3 (wrap64 (1 + (wrap64 (Int.tmod a0 200)))) true)) = some r := H
    have A6 := Aside0.mk A60
    clear A60
    have HC7 := Aside0.mk H
    clear H
    go_enter Try.func12, Try.ntmps12
    go_upto_region 3 with (first | ((with_reducible refine gate_dst (N := 28) rfl ?_); (try (refine gate_guard (by rfl) ?_; dsimp only)); refine Kd.R_lit (Kd.int .i64) _ 3 ?hg (N := 28) ?hd (xs := ([Int.tmod (wrap64 (a1)) (wrap64 (1 + (wrap64 (Int.tmod a0 200))))] : List Int)) (inner := [.int .i64 (Int.tmod (wrap64 (a1)) (wrap64 (1 + (wrap64 (Int.tmod a0 200)))))]) (ok := fun _ => True) (okp := fun _ => True) ?hr ?hp (fun _ hk => hk) trivial (Below.refl _ _) (Nat.le_refl _) (by simp) ?_; (case hd => rfl); (case hg => rfl); (case hr => first | (go_simp; done) | (go_simp; rfl)); (case hp => exact (Reps.one (show Kd.M (Kd.int .i64) _ _ _ (Int.tmod (wrap64 (a1)) (wrap64 (1 + (wrap64 (Int.tmod a0 200))))) [.int .i64 (Int.tmod (wrap64 (a1)) (wrap64 (1 + (wrap64 (Int.tmod a0 200)))))] from rfl) (Reps.none _ _))); intro v231 w8 ho9 hb hg_ hnew_; clear hg_ hnew_; (first | rw [← Ny230.out] at ho9 | (simp only [Int.reduceToNat] at ho9; rw [← Ny230.out] at ho9)); have n0_ := Aside0.mk (Kd.R_lower ho9 (below_size (by repeat (first | (with_reducible first | exact HB.out | apply below_alloc | apply pw_below_drewN | apply below_drew1) | exact HB.out)))); have n1_ := Aside0.mk (below_step (by repeat (first | (with_reducible first | exact HB.out | apply below_alloc | apply pw_below_drewN | apply below_drew1) | exact HB.out)) hb); clear HB; have HO232 := n0_; have HB := n1_; clear n0_ n1_; clear hb ho9; obtain ⟨Ao10, co10, eo10⟩ := Kd.R_slice HO232.out; subst eo10) | ((with_reducible refine gate_callee (f := 33) rfl ?_); refine goesL_ (some 29) rfl rfl Try.func33 (by kernel_rfl) rfl #[.int .i64 (wrap64 (1 + (wrap64 (Int.tmod a0 200)))), .slice Ao10 y230.length co10] rfl (by (try simp only [List.map_toArray, List.map_cons, List.map_nil]); first | done | rfl | (simp only [List.length_drop, List.length_take]; rfl)) ?_; (with_reducible refine (pole_Begins.calls (wrap64 (1 + (wrap64 (Int.tmod a0 200)))) _ _ y230 t233 t234 _ ?side1 ?side2 A6.out).mono ?_); (case side1 => repeat (first | exact (Kd.R_reads' HO232.out).2.2 | (with_reducible refine Kd.C_alloc ?_ _) | (with_reducible refine Kd.C_drewN ?_ _) | (with_reducible refine Kd.C_drew ?_))); (case side2 => exact (Kd.R_reads' HO232.out).2.1); rintro e w11 ⟨rfl, hb⟩; refine ⟨_, rfl, ?_⟩; have n0_ := Aside0.mk (Kd.R_below (by (with_reducible repeat (first | apply Kd.R_alloc | apply Kd.R_drewN | apply Kd.R_drew)); exact HO232.out) hb); have n1_ := Aside0.mk (below_step (by repeat (first | (with_reducible first | exact HB.out | apply below_alloc | apply pw_below_drewN | apply below_drew1) | exact HB.out)) hb); clear HO232; clear HB; have HO232 := n0_; have HB := n1_; clear n0_ n1_; (try clear hb); (try clear hb2); (try clear hk); (try clear hi)))
    (try simp only [Act.put, List.setIfInBounds_toArray, List.set_cons_zero, List.set_cons_succ])
    go_cut [42] (fun v42 wc => ∃ (kq : Nat) (x42_6 : Bool), v42 = .bool x42_6 ∧ Aside0 (pomadelaw06_PoleBegins.j0 kq a2 a3 (wrap64 (1 + (wrap64 (Int.tmod a0 200)))) x42_6 = some r) ∧ Aside0 (kq ≤ k) ∧ Aside0 (Below w.heap.size w wc))
    case first =>
      have H := HC7.out
      clear HC7
      by_cases c12 : t234 = 0
      · rw [if_pos c12] at H
        have c12b0 : (t234 == 0) = true := beq_iff_eq.mpr c12
        have c12b1 : (t234 != 0) = false := bne_eq_false_iff_eq.mpr c12
        clear c12
        (first | rw [c12b0] | (simp only [i64_w, i32_w]; rw [c12b0]) | skip)
        have H' := Aside0.mk H
        clear H
        go_wp2
        go_meet
        case rel => exact ⟨_, ((t233 != (wrap64 ((Int.tmod (wrap64 (a1)) (wrap64 (1 + (wrap64 (Int.tmod a0 200))))) + 1)))), (by first | rfl | (simp; done) | (simp [*]; done)), H', ⟨by first | omega | exact Nat.le_refl _⟩, ⟨by repeat (first | (with_reducible first | exact HB.out | apply below_alloc | apply pw_below_drewN | apply below_drew1) | exact HB.out)⟩⟩
      · rw [if_neg c12] at H
        have c12b0 : (t234 == 0) = false := beq_eq_false_iff_ne.mpr c12
        have c12b1 : (t234 != 0) = true := bne_iff_ne.mpr c12
        (first | rw [c12b0] | (simp only [i64_w, i32_w]; rw [c12b0]) | skip)
        have H' := Aside0.mk H
        clear H
        go_wp2
        go_meet
        case rel => exact ⟨_, (true), (by first | rfl | (simp; done) | (simp [*]; done)), H', ⟨by first | omega | exact Nat.le_refl _⟩, ⟨by repeat (first | (with_reducible first | exact HB.out | apply below_alloc | apply pw_below_drewN | apply below_drew1) | exact HB.out)⟩⟩
    case rest =>
      clear HC7
      try clear c1
      try clear p2
      try clear c3
      try clear c5
      try clear c5b0
      try clear c5b1
      try clear p6
      try clear c12
      try clear c12b0
      try clear c12b1
      obtain ⟨kq, x42_6, rfl, HA, HJ6, HB⟩ := hcut
      cases kq with
      | zero => exact absurd HA.out (by simp [pomadelaw06_PoleBegins.j0])
      | succ kj6 =>
        have H := HA.out
        clear HA
        simp only [pomadelaw06_PoleBegins.j0] at H
        by_cases c13 : x42_6 = true
        · subst c13
          have H1 : (some false) = some r := by rw [if_pos rfl] at H; exact H
          clear H
          have H := H1
          clear H1
          obtain rfl := Option.some.inj H
          go_wp2
          go_ret
          exact ⟨by first | rfl | (simp [errW_none, errW_some] <;> rfl) | (simp [*, errW_none, errW_some] <;> rfl), by repeat (first | (with_reducible first | exact HB.out | apply below_alloc | apply pw_below_drewN | apply below_drew1) | exact HB.out)⟩
        · replace c13 := Bool.eq_false_iff.mpr c13
          subst c13
          have H1 : ((pomadelaw06_step.f a2).bind fun t235 => (if (wrap64 ((wrap64 (1 + (wrap64 (Int.tmod a0 200)))) + 1)) = 0 then (none) else ((pomaderef06_Played.f (wrap64 (1 + (wrap64 (Int.tmod a0 200)))) t235 (Int.tmod (wrap64 (a3)) (wrap64 ((wrap64 (1 + (wrap64 (Int.tmod a0 200)))) + 1)))).bind fun t236 => ((pole_Begins.f (wrap64 (1 + (wrap64 (Int.tmod a0 200)))) t236).bind fun bt239 => (if bt239.2 = 0 then (if bt239.1 < 1 then (pomadelaw06_PoleBegins.j1 kj6 (wrap64 (1 + (wrap64 (Int.tmod a0 200)))) t236 bt239.1 true) else (pomadelaw06_PoleBegins.j1 kj6 (wrap64 (1 + (wrap64 (Int.tmod a0 200)))) t236 bt239.1 (decide (bt239.1 > t235)))) else (pomadelaw06_PoleBegins.j1 kj6 (wrap64 (1 + (wrap64 (Int.tmod a0 200)))) t236 bt239.1 true)))))) = some r := by rw [if_neg (show ¬ (false = true) by decide)] at H; exact H
          clear H
          have H := H1
          clear H1
          replace H := Option.bind_eq_some_iff.mp H
          obtain ⟨t235, A140, H⟩ := H
          replace H : (if (wrap64 ((wrap64 (1 + (wrap64 (Int.tmod a0 200)))) + 1)) = 0 then (none) else ((pomaderef06_Played.f (wrap64 (1 + (wrap64 (Int.tmod a0 200)))) t235 (Int.tmod (wrap64 (a3)) (wrap64 ((wrap64 (1 + (wrap64 (Int.tmod a0 200)))) + 1)))).bind fun t236 => ((pole_Begins.f (wrap64 (1 + (wrap64 (Int.tmod a0 200)))) t236).bind fun bt239 => (if bt239.2 = 0 then (if bt239.1 < 1 then (pomadelaw06_PoleBegins.j1 kj6 (wrap64 (1 + (wrap64 (Int.tmod a0 200)))) t236 bt239.1 true) else (pomadelaw06_PoleBegins.j1 kj6 (wrap64 (1 + (wrap64 (Int.tmod a0 200)))) t236 bt239.1 (decide (bt239.1 > t235)))) else (pomadelaw06_PoleBegins.j1 kj6 (wrap64 (1 + (wrap64 (Int.tmod a0 200)))) t236 bt239.1 true))))) = some r := H
          have A14 := Aside0.mk A140
          clear A140
          by_cases c15 : (wrap64 ((wrap64 (1 + (wrap64 (Int.tmod a0 200)))) + 1)) = 0
          · rw [if_pos c15] at H
            exact absurd H (by simp)
          · rw [if_neg c15] at H
            have c15b0 : ((wrap64 ((wrap64 (1 + (wrap64 (Int.tmod a0 200)))) + 1)) == 0) = false := beq_eq_false_iff_ne.mpr c15
            have c15b1 : ((wrap64 ((wrap64 (1 + (wrap64 (Int.tmod a0 200)))) + 1)) != 0) = true := bne_iff_ne.mpr c15
            replace H := Option.bind_eq_some_iff.mp H
            obtain ⟨t236, A160, H⟩ := H
            replace H : ((pole_Begins.f (wrap64 (1 + (wrap64 (Int.tmod a0 200)))) t236).bind fun bt239 => (if bt239.2 = 0 then (if bt239.1 < 1 then (pomadelaw06_PoleBegins.j1 kj6 (wrap64 (1 + (wrap64 (Int.tmod a0 200)))) t236 bt239.1 true) else (pomadelaw06_PoleBegins.j1 kj6 (wrap64 (1 + (wrap64 (Int.tmod a0 200)))) t236 bt239.1 (decide (bt239.1 > t235)))) else (pomadelaw06_PoleBegins.j1 kj6 (wrap64 (1 + (wrap64 (Int.tmod a0 200)))) t236 bt239.1 true))) = some r := H
            have A16 := Aside0.mk A160
            clear A160
            replace H := Option.bind_eq_some_iff.mp H
            obtain ⟨⟨t239, t240⟩, A170, H⟩ := H
            replace H : (if t240 = 0 then (if t239 < 1 then (pomadelaw06_PoleBegins.j1 kj6 (wrap64 (1 + (wrap64 (Int.tmod a0 200)))) t236 t239 true) else (pomadelaw06_PoleBegins.j1 kj6 (wrap64 (1 + (wrap64 (Int.tmod a0 200)))) t236 t239 (decide (t239 > t235)))) else (pomadelaw06_PoleBegins.j1 kj6 (wrap64 (1 + (wrap64 (Int.tmod a0 200)))) t236 t239 true)) = some r := H
            have A17 := Aside0.mk A170
            clear A170
            have HC18 := Aside0.mk H
            clear H
            go_upto_region 8 with (first | ((with_reducible refine gate_callee (f := 24) rfl ?_); refine goesL_ (some 44) rfl rfl Try.func24 (by kernel_rfl) rfl #[.int .u16 a2] rfl (by (try simp only [List.map_toArray, List.map_cons, List.map_nil]); first | done | rfl | (simp only [List.length_drop, List.length_take]; rfl)) ?_; (with_reducible refine (pomadelaw06_step.calls a2 t235 _ A14.out).mono ?_); rintro e w' ⟨rfl, ⟨nd, rfl⟩⟩; refine ⟨_, rfl, ?_⟩) | ((with_reducible refine gate_callee (f := 34) rfl ?_); refine goesL_ (some 52) rfl rfl Try.func34 (by kernel_rfl) rfl #[.int .i64 (wrap64 (1 + (wrap64 (Int.tmod a0 200)))), .int .i64 t235, .int .i64 (Int.tmod (wrap64 (a3)) (wrap64 ((wrap64 (1 + (wrap64 (Int.tmod a0 200)))) + 1)))] rfl (by (try simp only [List.map_toArray, List.map_cons, List.map_nil]); first | done | rfl | (simp only [List.length_drop, List.length_take]; rfl)) ?_; (with_reducible refine (pomaderef06_Played.calls (wrap64 (1 + (wrap64 (Int.tmod a0 200)))) t235 (Int.tmod (wrap64 (a3)) (wrap64 ((wrap64 (1 + (wrap64 (Int.tmod a0 200)))) + 1))) t236 _ A16.out).mono ?_); rintro e w19 ⟨v237, rfl, ho0, hb⟩; refine ⟨_, rfl, ?_⟩; have n0_ := Aside0.mk (Kd.R_lower ho0 (below_size (by repeat (first | (with_reducible first | exact HB.out | apply below_alloc | apply pw_below_drewN | apply below_drew1) | exact HB.out)))); have n1_ := Aside0.mk (below_step (by repeat (first | (with_reducible first | exact HB.out | apply below_alloc | apply pw_below_drewN | apply below_drew1) | exact HB.out)) hb); clear HB; have HO238 := n0_; have HB := n1_; clear n0_ n1_; (try clear hb); (try clear hb2); (try clear hk); (try clear hi); (try clear ho0); obtain ⟨Ao20, co20, eo20⟩ := Kd.R_slice HO238.out; subst eo20) | ((with_reducible refine gate_callee (f := 33) rfl ?_); refine goesL_ (some 56) rfl rfl Try.func33 (by kernel_rfl) rfl #[.int .i64 (wrap64 (1 + (wrap64 (Int.tmod a0 200)))), .slice Ao20 t236.length co20] rfl (by (try simp only [List.map_toArray, List.map_cons, List.map_nil]); first | done | rfl | (simp only [List.length_drop, List.length_take]; rfl)) ?_; (with_reducible refine (pole_Begins.calls (wrap64 (1 + (wrap64 (Int.tmod a0 200)))) _ _ t236 t239 t240 _ ?side1 ?side2 A17.out).mono ?_); (case side1 => repeat (first | exact (Kd.R_reads' HO238.out).2.2 | (with_reducible refine Kd.C_alloc ?_ _) | (with_reducible refine Kd.C_drewN ?_ _) | (with_reducible refine Kd.C_drew ?_))); (case side2 => exact (Kd.R_reads' HO238.out).2.1); rintro e w21 ⟨rfl, hb⟩; refine ⟨_, rfl, ?_⟩; have n0_ := Aside0.mk (Kd.R_below (by (with_reducible repeat (first | apply Kd.R_alloc | apply Kd.R_drewN | apply Kd.R_drew)); exact HO238.out) hb); have n1_ := Aside0.mk (below_step (by repeat (first | (with_reducible first | exact HB.out | apply below_alloc | apply pw_below_drewN | apply below_drew1) | exact HB.out)) hb); clear HO238; clear HB; have HO238 := n0_; have HB := n1_; clear n0_ n1_; (try clear hb); (try clear hb2); (try clear hk); (try clear hi)))
            (try simp only [Act.put, List.setIfInBounds_toArray, List.set_cons_zero, List.set_cons_succ])
            go_cut [69] (fun v69 wc => ∃ (kq : Nat) (x69_17 : Bool), v69 = .bool x69_17 ∧ Aside0 (pomadelaw06_PoleBegins.j1 kq (wrap64 (1 + (wrap64 (Int.tmod a0 200)))) t236 t239 x69_17 = some r) ∧ Aside0 (kq ≤ kj6) ∧ Aside0 (Kd.R (Kd.int .i64) 3 wc w.heap.size (fun _ => True) (.slice Ao20 t236.length co20) t236) ∧ Aside0 (Below w.heap.size w wc))
            case first =>
              have H := HC18.out
              clear HC18
              by_cases c22 : t240 = 0
              · rw [if_pos c22] at H
                have c22b0 : (t240 == 0) = true := beq_iff_eq.mpr c22
                have c22b1 : (t240 != 0) = false := bne_eq_false_iff_eq.mpr c22
                clear c22
                (first | rw [c22b0] | (simp only [i64_w, i32_w]; rw [c22b0]) | skip)
                by_cases c23 : t239 < 1
                · rw [if_pos c23] at H
                  have c23b0 : decide (t239 < 1) = true := decide_eq_true c23
                  clear c23
                  have H' := Aside0.mk H
                  clear H
                  go_wp2
                  go_meet
                  case rel => exact ⟨_, (true), (by first | rfl | (simp; done) | (simp [*]; done)), H', ⟨by have := HJ6.out; first | omega | exact Nat.le_refl _⟩, ⟨by (with_reducible repeat (first | apply Kd.R_alloc | apply Kd.R_drewN | apply Kd.R_drew)); exact HO238.out⟩, ⟨by repeat (first | (with_reducible first | exact HB.out | apply below_alloc | apply pw_below_drewN | apply below_drew1) | exact HB.out)⟩⟩
                · rw [if_neg c23] at H
                  have c23b0 : decide (t239 < 1) = false := decide_eq_false c23
                  clear c23
                  have H' := Aside0.mk H
                  clear H
                  go_wp2
                  go_meet
                  case rel => exact ⟨_, (decide (t239 > t235)), (by first | rfl | (simp; done) | (simp [*]; done)), H', ⟨by have := HJ6.out; first | omega | exact Nat.le_refl _⟩, ⟨by (with_reducible repeat (first | apply Kd.R_alloc | apply Kd.R_drewN | apply Kd.R_drew)); exact HO238.out⟩, ⟨by repeat (first | (with_reducible first | exact HB.out | apply below_alloc | apply pw_below_drewN | apply below_drew1) | exact HB.out)⟩⟩
              · rw [if_neg c22] at H
                have c22b0 : (t240 == 0) = false := beq_eq_false_iff_ne.mpr c22
                have c22b1 : (t240 != 0) = true := bne_iff_ne.mpr c22
                (first | rw [c22b0] | (simp only [i64_w, i32_w]; rw [c22b0]) | skip)
                have H' := Aside0.mk H
                clear H
                go_wp2
                go_meet
                case rel => exact ⟨_, (true), (by first | rfl | (simp; done) | (simp [*]; done)), H', ⟨by have := HJ6.out; first | omega | exact Nat.le_refl _⟩, ⟨by (with_reducible repeat (first | apply Kd.R_alloc | apply Kd.R_drewN | apply Kd.R_drew)); exact HO238.out⟩, ⟨by repeat (first | (with_reducible first | exact HB.out | apply below_alloc | apply pw_below_drewN | apply below_drew1) | exact HB.out)⟩⟩
            case rest =>
              clear HC18
              try clear c1
              try clear c2
              try clear p2
              try clear c3
              try clear c5
              try clear c5b0
              try clear c5b1
              try clear p6
              try clear c12
              try clear c12b0
              try clear c12b1
              try clear c13
              try clear c15
              try clear c15b0
              try clear c15b1
              try clear c22
              try clear c22b0
              try clear c22b1
              try clear c23
              try clear c23b0
              try clear p2
              try clear p6
              obtain ⟨kq, x69_17, rfl, HA, HJ17, HO_13, HB⟩ := hcut
              cases kq with
              | zero => exact absurd HA.out (by simp [pomadelaw06_PoleBegins.j1])
              | succ kj17 =>
                have H := HA.out
                clear HA
                simp only [pomadelaw06_PoleBegins.j1] at H
                by_cases c24 : x69_17 = true
                · subst c24
                  have H1 : (some false) = some r := by rw [if_pos rfl] at H; exact H
                  clear H
                  have H := H1
                  clear H1
                  obtain rfl := Option.some.inj H
                  go_wp2
                  go_ret
                  exact ⟨by first | rfl | (simp [errW_none, errW_some] <;> rfl) | (simp [*, errW_none, errW_some] <;> rfl), by repeat (first | (with_reducible first | exact HB.out | apply below_alloc | apply pw_below_drewN | apply below_drew1) | exact HB.out)⟩
                · replace c24 := Bool.eq_false_iff.mpr c24
                  subst c24
                  have H1 : ((pole_Order.f (wrap64 (1 + (wrap64 (Int.tmod a0 200)))) t239).bind fun bt241 => (if bt241.2 = 0 then (pomadelaw06_PoleBegins.j2 kj17 t236 bt241.1 ((bt241.1.length : Int) != (wrap64 (1 + (wrap64 (Int.tmod a0 200)))))) else (pomadelaw06_PoleBegins.j2 kj17 t236 bt241.1 true))) = some r := by rw [if_neg (show ¬ (false = true) by decide)] at H; exact H
                  clear H
                  have H := H1
                  clear H1
                  replace H := Option.bind_eq_some_iff.mp H
                  obtain ⟨⟨t241, t242⟩, A250, H⟩ := H
                  replace H : (if t242 = 0 then (pomadelaw06_PoleBegins.j2 kj17 t236 t241 ((t241.length : Int) != (wrap64 (1 + (wrap64 (Int.tmod a0 200)))))) else (pomadelaw06_PoleBegins.j2 kj17 t236 t241 true)) = some r := H
                  have A25 := Aside0.mk A250
                  clear A250
                  have HC26 := Aside0.mk H
                  clear H
                  go_upto_region 11 with (first | ((with_reducible refine gate_callee (f := 26) rfl ?_); refine goesL_ (some 73) rfl rfl Try.func26 (by kernel_rfl) rfl #[.int .i64 (wrap64 (1 + (wrap64 (Int.tmod a0 200)))), .int .i64 t239] rfl (by (try simp only [List.map_toArray, List.map_cons, List.map_nil]); first | done | rfl | (simp only [List.length_drop, List.length_take]; rfl)) ?_; (with_reducible refine (pole_Order.calls (wrap64 (1 + (wrap64 (Int.tmod a0 200)))) t239 t241 t242 _ A25.out).mono ?_); rintro e w27 ⟨v243, rfl, ho0, hb⟩; refine ⟨_, rfl, ?_⟩; have n0_ := Aside0.mk (Kd.R_elder' (by (with_reducible repeat (first | apply Kd.R_alloc | apply Kd.R_drewN | apply Kd.R_drew)); exact HO_13.out) (Kd.R_base ho0) hb); have n1_ := Aside0.mk (Kd.R_lower (Kd.R_new' ho0 (Kd.R_lt (by (with_reducible repeat (first | apply Kd.R_alloc | apply Kd.R_drewN | apply Kd.R_drew)); exact HO_13.out))) (below_size (by repeat (first | (with_reducible first | exact HB.out | apply below_alloc | apply pw_below_drewN | apply below_drew1) | exact HB.out)))); have n2_ := Aside0.mk (below_step (by repeat (first | (with_reducible first | exact HB.out | apply below_alloc | apply pw_below_drewN | apply below_drew1) | exact HB.out)) hb); clear HO_13; clear HB; have HO_13 := n0_; have HO244 := n1_; have HB := n2_; clear n0_ n1_ n2_; (try clear hb); (try clear hb2); (try clear hk); (try clear hi); (try clear ho0)))
                  (try simp only [Act.put, List.setIfInBounds_toArray, List.set_cons_zero, List.set_cons_succ])
                  go_cut [83] (fun v83 wc => ∃ (kq : Nat) (x83_25 : Bool), v83 = .bool x83_25 ∧ Aside0 (pomadelaw06_PoleBegins.j2 kq t236 t241 x83_25 = some r) ∧ Aside0 (kq ≤ kj17) ∧ Aside0 (Kd.R (Kd.int .i64) 3 wc w.heap.size (fun k_ => some k_ ≠ (v243 : Value).ownBlock) (.slice Ao20 t236.length co20) t236) ∧ Aside0 (Kd.R (Kd.int .i64) 3 wc w.heap.size (fun k_ => some k_ ≠ ((.slice Ao20 t236.length co20) : Value).ownBlock) v243 t241) ∧ Aside0 (Below w.heap.size w wc))
                  case first =>
                    have H := HC26.out
                    clear HC26
                    by_cases c28 : t242 = 0
                    · rw [if_pos c28] at H
                      have c28b0 : (t242 == 0) = true := beq_iff_eq.mpr c28
                      have c28b1 : (t242 != 0) = false := bne_eq_false_iff_eq.mpr c28
                      clear c28
                      (first | rw [c28b0] | (simp only [i64_w, i32_w]; rw [c28b0]) | skip)
                      have H' := Aside0.mk H
                      clear H
                      obtain ⟨Ao29, co29, eo29⟩ := Kd.R_slice HO244.out
                      subst eo29
                      go_wp2
                      go_meet
                      case rel => exact ⟨_, (((t241.length : Int) != (wrap64 (1 + (wrap64 (Int.tmod a0 200)))))), (by first | rfl | (simp; done) | (simp [*]; done)), H', ⟨by have := HJ6.out; have := HJ17.out; first | omega | exact Nat.le_refl _⟩, ⟨by (with_reducible repeat (first | apply Kd.R_alloc | apply Kd.R_drewN | apply Kd.R_drew)); exact Kd.R_mono HO_13.out (fun _ hk => hk.2)⟩, ⟨by (with_reducible repeat (first | apply Kd.R_alloc | apply Kd.R_drewN | apply Kd.R_drew)); exact Kd.R_mono HO244.out (fun _ hk => hk.2)⟩, ⟨by repeat (first | (with_reducible first | exact HB.out | apply below_alloc | apply pw_below_drewN | apply below_drew1) | exact HB.out)⟩⟩
                    · rw [if_neg c28] at H
                      have c28b0 : (t242 == 0) = false := beq_eq_false_iff_ne.mpr c28
                      have c28b1 : (t242 != 0) = true := bne_iff_ne.mpr c28
                      (first | rw [c28b0] | (simp only [i64_w, i32_w]; rw [c28b0]) | skip)
                      have H' := Aside0.mk H
                      clear H
                      go_wp2
                      go_meet
                      case rel => exact ⟨_, (true), (by first | rfl | (simp; done) | (simp [*]; done)), H', ⟨by have := HJ6.out; have := HJ17.out; first | omega | exact Nat.le_refl _⟩, ⟨by (with_reducible repeat (first | apply Kd.R_alloc | apply Kd.R_drewN | apply Kd.R_drew)); exact Kd.R_mono HO_13.out (fun _ hk => hk.2)⟩, ⟨by (with_reducible repeat (first | apply Kd.R_alloc | apply Kd.R_drewN | apply Kd.R_drew)); exact Kd.R_mono HO244.out (fun _ hk => hk.2)⟩, ⟨by repeat (first | (with_reducible first | exact HB.out | apply below_alloc | apply pw_below_drewN | apply below_drew1) | exact HB.out)⟩⟩
                  case rest =>
                    clear HC26
                    try clear c1
                    try clear c2
                    try clear p2
                    try clear c3
                    try clear c5
                    try clear c5b0
                    try clear c5b1
                    try clear p6
                    try clear c12
                    try clear c12b0
                    try clear c12b1
                    try clear c13
                    try clear c15
                    try clear c15b0
                    try clear c15b1
                    try clear c22
                    try clear c22b0
                    try clear c22b1
                    try clear c23
                    try clear c23b0
                    try clear c24
                    try clear c26
                    try clear c28
                    try clear c28b0
                    try clear c28b1
                    try clear p2
                    try clear p6
                    obtain ⟨kq, x83_25, rfl, HA, HJ25, HO_13, HO_16, HB⟩ := hcut
                    cases kq with
                    | zero => exact absurd HA.out (by simp [pomadelaw06_PoleBegins.j2])
                    | succ kj25 =>
                      have H := HA.out
                      clear HA
                      simp only [pomadelaw06_PoleBegins.j2] at H
                      by_cases c30 : x83_25 = true
                      · subst c30
                        have H1 : (some false) = some r := by rw [if_pos rfl] at H; exact H
                        clear H
                        have H := H1
                        clear H1
                        obtain rfl := Option.some.inj H
                        go_wp2
                        go_ret
                        exact ⟨by first | rfl | (simp [errW_none, errW_some] <;> rfl) | (simp [*, errW_none, errW_some] <;> rfl), by repeat (first | (with_reducible first | exact HB.out | apply below_alloc | apply pw_below_drewN | apply below_drew1) | exact HB.out)⟩
                      · replace c30 := Bool.eq_false_iff.mpr c30
                        subst c30
                        have H1 : (if 0 ≤ (t236.length : Int) then (if (t236.length : Int) ≤ (t241.length : Int) then ((pomadelaw06_same.f kj25 (t241.take ((t236.length : Int) : Int).toNat) t236).bind fun t249 => (if t249 = true then ((pomadelaw06_alive.f kj25).bind fun t250 => (some t250)) else (some false))) else (none)) else (none)) = some r := by rw [if_neg (show ¬ (false = true) by decide)] at H; exact H
                        clear H
                        have H := H1
                        clear H1
                        by_cases c31 : 0 ≤ (t236.length : Int)
                        · rw [if_pos c31] at H
                          have c31b0 := eq_true c31
                          have c31b1 : decide (0 ≤ (t236.length : Int)) = true := decide_eq_true c31
                          clear c31
                          by_cases c32 : (t236.length : Int) ≤ (t241.length : Int)
                          · rw [if_pos c32] at H
                            have c32b0 := eq_true c32
                            have c32b1 : decide ((t236.length : Int) ≤ (t241.length : Int)) = true := decide_eq_true c32
                            clear c32
                            obtain ⟨y245, hy245⟩ : ∃ y_ : List Int, y_ = (t241.take ((t236.length : Int) : Int).toNat) := ⟨_, rfl⟩
                            replace H : ((pomadelaw06_same.f kj25 y245 t236).bind fun t249 => (if t249 = true then ((pomadelaw06_alive.f kj25).bind fun t250 => (some t250)) else (some false))) = some r := by first | (rw [hy245]; with_reducible exact H) | (have H2_ := (Option.bind_some _ _).symm.trans H; rw [hy245]; with_reducible exact H2_) | (have H2_ := (Option.bind_some _ _).symm.trans H; with_reducible exact H2_) | with_reducible exact H | (rw [hy245]; exact H) | exact H
                            have Ny245 := Aside0.mk hy245
                            clear hy245
                            replace H := Option.bind_eq_some_iff.mp H
                            obtain ⟨t249, A330, H⟩ := H
                            replace H : (if t249 = true then ((pomadelaw06_alive.f kj25).bind fun t250 => (some t250)) else (some false)) = some r := H
                            have A33 := Aside0.mk A330
                            clear A330
                            by_cases c34 : t249 = true
                            · subst c34
                              have H1 : ((pomadelaw06_alive.f kj25).bind fun t250 => (some t250)) = some r := by rw [if_pos rfl] at H; exact H
                              clear H
                              have H := H1
                              clear H1
                              replace H := Option.bind_eq_some_iff.mp H
                              obtain ⟨t250, A350, H⟩ := H
                              replace H : (some t250) = some r := H
                              have A35 := Aside0.mk A350
                              clear A350
                              obtain rfl := Option.some.inj H
                              obtain ⟨Ao37, co37, eo37⟩ := Kd.R_slice HO_16.out
                              subst eo37
                              have q36 : ((t236.length : Int) : Int) ≤ ((t241.length : Int) : Int) := of_decide_eq_true (by first | (with_reducible assumption) | assumption)
                              obtain ⟨i036, hi036, _, hsz36, _⟩ := info_parts info3
                              have hroom36 : t241.length ≤ co37 := (Kd.R_reads' HO_16.out).2.1
                              have hC36 : Kd.C (Kd.int .i64) _ Ao37 t241.length t241 := (Kd.R_reads' HO_16.out).2.2
                              have hcut36 := cut_to (P := Try.prog) 37 3 .i64 Try.underlying37 hi036 Ao37 t241.length co37 (t236.length : Int) (of_decide_eq_true (by first | (with_reducible assumption) | assumption)) q36 hroom36
                              have hr36 := Kd.C_take (m := ((t236.length : Int) : Int).toNat) hC36 (by omega)
                              have hy36 : y245.length = ((t236.length : Int) : Int).toNat := (by rw [Ny245.out, List.length_take]; omega)
                              rw [← Ny245.out] at hr36
                              rw [← hy36] at hcut36
                              have HR248 := Aside0.mk hr36
                              have HC248 := Aside0.mk (show y245.length ≤ co37 from by omega)
                              clear hr36 hC36 hroom36 hi036 hsz36
                              have KY36 := Aside0.mk hy36
                              clear hy36
                              have KL36 := Aside0.mk (show ((t236.length : Int) : Int).toNat ≤ t241.length from by omega)
                              replace q36 := eq_true q36
                              go_wp2_with (first | ((with_reducible refine gate_callee (f := 27) rfl ?_); refine goesL_ (some 89) rfl rfl Try.func27 (by kernel_rfl) rfl #[.slice Ao37 y245.length co37, .slice Ao20 t236.length co20] rfl (by (try simp only [List.map_toArray, List.map_cons, List.map_nil]); first | done | rfl | (simp only [List.length_drop, List.length_take]; rfl)) ?_; (with_reducible refine (pomadelaw06_same.calls kj25 _ _ y245 _ _ t236 true _ ?side1 ?side2 ?side3 ?side4 A33.out).mono ?_); (case side1 => repeat (first | exact (by repeat (first | (with_reducible exact HR248.out) | (with_reducible refine Kd.C_alloc ?_ _) | (with_reducible refine Kd.C_drewN ?_ _) | (with_reducible refine Kd.C_drew ?_) | exact HR248.out)) | (with_reducible refine Kd.C_alloc ?_ _) | (with_reducible refine Kd.C_drewN ?_ _) | (with_reducible refine Kd.C_drew ?_))); (case side2 => exact HC248.out); (case side3 => repeat (first | exact (Kd.R_reads' HO_13.out).2.2 | (with_reducible refine Kd.C_alloc ?_ _) | (with_reducible refine Kd.C_drewN ?_ _) | (with_reducible refine Kd.C_drew ?_))); (case side4 => exact (Kd.R_reads' HO_13.out).2.1); rintro e w' ⟨rfl, ⟨nd, rfl⟩⟩; refine ⟨_, rfl, ?_⟩) | (go_at_call 20; (with_reducible refine (pomadelaw06_alive.calls kj25  t250 _ A35.out).mono ?_); rintro e w38 ⟨rfl, hb⟩; have n0_ := Aside0.mk (Kd.R_below (by (with_reducible repeat (first | apply Kd.R_alloc | apply Kd.R_drewN | apply Kd.R_drew)); exact HO_13.out) hb); have n1_ := Aside0.mk (Kd.R_below (by (with_reducible repeat (first | apply Kd.R_alloc | apply Kd.R_drewN | apply Kd.R_drew)); exact HO_16.out) hb); have n2_ := Aside0.mk (Kd.C_below (by repeat (first | (with_reducible exact HR248.out) | (with_reducible refine Kd.C_alloc ?_ _) | (with_reducible refine Kd.C_drewN ?_ _) | (with_reducible refine Kd.C_drew ?_) | exact HR248.out)) hb); have n3_ := Aside0.mk (below_step (by repeat (first | (with_reducible first | exact HB.out | apply below_alloc | apply pw_below_drewN | apply below_drew1) | exact HB.out)) hb); clear HO_13; clear HO_16; clear HR248; clear HB; have HO_13 := n0_; have HO_16 := n1_; have HR248 := n2_; have HB := n3_; clear n0_ n1_ n2_ n3_; (try clear hb); (try clear hb2); (try clear hk); (try clear hi)))
                              go_ret
                              exact ⟨by first | rfl | (simp [errW_none, errW_some] <;> rfl) | (simp [*, errW_none, errW_some] <;> rfl), by repeat (first | (with_reducible first | exact HB.out | apply below_alloc | apply pw_below_drewN | apply below_drew1) | exact HB.out)⟩
                            · replace c34 := Bool.eq_false_iff.mpr c34
                              subst c34
                              have H1 : (some false) = some r := by rw [if_neg (show ¬ (false = true) by decide)] at H; exact H
                              clear H
                              have H := H1
                              clear H1
                              obtain rfl := Option.some.inj H
                              obtain ⟨Ao40, co40, eo40⟩ := Kd.R_slice HO_16.out
                              subst eo40
                              have q39 : ((t236.length : Int) : Int) ≤ ((t241.length : Int) : Int) := of_decide_eq_true (by first | (with_reducible assumption) | assumption)
                              obtain ⟨i039, hi039, _, hsz39, _⟩ := info_parts info3
                              have hroom39 : t241.length ≤ co40 := (Kd.R_reads' HO_16.out).2.1
                              have hC39 : Kd.C (Kd.int .i64) _ Ao40 t241.length t241 := (Kd.R_reads' HO_16.out).2.2
                              have hcut39 := cut_to (P := Try.prog) 37 3 .i64 Try.underlying37 hi039 Ao40 t241.length co40 (t236.length : Int) (of_decide_eq_true (by first | (with_reducible assumption) | assumption)) q39 hroom39
                              have hr39 := Kd.C_take (m := ((t236.length : Int) : Int).toNat) hC39 (by omega)
                              have hy39 : y245.length = ((t236.length : Int) : Int).toNat := (by rw [Ny245.out, List.length_take]; omega)
                              rw [← Ny245.out] at hr39
                              rw [← hy39] at hcut39
                              have HR248 := Aside0.mk hr39
                              have HC248 := Aside0.mk (show y245.length ≤ co40 from by omega)
                              clear hr39 hC39 hroom39 hi039 hsz39
                              have KY39 := Aside0.mk hy39
                              clear hy39
                              have KL39 := Aside0.mk (show ((t236.length : Int) : Int).toNat ≤ t241.length from by omega)
                              replace q39 := eq_true q39
                              go_wp2_with (first | ((with_reducible refine gate_callee (f := 27) rfl ?_); refine goesL_ (some 89) rfl rfl Try.func27 (by kernel_rfl) rfl #[.slice Ao40 y245.length co40, .slice Ao20 t236.length co20] rfl (by (try simp only [List.map_toArray, List.map_cons, List.map_nil]); first | done | rfl | (simp only [List.length_drop, List.length_take]; rfl)) ?_; (with_reducible refine (pomadelaw06_same.calls kj25 _ _ y245 _ _ t236 false _ ?side1 ?side2 ?side3 ?side4 A33.out).mono ?_); (case side1 => repeat (first | exact (by repeat (first | (with_reducible exact HR248.out) | (with_reducible refine Kd.C_alloc ?_ _) | (with_reducible refine Kd.C_drewN ?_ _) | (with_reducible refine Kd.C_drew ?_) | exact HR248.out)) | (with_reducible refine Kd.C_alloc ?_ _) | (with_reducible refine Kd.C_drewN ?_ _) | (with_reducible refine Kd.C_drew ?_))); (case side2 => exact HC248.out); (case side3 => repeat (first | exact (Kd.R_reads' HO_13.out).2.2 | (with_reducible refine Kd.C_alloc ?_ _) | (with_reducible refine Kd.C_drewN ?_ _) | (with_reducible refine Kd.C_drew ?_))); (case side4 => exact (Kd.R_reads' HO_13.out).2.1); rintro e w' ⟨rfl, ⟨nd, rfl⟩⟩; refine ⟨_, rfl, ?_⟩))
                              go_ret
                              exact ⟨by first | rfl | (simp [errW_none, errW_some] <;> rfl) | (simp [*, errW_none, errW_some] <;> rfl), by repeat (first | (with_reducible first | exact HB.out | apply below_alloc | apply pw_below_drewN | apply below_drew1) | exact HB.out)⟩
                          · rw [if_neg c32] at H
                            exact absurd H (by simp)
                        · rw [if_neg c31] at H
                          exact absurd H (by simp)

/-- THE ONE PURE STATEMENT of pomadelaw06_PoleBegins: yours. -/
def pomadelaw06_PoleBegins.Pure : Prop := ∀ (a0 : Int) (a1 : Int) (a2 : Int) (a3 : Int), (Lit.int .u8 a0).wf = true → (Lit.int .u8 a1).wf = true → (Lit.int .u16 a2).wf = true → (Lit.int .u8 a3).wf = true → ∃ k, pomadelaw06_PoleBegins.f k a0 a1 a2 a3 = some true
theorem pomadelaw06_PoleBegins.walk (P : pomadelaw06_PoleBegins.Pure) (a0 : Int) (a1 : Int) (a2 : Int) (a3 : Int) (w : World) (w0 : (Lit.int .u8 a0).wf = true) (w1 : (Lit.int .u8 a1).wf = true) (w2 : (Lit.int .u16 a2).wf = true) (w3 : (Lit.int .u8 a3).wf = true) :
    Calls Try.prog 12 #[.int .u8 a0, .int .u8 a1, .int .u16 a2, .int .u8 a3] w fun e w' => e = .returned (.bool true) ∧ Below w.heap.size w w' := by
  obtain ⟨k, h⟩ := P a0 a1 a2 a3 w0 w1 w2 w3
  refine (pomadelaw06_PoleBegins.calls k a0 a1 a2 a3 true w h).mono ?_
  rintro e w' ⟨rfl, hd⟩
  exact ⟨rfl, hd⟩

/-! ### pomaderef06_Steps: function 35 -/
mutual
def pomaderef06_Steps.j0 : Nat → Int → Int → Bool → Option (Int × Int)
  | 0, _, _, _ => none
  | k + 1, x0, x1, x14 => if x14 = true then (some (0, 2)) else (if x1 < 0 then (pomaderef06_Steps.j1 k x0 x1 true) else (pomaderef06_Steps.j1 k x0 x1 (decide (x1 ≥ x0))))
def pomaderef06_Steps.j1 : Nat → Int → Int → Bool → Option (Int × Int)
  | 0, _, _, _ => none
  | k + 1, x0, x1, x21 => if x21 = true then (some (0, 4)) else (pomaderef06_Steps.l0 k x0 x1 1)
def pomaderef06_Steps.l0 : Nat → Int → Int → Int → Option (Int × Int)
  | 0, _, _, _ => none
  | k + 1, x0, x1, x6 => if x6 ≤ 30000 then (pomaderef06_Steps.l1 k x0 x1 x6 0 2) else (some (0, 10))
def pomaderef06_Steps.l1 : Nat → Int → Int → Int → Int → Int → Option (Int × Int)
  | 0, _, _, _, _, _ => none
  | k + 1, x0, x1, x6, x7, x8 => if x8 ≤ x0 then (if x8 = 0 then (none) else (pomaderef06_Steps.l1 k x0 x1 x6 (Int.tmod (wrap64 (x7 + x6)) x8) (wrap64 (x8 + 1)))) else (if x7 = x1 then (some (x6, 0)) else (pomaderef06_Steps.l0 k x0 x1 (wrap64 (x6 + 1))))
end
def pomaderef06_Steps.f (k : Nat) (a0 : Int) (a1 : Int) : Option (Int × Int) := if a0 < 1 then (pomaderef06_Steps.j0 k a0 a1 true) else (pomaderef06_Steps.j0 k a0 a1 (decide (a0 > 200)))
theorem pomaderef06_Steps.mono_l : ∀ k, (∀ y0 y1 y2, LeO (pomaderef06_Steps.j0 k y0 y1 y2) (pomaderef06_Steps.j0 (k + 1) y0 y1 y2)) ∧ (∀ y0 y1 y2, LeO (pomaderef06_Steps.j1 k y0 y1 y2) (pomaderef06_Steps.j1 (k + 1) y0 y1 y2)) ∧ (∀ y0 y1 y2, LeO (pomaderef06_Steps.l0 k y0 y1 y2) (pomaderef06_Steps.l0 (k + 1) y0 y1 y2)) ∧ (∀ y0 y1 y2 y3 y4, LeO (pomaderef06_Steps.l1 k y0 y1 y2 y3 y4) (pomaderef06_Steps.l1 (k + 1) y0 y1 y2 y3 y4))
  | 0 => ⟨fun _ _ _ r h => by simp [pomaderef06_Steps.j0] at h, fun _ _ _ r h => by simp [pomaderef06_Steps.j1] at h, fun _ _ _ r h => by simp [pomaderef06_Steps.l0] at h, fun _ _ _ _ _ r h => by simp [pomaderef06_Steps.l1] at h⟩
  | k + 1 => by
    obtain ⟨ih0, ih1, ih2, ih3⟩ := pomaderef06_Steps.mono_l k
    refine ⟨?_, ?_, ?_, ?_⟩
    · intro y0 y1 y2
      unfold pomaderef06_Steps.j0
      repeat' first
      | (with_reducible exact ih0 _ _ _)
      | (with_reducible exact ih1 _ _ _)
      | (with_reducible exact ih2 _ _ _)
      | (with_reducible exact ih3 _ _ _ _ _)
      | (with_reducible exact LeO.refl _)
      | (with_reducible exact LeO.none _)
      | (with_reducible refine LeO.ite ?_ ?_)
      | (with_reducible refine LeO.bind ?_ (fun _ => ?_))
      | exact ih0 _ _ _
      | exact ih1 _ _ _
      | exact ih2 _ _ _
      | exact ih3 _ _ _ _ _
      | exact LeO.none _
      | refine LeO.ite ?_ ?_
      | refine LeO.bind ?_ (fun _ => ?_)
    · intro y0 y1 y2
      unfold pomaderef06_Steps.j1
      repeat' first
      | (with_reducible exact ih0 _ _ _)
      | (with_reducible exact ih1 _ _ _)
      | (with_reducible exact ih2 _ _ _)
      | (with_reducible exact ih3 _ _ _ _ _)
      | (with_reducible exact LeO.refl _)
      | (with_reducible exact LeO.none _)
      | (with_reducible refine LeO.ite ?_ ?_)
      | (with_reducible refine LeO.bind ?_ (fun _ => ?_))
      | exact ih0 _ _ _
      | exact ih1 _ _ _
      | exact ih2 _ _ _
      | exact ih3 _ _ _ _ _
      | exact LeO.none _
      | refine LeO.ite ?_ ?_
      | refine LeO.bind ?_ (fun _ => ?_)
    · intro y0 y1 y2
      unfold pomaderef06_Steps.l0
      repeat' first
      | (with_reducible exact ih0 _ _ _)
      | (with_reducible exact ih1 _ _ _)
      | (with_reducible exact ih2 _ _ _)
      | (with_reducible exact ih3 _ _ _ _ _)
      | (with_reducible exact LeO.refl _)
      | (with_reducible exact LeO.none _)
      | (with_reducible refine LeO.ite ?_ ?_)
      | (with_reducible refine LeO.bind ?_ (fun _ => ?_))
      | exact ih0 _ _ _
      | exact ih1 _ _ _
      | exact ih2 _ _ _
      | exact ih3 _ _ _ _ _
      | exact LeO.none _
      | refine LeO.ite ?_ ?_
      | refine LeO.bind ?_ (fun _ => ?_)
    · intro y0 y1 y2 y3 y4
      unfold pomaderef06_Steps.l1
      repeat' first
      | (with_reducible exact ih0 _ _ _)
      | (with_reducible exact ih1 _ _ _)
      | (with_reducible exact ih2 _ _ _)
      | (with_reducible exact ih3 _ _ _ _ _)
      | (with_reducible exact LeO.refl _)
      | (with_reducible exact LeO.none _)
      | (with_reducible refine LeO.ite ?_ ?_)
      | (with_reducible refine LeO.bind ?_ (fun _ => ?_))
      | exact ih0 _ _ _
      | exact ih1 _ _ _
      | exact ih2 _ _ _
      | exact ih3 _ _ _ _ _
      | exact LeO.none _
      | refine LeO.ite ?_ ?_
      | refine LeO.bind ?_ (fun _ => ?_)
theorem pomaderef06_Steps.mono : ∀ a0 a1 k, LeO (pomaderef06_Steps.f k a0 a1) (pomaderef06_Steps.f (k + 1) a0 a1) := by
  intro a0 a1 k
  obtain ⟨ih0, ih1, ih2, ih3⟩ := pomaderef06_Steps.mono_l k
  unfold pomaderef06_Steps.f
  repeat' first
      | (with_reducible exact ih0 _ _ _)
      | (with_reducible exact ih1 _ _ _)
      | (with_reducible exact ih2 _ _ _)
      | (with_reducible exact ih3 _ _ _ _ _)
      | (with_reducible exact LeO.refl _)
      | (with_reducible exact LeO.none _)
      | (with_reducible refine LeO.ite ?_ ?_)
      | (with_reducible refine LeO.bind ?_ (fun _ => ?_))
      | exact ih0 _ _ _
      | exact ih1 _ _ _
      | exact ih2 _ _ _
      | exact ih3 _ _ _ _ _
      | exact LeO.none _
      | refine LeO.ite ?_ ?_
      | refine LeO.bind ?_ (fun _ => ?_)
set_option maxHeartbeats 8000000 in
set_option maxRecDepth 100000 in
theorem pomaderef06_Steps.calls (k : Nat) (a0 : Int) (a1 : Int) (r1 : Int) (r2 : Int) (w : World) (h : pomaderef06_Steps.f k a0 a1 = some (r1, r2)) :
    Calls Try.prog 35 #[.int .i64 a0, .int .i64 a1] w fun e w' => e = .returned (.tuple #[.int .i64 r1, .int .i64 r2]) ∧ Drawn0 w w' := by
  have H : (if a0 < 1 then (pomaderef06_Steps.j0 k a0 a1 true) else (pomaderef06_Steps.j0 k a0 a1 (decide (a0 > 200)))) = some (r1, r2) := h
  clear h
  have HC3 := Aside0.mk H
  clear H
  go_enter Try.func35, Try.ntmps35
  go_upto_region 1 with (fail)
  go_cut [14] (fun v14 wc => ∃ (kq : Nat) (x14_2 : Bool), v14 = .bool x14_2 ∧ Aside0 (pomaderef06_Steps.j0 kq a0 a1 x14_2 = some (r1, r2)) ∧ Aside0 (kq ≤ k) ∧ Drawn0 w wc)
  case first =>
    have H := HC3.out
    clear HC3
    by_cases c4 : a0 < 1
    · rw [if_pos c4] at H
      have c4b0 : decide (a0 < 1) = true := decide_eq_true c4
      clear c4
      (first | rw [c4b0] | (simp only [i64_w, i32_w]; rw [c4b0]) | skip)
      have H' := Aside0.mk H
      clear H
      go_wp2
      go_meet
      case rel => exact ⟨_, (true), (by first | rfl | (simp; done) | (simp [*]; done)), H', ⟨by first | omega | exact Nat.le_refl _⟩, by repeat (first | exact Drawn0.refl _ | apply Drawn0.step)⟩
    · rw [if_neg c4] at H
      have c4b0 : decide (a0 < 1) = false := decide_eq_false c4
      clear c4
      (first | rw [c4b0] | (simp only [i64_w, i32_w]; rw [c4b0]) | skip)
      have H' := Aside0.mk H
      clear H
      go_wp2
      go_meet
      case rel => exact ⟨_, (decide (a0 > 200)), (by first | rfl | (simp; done) | (simp [*]; done)), H', ⟨by first | omega | exact Nat.le_refl _⟩, by repeat (first | exact Drawn0.refl _ | apply Drawn0.step)⟩
  case rest =>
    clear HC3
    try clear p2
    try clear c3
    try clear c4
    try clear c4b0
    obtain ⟨kq, x14_2, rfl, HA, HJ2, ⟨mc2, rfl⟩⟩ := hcut
    cases kq with
    | zero => exact absurd HA.out (by simp [pomaderef06_Steps.j0])
    | succ kj2 =>
      have H := HA.out
      clear HA
      simp only [pomaderef06_Steps.j0] at H
      by_cases c5 : x14_2 = true
      · subst c5
        have H1 : (some (0, 2)) = some (r1, r2) := by rw [if_pos rfl] at H; exact H
        clear H
        have H := H1
        clear H1
        simp only [Option.some.injEq, Prod.mk.injEq] at H
        obtain ⟨rfl, rfl⟩ := H
        go_wp2
        go_ret2
        exact ⟨by first | rfl | (simp; done) | (simp [*]; done), by repeat (first | exact Drawn0.refl _ | apply Drawn0.step)⟩
      · replace c5 := Bool.eq_false_iff.mpr c5
        subst c5
        have H1 : (if a1 < 0 then (pomaderef06_Steps.j1 kj2 a0 a1 true) else (pomaderef06_Steps.j1 kj2 a0 a1 (decide (a1 ≥ a0)))) = some (r1, r2) := by rw [if_neg (show ¬ (false = true) by decide)] at H; exact H
        clear H
        have H := H1
        clear H1
        have HC6 := Aside0.mk H
        clear H
        go_upto_region 3 with (fail)
        go_cut [21] (fun v21 wc => ∃ (kq : Nat) (x21_5 : Bool), v21 = .bool x21_5 ∧ Aside0 (pomaderef06_Steps.j1 kq a0 a1 x21_5 = some (r1, r2)) ∧ Aside0 (kq ≤ kj2) ∧ Drawn0 w wc)
        case first =>
          have H := HC6.out
          clear HC6
          by_cases c7 : a1 < 0
          · rw [if_pos c7] at H
            have c7b0 : decide (a1 < 0) = true := decide_eq_true c7
            clear c7
            (first | rw [c7b0] | (simp only [i64_w, i32_w]; rw [c7b0]) | skip)
            have H' := Aside0.mk H
            clear H
            go_wp2
            go_meet
            case rel => exact ⟨_, (true), (by first | rfl | (simp; done) | (simp [*]; done)), H', ⟨by have := HJ2.out; first | omega | exact Nat.le_refl _⟩, by repeat (first | exact Drawn0.refl _ | apply Drawn0.step)⟩
          · rw [if_neg c7] at H
            have c7b0 : decide (a1 < 0) = false := decide_eq_false c7
            clear c7
            (first | rw [c7b0] | (simp only [i64_w, i32_w]; rw [c7b0]) | skip)
            have H' := Aside0.mk H
            clear H
            go_wp2
            go_meet
            case rel => exact ⟨_, (decide (a1 ≥ a0)), (by first | rfl | (simp; done) | (simp [*]; done)), H', ⟨by have := HJ2.out; first | omega | exact Nat.le_refl _⟩, by repeat (first | exact Drawn0.refl _ | apply Drawn0.step)⟩
        case rest =>
          clear HC6
          try clear c2
          try clear p2
          try clear c3
          try clear c4
          try clear c4b0
          try clear c5
          try clear c7
          try clear c7b0
          try clear p2
          obtain ⟨kq, x21_5, rfl, HA, HJ5, ⟨mc5, rfl⟩⟩ := hcut
          cases kq with
          | zero => exact absurd HA.out (by simp [pomaderef06_Steps.j1])
          | succ kj5 =>
            have H := HA.out
            clear HA
            simp only [pomaderef06_Steps.j1] at H
            by_cases c8 : x21_5 = true
            · subst c8
              have H1 : (some (0, 4)) = some (r1, r2) := by rw [if_pos rfl] at H; exact H
              clear H
              have H := H1
              clear H1
              simp only [Option.some.injEq, Prod.mk.injEq] at H
              obtain ⟨rfl, rfl⟩ := H
              go_wp2
              go_ret2
              exact ⟨by first | rfl | (simp; done) | (simp [*]; done), by repeat (first | exact Drawn0.refl _ | apply Drawn0.step)⟩
            · replace c8 := Bool.eq_false_iff.mpr c8
              subst c8
              have H1 : (pomaderef06_Steps.l0 kj5 a0 a1 1) = some (r1, r2) := by rw [if_neg (show ¬ (false = true) by decide)] at H; exact H
              clear H
              have H := H1
              clear H1
              have H' := Aside0.mk H
              clear H
              go_wp2
              go_loopg [6] kj5 (fun kq v6 w' => ∃ (x6_3 : Int), v6 = .int .i64 x6_3 ∧ Aside0 (pomaderef06_Steps.l0 kq a0 a1 x6_3 = some (r1, r2)) ∧ Aside0 (kq ≤ kj5) ∧ Drawn0 w w')
              case atStart => exact ⟨(1), (by first | rfl | (simp; done) | (simp [*]; done)), H', ⟨Nat.le_refl _⟩, by repeat (first | exact Drawn0.refl _ | apply Drawn0.step)⟩
              case round =>
                clear H'
                try clear c2
                try clear p2
                try clear c3
                try clear c4
                try clear c4b0
                try clear c5
                try clear c7
                try clear c7b0
                try clear c8
                try clear p2
                obtain ⟨x6_3, rfl, HA, HK3, ⟨m3, rfl⟩⟩ := hrel
                cases gk with
                | zero => exact absurd HA.out (by simp [pomaderef06_Steps.l0])
                | succ k3 =>
                  have H := HA.out
                  clear HA
                  simp only [pomaderef06_Steps.l0] at H
                  by_cases c9 : x6_3 ≤ 30000
                  · rw [if_pos c9] at H
                    have c9b0 : decide (x6_3 ≤ 30000) = true := decide_eq_true c9
                    clear c9
                    have H' := Aside0.mk H
                    clear H
                    go_wp2
                    go_loopg [7, 8] k3 (fun kq v7 v8 w' => ∃ (x7_4 : Int) (x8_4 : Int), v7 = .int .i64 x7_4 ∧ v8 = .int .i64 x8_4 ∧ Aside0 (pomaderef06_Steps.l1 kq a0 a1 x6_3 x7_4 x8_4 = some (r1, r2)) ∧ Aside0 (kq ≤ k3) ∧ Drawn0 w w')
                    case atStart => exact ⟨(0), (2), (by first | rfl | (simp; done) | (simp [*]; done)), (by first | rfl | (simp; done) | (simp [*]; done)), H', ⟨Nat.le_refl _⟩, by repeat (first | exact Drawn0.refl _ | apply Drawn0.step)⟩
                    case round =>
                      clear H'
                      try clear c2
                      try clear p2
                      try clear c3
                      try clear c4
                      try clear c4b0
                      try clear c5
                      try clear c7
                      try clear c7b0
                      try clear c8
                      try clear c9
                      try clear c9b0
                      try clear p2
                      obtain ⟨x7_4, x8_4, rfl, rfl, HA, HK4, ⟨m4, rfl⟩⟩ := hrel
                      cases gk with
                      | zero => exact absurd HA.out (by simp [pomaderef06_Steps.l1])
                      | succ k4 =>
                        have H := HA.out
                        clear HA
                        simp only [pomaderef06_Steps.l1] at H
                        by_cases c10 : x8_4 ≤ a0
                        · rw [if_pos c10] at H
                          have c10b0 : decide (x8_4 ≤ a0) = true := decide_eq_true c10
                          clear c10
                          by_cases c11 : x8_4 = 0
                          · rw [if_pos c11] at H
                            exact absurd H (by simp)
                          · rw [if_neg c11] at H
                            have c11b0 : (x8_4 == 0) = false := beq_eq_false_iff_ne.mpr c11
                            have c11b1 : (x8_4 != 0) = true := bne_iff_ne.mpr c11
                            have H' := Aside0.mk H
                            clear H
                            go_wp2
                            go_roundg k4
                            case measure => have := HJ2.out; have := HJ5.out; have := HK3.out; have := HK4.out; omega
                            case rel => exact ⟨(Int.tmod (wrap64 (x7_4 + x6_3)) x8_4), (wrap64 (x8_4 + 1)), (by first | rfl | (simp; done) | (simp [*]; done)), (by first | rfl | (simp; done) | (simp [*]; done)), H', ⟨by have := HJ2.out; have := HJ5.out; have := HK3.out; have := HK4.out; omega⟩, by repeat (first | exact Drawn0.refl _ | apply Drawn0.step)⟩
                        · rw [if_neg c10] at H
                          have c10b0 : decide (x8_4 ≤ a0) = false := decide_eq_false c10
                          clear c10
                          by_cases c12 : x7_4 = a1
                          · rw [if_pos c12] at H
                            have c12b0 : (x7_4 == a1) = true := beq_iff_eq.mpr c12
                            have c12b1 : (x7_4 != a1) = false := bne_eq_false_iff_eq.mpr c12
                            clear c12
                            simp only [Option.some.injEq, Prod.mk.injEq] at H
                            obtain ⟨rfl, rfl⟩ := H
                            go_wp2
                            go_ret2
                            exact ⟨by first | rfl | (simp; done) | (simp [*]; done), by repeat (first | exact Drawn0.refl _ | apply Drawn0.step)⟩
                          · rw [if_neg c12] at H
                            have c12b0 : (x7_4 == a1) = false := beq_eq_false_iff_ne.mpr c12
                            have c12b1 : (x7_4 != a1) = true := bne_iff_ne.mpr c12
                            have H' := Aside0.mk H
                            clear H
                            go_wp2
                            go_roundg k4
                            case measure => have := HJ2.out; have := HJ5.out; have := HK3.out; have := HK4.out; omega
                            case rel => exact ⟨(wrap64 (x6_3 + 1)), (by first | rfl | (simp; done) | (simp [*]; done)), H', ⟨by have := HJ2.out; have := HJ5.out; have := HK3.out; have := HK4.out; omega⟩, by repeat (first | exact Drawn0.refl _ | apply Drawn0.step)⟩
                  · rw [if_neg c9] at H
                    have c9b0 : decide (x6_3 ≤ 30000) = false := decide_eq_false c9
                    clear c9
                    simp only [Option.some.injEq, Prod.mk.injEq] at H
                    obtain ⟨rfl, rfl⟩ := H
                    go_wp2
                    go_ret2
                    exact ⟨by first | rfl | (simp; done) | (simp [*]; done), by repeat (first | exact Drawn0.refl _ | apply Drawn0.step)⟩

end Go.Proofs.Ytndpnlpidphflaa.Print
