-- Written by a program of this session (wip/tools/hprint.py over the kit's print.py); Lean checks it.
import Derived.Test.YtndpnlpidphflaaPrint0
import Derived.Test.YtndpnlpidphflaaPrint1
import Derived.Test.YtndpnlpidphflaaPrint2
namespace Go.Proofs.Ytndpnlpidphflaa.Print
open Go.RowKit Go.Proofs.Ytndpnlpidphflaa.Hand Go.Proofs.YtndpnlpidphflaaW.PrintWords Go.Proofs.YtndpnlpidphflaaW.PrintLast Go.Proofs.YtndpnlpidphflaaW.PrintMore
attribute [local go_sem] max2_int min2_int max_two min_two max_three min_three max_four min_four   -- for this text's walks alone
set_option linter.unusedVariables false
set_option linter.unusedSimpArgs false

/-! ### pomadelaw06_PoleTwo: function 6 -/
mutual
def pomadelaw06_PoleTwo.l0 : Nat → Int → Int → Int → Int → Int → Option (Bool)
  | 0, _, _, _, _, _ => none
  | k + 1, x0, x3, x4, x5, x6 => if x6 ≤ (wrap64 (Int.tdiv x3 2)) then (pomadelaw06_PoleTwo.l0 k x0 x3 x4 x5 (wrap64 (x6 * 2))) else (if x5 = 0 then (pomadelaw06_PoleTwo.j1 k x0 (x4 != (wrap64 (2 * (wrap64 (x3 - x6)))))) else (pomadelaw06_PoleTwo.j1 k x0 true))
def pomadelaw06_PoleTwo.j1 : Nat → Int → Bool → Option (Bool)
  | 0, _, _ => none
  | k + 1, x0, x35 => if x35 = true then (some false) else ((pole_Halves.f k (wrap64 (1 + (wrap64 (Int.tmod x0 1125899906842624))))).bind fun bt163 => ((pole_Last.f k (wrap64 (1 + (wrap64 (Int.tmod x0 1125899906842624)))) 2).bind fun bt165 => (if bt163.2 = 0 then (if bt165.2 = 0 then (if bt163.1 = bt165.1 then ((pomadelaw06_alive.f k).bind fun t167 => (some t167)) else (some false)) else (some false)) else (some false))))
end
def pomadelaw06_PoleTwo.f (k : Nat) (a0 : Int) : Option (Bool) := (pole_Halves.f k (wrap64 (1 + (wrap64 (Int.tmod a0 1152921504606846976))))).bind fun bt161 => (pomadelaw06_PoleTwo.l0 k a0 (wrap64 (1 + (wrap64 (Int.tmod a0 1152921504606846976)))) bt161.1 bt161.2 1)
theorem pomadelaw06_PoleTwo.mono_l : ∀ k, (∀ y0 y1 y2 y3 y4, LeO (pomadelaw06_PoleTwo.l0 k y0 y1 y2 y3 y4) (pomadelaw06_PoleTwo.l0 (k + 1) y0 y1 y2 y3 y4)) ∧ (∀ y0 y1, LeO (pomadelaw06_PoleTwo.j1 k y0 y1) (pomadelaw06_PoleTwo.j1 (k + 1) y0 y1))
  | 0 => ⟨fun _ _ _ _ _ r h => by simp [pomadelaw06_PoleTwo.l0] at h, fun _ _ r h => by simp [pomadelaw06_PoleTwo.j1] at h⟩
  | k + 1 => by
    obtain ⟨ih0, ih1⟩ := pomadelaw06_PoleTwo.mono_l k
    refine ⟨?_, ?_⟩
    · intro y0 y1 y2 y3 y4
      unfold pomadelaw06_PoleTwo.l0
      repeat' first
      | (with_reducible exact ih0 _ _ _ _ _)
      | (with_reducible exact ih1 _ _)
      | (with_reducible exact pole_Halves.mono _ _)
      | (with_reducible exact pole_Last.mono _ _ _)
      | (with_reducible exact pomadelaw06_alive.mono _)
      | (with_reducible exact LeO.refl _)
      | (with_reducible exact LeO.none _)
      | (with_reducible refine LeO.ite ?_ ?_)
      | (with_reducible refine LeO.bind ?_ (fun _ => ?_))
      | exact ih0 _ _ _ _ _
      | exact ih1 _ _
      | exact pole_Halves.mono _ _
      | exact pole_Last.mono _ _ _
      | exact pomadelaw06_alive.mono _
      | exact LeO.none _
      | refine LeO.ite ?_ ?_
      | refine LeO.bind ?_ (fun _ => ?_)
    · intro y0 y1
      unfold pomadelaw06_PoleTwo.j1
      repeat' first
      | (with_reducible exact ih0 _ _ _ _ _)
      | (with_reducible exact ih1 _ _)
      | (with_reducible exact pole_Halves.mono _ _)
      | (with_reducible exact pole_Last.mono _ _ _)
      | (with_reducible exact pomadelaw06_alive.mono _)
      | (with_reducible exact LeO.refl _)
      | (with_reducible exact LeO.none _)
      | (with_reducible refine LeO.ite ?_ ?_)
      | (with_reducible refine LeO.bind ?_ (fun _ => ?_))
      | exact ih0 _ _ _ _ _
      | exact ih1 _ _
      | exact pole_Halves.mono _ _
      | exact pole_Last.mono _ _ _
      | exact pomadelaw06_alive.mono _
      | exact LeO.none _
      | refine LeO.ite ?_ ?_
      | refine LeO.bind ?_ (fun _ => ?_)
theorem pomadelaw06_PoleTwo.mono : ∀ a0 k, LeO (pomadelaw06_PoleTwo.f k a0) (pomadelaw06_PoleTwo.f (k + 1) a0) := by
  intro a0 k
  obtain ⟨ih0, ih1⟩ := pomadelaw06_PoleTwo.mono_l k
  unfold pomadelaw06_PoleTwo.f
  repeat' first
      | (with_reducible exact ih0 _ _ _ _ _)
      | (with_reducible exact ih1 _ _)
      | (with_reducible exact pole_Halves.mono _ _)
      | (with_reducible exact pole_Last.mono _ _ _)
      | (with_reducible exact pomadelaw06_alive.mono _)
      | (with_reducible exact LeO.refl _)
      | (with_reducible exact LeO.none _)
      | (with_reducible refine LeO.ite ?_ ?_)
      | (with_reducible refine LeO.bind ?_ (fun _ => ?_))
      | exact ih0 _ _ _ _ _
      | exact ih1 _ _
      | exact pole_Halves.mono _ _
      | exact pole_Last.mono _ _ _
      | exact pomadelaw06_alive.mono _
      | exact LeO.none _
      | refine LeO.ite ?_ ?_
      | refine LeO.bind ?_ (fun _ => ?_)
set_option maxHeartbeats 8000000 in
set_option maxRecDepth 100000 in
theorem pomadelaw06_PoleTwo.calls (k : Nat) (a0 : Int) (r : Bool) (w : World) (h : pomadelaw06_PoleTwo.f k a0 = some r) :
    Calls Try.prog 6 #[.int .u64 a0] w fun e w' => e = .returned (.bool r) ∧ Below w.heap.size w w' := by
  have HB := Aside0.mk (Below.refl w.heap.size w)
  have H : ((pole_Halves.f k (wrap64 (1 + (wrap64 (Int.tmod a0 1152921504606846976))))).bind fun bt161 => (pomadelaw06_PoleTwo.l0 k a0 (wrap64 (1 + (wrap64 (Int.tmod a0 1152921504606846976)))) bt161.1 bt161.2 1)) = some r := h
  clear h
  replace H := Option.bind_eq_some_iff.mp H
  obtain ⟨⟨t161, t162⟩, A20, H⟩ := H
  replace H : (pomadelaw06_PoleTwo.l0 k a0 (wrap64 (1 + (wrap64 (Int.tmod a0 1152921504606846976)))) t161 t162 1) = some r := H
  have A2 := Aside0.mk A20
  clear A20
  have H' := Aside0.mk H
  clear H
  go_enter Try.func6, Try.ntmps6
  go_wp2_with (first | ((with_reducible refine gate_callee (f := 21) rfl ?_); refine goesL_ (some 17) rfl rfl Try.func21 (by kernel_rfl) rfl #[.int .i64 (wrap64 (1 + (wrap64 (Int.tmod a0 1152921504606846976))))] rfl (by (try simp only [List.map_toArray, List.map_cons, List.map_nil]); first | done | rfl | (simp only [List.length_drop, List.length_take]; rfl)) ?_; (with_reducible refine (pole_Halves.calls k (wrap64 (1 + (wrap64 (Int.tmod a0 1152921504606846976)))) t161 t162 _ A2.out).mono ?_); rintro e w' ⟨rfl, ⟨nd, rfl⟩⟩; refine ⟨_, rfl, ?_⟩))
  go_loopg [6] k (fun kq v6 w' => ∃ (x6_1 : Int), v6 = .int .i64 x6_1 ∧ Aside0 (pomadelaw06_PoleTwo.l0 kq a0 (wrap64 (1 + (wrap64 (Int.tmod a0 1152921504606846976)))) t161 t162 x6_1 = some r) ∧ Aside0 (kq ≤ k) ∧ Aside0 (Below w.heap.size w w'))
  case atStart => exact ⟨(1), (by first | rfl | (simp; done) | (simp [*]; done)), H', ⟨Nat.le_refl _⟩, ⟨by repeat (first | (with_reducible first | exact HB.out | apply below_alloc | apply pw_below_drewN | apply below_drew1) | exact HB.out)⟩⟩
  case round =>
    clear H'
    try clear c2
    try clear p2
    obtain ⟨x6_1, rfl, HA, HK1, HB⟩ := hrel
    cases gk with
    | zero => exact absurd HA.out (by simp [pomadelaw06_PoleTwo.l0])
    | succ k1 =>
      have H := HA.out
      clear HA
      simp only [pomadelaw06_PoleTwo.l0] at H
      by_cases c3 : x6_1 ≤ (wrap64 (Int.tdiv (wrap64 (1 + (wrap64 (Int.tmod a0 1152921504606846976)))) 2))
      · rw [if_pos c3] at H
        have c3b0 : decide (x6_1 ≤ (wrap64 (Int.tdiv (wrap64 (1 + (wrap64 (Int.tmod a0 1152921504606846976)))) 2))) = true := decide_eq_true c3
        clear c3
        have H' := Aside0.mk H
        clear H
        go_wp2
        go_roundg k1
        case measure => have := HK1.out; omega
        case rel => exact ⟨(wrap64 (x6_1 * 2)), (by first | rfl | (simp; done) | (simp [*]; done)), H', ⟨by have := HK1.out; omega⟩, ⟨by repeat (first | (with_reducible first | exact HB.out | apply below_alloc | apply pw_below_drewN | apply below_drew1) | exact HB.out)⟩⟩
      · rw [if_neg c3] at H
        have c3b0 : decide (x6_1 ≤ (wrap64 (Int.tdiv (wrap64 (1 + (wrap64 (Int.tmod a0 1152921504606846976)))) 2))) = false := decide_eq_false c3
        clear c3
        have HC4 := Aside0.mk H
        clear H
        go_upto_region 6 with (fail)
        go_cut [35] (fun v35 wc => ∃ (kq : Nat) (x35_3 : Bool), v35 = .bool x35_3 ∧ Aside0 (pomadelaw06_PoleTwo.j1 kq a0 x35_3 = some r) ∧ Aside0 (kq ≤ k1) ∧ Aside0 (Below w.heap.size w wc))
        case first =>
          have H := HC4.out
          clear HC4
          by_cases c5 : t162 = 0
          · rw [if_pos c5] at H
            have c5b0 : (t162 == 0) = true := beq_iff_eq.mpr c5
            have c5b1 : (t162 != 0) = false := bne_eq_false_iff_eq.mpr c5
            clear c5
            (first | rw [c5b0] | (simp only [i64_w, i32_w]; rw [c5b0]) | skip)
            have H' := Aside0.mk H
            clear H
            go_wp2
            go_meet
            case rel => exact ⟨_, ((t161 != (wrap64 (2 * (wrap64 ((wrap64 (1 + (wrap64 (Int.tmod a0 1152921504606846976)))) - x6_1)))))), (by first | rfl | (simp; done) | (simp [*]; done)), H', ⟨by have := HK1.out; first | omega | exact Nat.le_refl _⟩, ⟨by repeat (first | (with_reducible first | exact HB.out | apply below_alloc | apply pw_below_drewN | apply below_drew1) | exact HB.out)⟩⟩
          · rw [if_neg c5] at H
            have c5b0 : (t162 == 0) = false := beq_eq_false_iff_ne.mpr c5
            have c5b1 : (t162 != 0) = true := bne_iff_ne.mpr c5
            (first | rw [c5b0] | (simp only [i64_w, i32_w]; rw [c5b0]) | skip)
            have H' := Aside0.mk H
            clear H
            go_wp2
            go_meet
            case rel => exact ⟨_, (true), (by first | rfl | (simp; done) | (simp [*]; done)), H', ⟨by have := HK1.out; first | omega | exact Nat.le_refl _⟩, ⟨by repeat (first | (with_reducible first | exact HB.out | apply below_alloc | apply pw_below_drewN | apply below_drew1) | exact HB.out)⟩⟩
        case rest =>
          clear HC4
          try clear c2
          try clear p2
          try clear c3
          try clear c3b0
          try clear c5
          try clear c5b0
          try clear c5b1
          try clear p2
          obtain ⟨kq, x35_3, rfl, HA, HJ3, HB⟩ := hcut
          cases kq with
          | zero => exact absurd HA.out (by simp [pomadelaw06_PoleTwo.j1])
          | succ kj3 =>
            have H := HA.out
            clear HA
            simp only [pomadelaw06_PoleTwo.j1] at H
            by_cases c6 : x35_3 = true
            · subst c6
              have H1 : (some false) = some r := by rw [if_pos rfl] at H; exact H
              clear H
              have H := H1
              clear H1
              obtain rfl := Option.some.inj H
              go_wp2
              go_ret
              exact ⟨by first | rfl | (simp [errW_none, errW_some] <;> rfl) | (simp [*, errW_none, errW_some] <;> rfl), by repeat (first | (with_reducible first | exact HB.out | apply below_alloc | apply pw_below_drewN | apply below_drew1) | exact HB.out)⟩
            · replace c6 := Bool.eq_false_iff.mpr c6
              subst c6
              have H1 : ((pole_Halves.f kj3 (wrap64 (1 + (wrap64 (Int.tmod a0 1125899906842624))))).bind fun bt163 => ((pole_Last.f kj3 (wrap64 (1 + (wrap64 (Int.tmod a0 1125899906842624)))) 2).bind fun bt165 => (if bt163.2 = 0 then (if bt165.2 = 0 then (if bt163.1 = bt165.1 then ((pomadelaw06_alive.f kj3).bind fun t167 => (some t167)) else (some false)) else (some false)) else (some false)))) = some r := by rw [if_neg (show ¬ (false = true) by decide)] at H; exact H
              clear H
              have H := H1
              clear H1
              replace H := Option.bind_eq_some_iff.mp H
              obtain ⟨⟨t163, t164⟩, A70, H⟩ := H
              replace H : ((pole_Last.f kj3 (wrap64 (1 + (wrap64 (Int.tmod a0 1125899906842624)))) 2).bind fun bt165 => (if t164 = 0 then (if bt165.2 = 0 then (if t163 = bt165.1 then ((pomadelaw06_alive.f kj3).bind fun t167 => (some t167)) else (some false)) else (some false)) else (some false))) = some r := H
              have A7 := Aside0.mk A70
              clear A70
              replace H := Option.bind_eq_some_iff.mp H
              obtain ⟨⟨t165, t166⟩, A80, H⟩ := H
              replace H : (if t164 = 0 then (if t166 = 0 then (if t163 = t165 then ((pomadelaw06_alive.f kj3).bind fun t167 => (some t167)) else (some false)) else (some false)) else (some false)) = some r := H
              have A8 := Aside0.mk A80
              clear A80
              by_cases c9 : t164 = 0
              · rw [if_pos c9] at H
                have c9b0 : (t164 == 0) = true := beq_iff_eq.mpr c9
                have c9b1 : (t164 != 0) = false := bne_eq_false_iff_eq.mpr c9
                clear c9
                by_cases c10 : t166 = 0
                · rw [if_pos c10] at H
                  have c10b0 : (t166 == 0) = true := beq_iff_eq.mpr c10
                  have c10b1 : (t166 != 0) = false := bne_eq_false_iff_eq.mpr c10
                  clear c10
                  by_cases c11 : t163 = t165
                  · rw [if_pos c11] at H
                    have c11b0 : (t163 == t165) = true := beq_iff_eq.mpr c11
                    have c11b1 : (t163 != t165) = false := bne_eq_false_iff_eq.mpr c11
                    clear c11
                    replace H := Option.bind_eq_some_iff.mp H
                    obtain ⟨t167, A120, H⟩ := H
                    replace H : (some t167) = some r := H
                    have A12 := Aside0.mk A120
                    clear A120
                    obtain rfl := Option.some.inj H
                    go_wp2_with (first | ((with_reducible refine gate_callee (f := 21) rfl ?_); refine goesL_ (some 42) rfl rfl Try.func21 (by kernel_rfl) rfl #[.int .i64 (wrap64 (1 + (wrap64 (Int.tmod a0 1125899906842624))))] rfl (by (try simp only [List.map_toArray, List.map_cons, List.map_nil]); first | done | rfl | (simp only [List.length_drop, List.length_take]; rfl)) ?_; (with_reducible refine (pole_Halves.calls kj3 (wrap64 (1 + (wrap64 (Int.tmod a0 1125899906842624)))) t163 t164 _ A7.out).mono ?_); rintro e w' ⟨rfl, ⟨nd, rfl⟩⟩; refine ⟨_, rfl, ?_⟩) | ((with_reducible refine gate_callee (f := 16) rfl ?_); refine goesL_ (some 47) rfl rfl Try.func16 (by kernel_rfl) rfl #[.int .i64 (wrap64 (1 + (wrap64 (Int.tmod a0 1125899906842624)))), .int .i64 2] rfl (by (try simp only [List.map_toArray, List.map_cons, List.map_nil]); first | done | rfl | (simp only [List.length_drop, List.length_take]; rfl)) ?_; (with_reducible refine (pole_Last.calls kj3 (wrap64 (1 + (wrap64 (Int.tmod a0 1125899906842624)))) 2 t165 t166 _ A8.out).mono ?_); rintro e w13 ⟨rfl, hb⟩; refine ⟨_, rfl, ?_⟩; have n0_ := Aside0.mk (below_step (by repeat (first | (with_reducible first | exact HB.out | apply below_alloc | apply pw_below_drewN | apply below_drew1) | exact HB.out)) hb); clear HB; have HB := n0_; clear n0_; (try clear hb); (try clear hb2); (try clear hk); (try clear hi)) | (go_at_call 20; (with_reducible refine (pomadelaw06_alive.calls kj3  t167 _ A12.out).mono ?_); rintro e w14 ⟨rfl, hb⟩; have n0_ := Aside0.mk (below_step (by repeat (first | (with_reducible first | exact HB.out | apply below_alloc | apply pw_below_drewN | apply below_drew1) | exact HB.out)) hb); clear HB; have HB := n0_; clear n0_; (try clear hb); (try clear hb2); (try clear hk); (try clear hi)))
                    go_ret
                    exact ⟨by first | rfl | (simp [errW_none, errW_some] <;> rfl) | (simp [*, errW_none, errW_some] <;> rfl), by repeat (first | (with_reducible first | exact HB.out | apply below_alloc | apply pw_below_drewN | apply below_drew1) | exact HB.out)⟩
                  · rw [if_neg c11] at H
                    have c11b0 : (t163 == t165) = false := beq_eq_false_iff_ne.mpr c11
                    have c11b1 : (t163 != t165) = true := bne_iff_ne.mpr c11
                    obtain rfl := Option.some.inj H
                    go_wp2_with (first | ((with_reducible refine gate_callee (f := 21) rfl ?_); refine goesL_ (some 42) rfl rfl Try.func21 (by kernel_rfl) rfl #[.int .i64 (wrap64 (1 + (wrap64 (Int.tmod a0 1125899906842624))))] rfl (by (try simp only [List.map_toArray, List.map_cons, List.map_nil]); first | done | rfl | (simp only [List.length_drop, List.length_take]; rfl)) ?_; (with_reducible refine (pole_Halves.calls kj3 (wrap64 (1 + (wrap64 (Int.tmod a0 1125899906842624)))) t163 t164 _ A7.out).mono ?_); rintro e w' ⟨rfl, ⟨nd, rfl⟩⟩; refine ⟨_, rfl, ?_⟩) | ((with_reducible refine gate_callee (f := 16) rfl ?_); refine goesL_ (some 47) rfl rfl Try.func16 (by kernel_rfl) rfl #[.int .i64 (wrap64 (1 + (wrap64 (Int.tmod a0 1125899906842624)))), .int .i64 2] rfl (by (try simp only [List.map_toArray, List.map_cons, List.map_nil]); first | done | rfl | (simp only [List.length_drop, List.length_take]; rfl)) ?_; (with_reducible refine (pole_Last.calls kj3 (wrap64 (1 + (wrap64 (Int.tmod a0 1125899906842624)))) 2 t165 t166 _ A8.out).mono ?_); rintro e w15 ⟨rfl, hb⟩; refine ⟨_, rfl, ?_⟩; have n0_ := Aside0.mk (below_step (by repeat (first | (with_reducible first | exact HB.out | apply below_alloc | apply pw_below_drewN | apply below_drew1) | exact HB.out)) hb); clear HB; have HB := n0_; clear n0_; (try clear hb); (try clear hb2); (try clear hk); (try clear hi)))
                    go_ret
                    exact ⟨by first | rfl | (simp [errW_none, errW_some] <;> rfl) | (simp [*, errW_none, errW_some] <;> rfl), by repeat (first | (with_reducible first | exact HB.out | apply below_alloc | apply pw_below_drewN | apply below_drew1) | exact HB.out)⟩
                · rw [if_neg c10] at H
                  have c10b0 : (t166 == 0) = false := beq_eq_false_iff_ne.mpr c10
                  have c10b1 : (t166 != 0) = true := bne_iff_ne.mpr c10
                  obtain rfl := Option.some.inj H
                  go_wp2_with (first | ((with_reducible refine gate_callee (f := 21) rfl ?_); refine goesL_ (some 42) rfl rfl Try.func21 (by kernel_rfl) rfl #[.int .i64 (wrap64 (1 + (wrap64 (Int.tmod a0 1125899906842624))))] rfl (by (try simp only [List.map_toArray, List.map_cons, List.map_nil]); first | done | rfl | (simp only [List.length_drop, List.length_take]; rfl)) ?_; (with_reducible refine (pole_Halves.calls kj3 (wrap64 (1 + (wrap64 (Int.tmod a0 1125899906842624)))) t163 t164 _ A7.out).mono ?_); rintro e w' ⟨rfl, ⟨nd, rfl⟩⟩; refine ⟨_, rfl, ?_⟩) | ((with_reducible refine gate_callee (f := 16) rfl ?_); refine goesL_ (some 47) rfl rfl Try.func16 (by kernel_rfl) rfl #[.int .i64 (wrap64 (1 + (wrap64 (Int.tmod a0 1125899906842624)))), .int .i64 2] rfl (by (try simp only [List.map_toArray, List.map_cons, List.map_nil]); first | done | rfl | (simp only [List.length_drop, List.length_take]; rfl)) ?_; (with_reducible refine (pole_Last.calls kj3 (wrap64 (1 + (wrap64 (Int.tmod a0 1125899906842624)))) 2 t165 t166 _ A8.out).mono ?_); rintro e w16 ⟨rfl, hb⟩; refine ⟨_, rfl, ?_⟩; have n0_ := Aside0.mk (below_step (by repeat (first | (with_reducible first | exact HB.out | apply below_alloc | apply pw_below_drewN | apply below_drew1) | exact HB.out)) hb); clear HB; have HB := n0_; clear n0_; (try clear hb); (try clear hb2); (try clear hk); (try clear hi)))
                  go_ret
                  exact ⟨by first | rfl | (simp [errW_none, errW_some] <;> rfl) | (simp [*, errW_none, errW_some] <;> rfl), by repeat (first | (with_reducible first | exact HB.out | apply below_alloc | apply pw_below_drewN | apply below_drew1) | exact HB.out)⟩
              · rw [if_neg c9] at H
                have c9b0 : (t164 == 0) = false := beq_eq_false_iff_ne.mpr c9
                have c9b1 : (t164 != 0) = true := bne_iff_ne.mpr c9
                obtain rfl := Option.some.inj H
                go_wp2_with (first | ((with_reducible refine gate_callee (f := 21) rfl ?_); refine goesL_ (some 42) rfl rfl Try.func21 (by kernel_rfl) rfl #[.int .i64 (wrap64 (1 + (wrap64 (Int.tmod a0 1125899906842624))))] rfl (by (try simp only [List.map_toArray, List.map_cons, List.map_nil]); first | done | rfl | (simp only [List.length_drop, List.length_take]; rfl)) ?_; (with_reducible refine (pole_Halves.calls kj3 (wrap64 (1 + (wrap64 (Int.tmod a0 1125899906842624)))) t163 t164 _ A7.out).mono ?_); rintro e w' ⟨rfl, ⟨nd, rfl⟩⟩; refine ⟨_, rfl, ?_⟩) | ((with_reducible refine gate_callee (f := 16) rfl ?_); refine goesL_ (some 47) rfl rfl Try.func16 (by kernel_rfl) rfl #[.int .i64 (wrap64 (1 + (wrap64 (Int.tmod a0 1125899906842624)))), .int .i64 2] rfl (by (try simp only [List.map_toArray, List.map_cons, List.map_nil]); first | done | rfl | (simp only [List.length_drop, List.length_take]; rfl)) ?_; (with_reducible refine (pole_Last.calls kj3 (wrap64 (1 + (wrap64 (Int.tmod a0 1125899906842624)))) 2 t165 t166 _ A8.out).mono ?_); rintro e w17 ⟨rfl, hb⟩; refine ⟨_, rfl, ?_⟩; have n0_ := Aside0.mk (below_step (by repeat (first | (with_reducible first | exact HB.out | apply below_alloc | apply pw_below_drewN | apply below_drew1) | exact HB.out)) hb); clear HB; have HB := n0_; clear n0_; (try clear hb); (try clear hb2); (try clear hk); (try clear hi)))
                go_ret
                exact ⟨by first | rfl | (simp [errW_none, errW_some] <;> rfl) | (simp [*, errW_none, errW_some] <;> rfl), by repeat (first | (with_reducible first | exact HB.out | apply below_alloc | apply pw_below_drewN | apply below_drew1) | exact HB.out)⟩

/-- THE ONE PURE STATEMENT of pomadelaw06_PoleTwo: yours. -/
def pomadelaw06_PoleTwo.Pure : Prop := ∀ (a0 : Int), (Lit.int .u64 a0).wf = true → ∃ k, pomadelaw06_PoleTwo.f k a0 = some true
theorem pomadelaw06_PoleTwo.walk (P : pomadelaw06_PoleTwo.Pure) (a0 : Int) (w : World) (w0 : (Lit.int .u64 a0).wf = true) :
    Calls Try.prog 6 #[.int .u64 a0] w fun e w' => e = .returned (.bool true) ∧ Below w.heap.size w w' := by
  obtain ⟨k, h⟩ := P a0 w0
  refine (pomadelaw06_PoleTwo.calls k a0 true w h).mono ?_
  rintro e w' ⟨rfl, hd⟩
  exact ⟨rfl, hd⟩

/-! ### pomadelaw06_common: function 25 -/
mutual
def pomadelaw06_common.l0 : Nat → Int → Int → Int → Option (Int)
  | 0, _, _, _ => none
  | k + 1, x0, x3, x4 => if x4 ≤ x0 then (pomadelaw06_common.l1 k x0 x3 x4 x3 x4) else (some x3)
def pomadelaw06_common.l1 : Nat → Int → Int → Int → Int → Int → Option (Int)
  | 0, _, _, _, _, _ => none
  | k + 1, x0, x3, x4, x5, x6 => if x6 > 0 then (if x6 = 0 then (none) else (pomadelaw06_common.l1 k x0 x3 x4 x6 (Int.tmod x5 x6))) else (if x5 = 0 then (none) else (pomadelaw06_common.l0 k x0 (wrap64 ((wrap64 (Int.tdiv x3 x5)) * x4)) (wrap64 (x4 + 1))))
end
def pomadelaw06_common.f (k : Nat) (a0 : Int) : Option (Int) := pomadelaw06_common.l0 k a0 1 2
theorem pomadelaw06_common.mono_l : ∀ k, (∀ y0 y1 y2, LeO (pomadelaw06_common.l0 k y0 y1 y2) (pomadelaw06_common.l0 (k + 1) y0 y1 y2)) ∧ (∀ y0 y1 y2 y3 y4, LeO (pomadelaw06_common.l1 k y0 y1 y2 y3 y4) (pomadelaw06_common.l1 (k + 1) y0 y1 y2 y3 y4))
  | 0 => ⟨fun _ _ _ r h => by simp [pomadelaw06_common.l0] at h, fun _ _ _ _ _ r h => by simp [pomadelaw06_common.l1] at h⟩
  | k + 1 => by
    obtain ⟨ih0, ih1⟩ := pomadelaw06_common.mono_l k
    refine ⟨?_, ?_⟩
    · intro y0 y1 y2
      unfold pomadelaw06_common.l0
      repeat' first
      | (with_reducible exact ih0 _ _ _)
      | (with_reducible exact ih1 _ _ _ _ _)
      | (with_reducible exact LeO.refl _)
      | (with_reducible exact LeO.none _)
      | (with_reducible refine LeO.ite ?_ ?_)
      | (with_reducible refine LeO.bind ?_ (fun _ => ?_))
      | exact ih0 _ _ _
      | exact ih1 _ _ _ _ _
      | exact LeO.none _
      | refine LeO.ite ?_ ?_
      | refine LeO.bind ?_ (fun _ => ?_)
    · intro y0 y1 y2 y3 y4
      unfold pomadelaw06_common.l1
      repeat' first
      | (with_reducible exact ih0 _ _ _)
      | (with_reducible exact ih1 _ _ _ _ _)
      | (with_reducible exact LeO.refl _)
      | (with_reducible exact LeO.none _)
      | (with_reducible refine LeO.ite ?_ ?_)
      | (with_reducible refine LeO.bind ?_ (fun _ => ?_))
      | exact ih0 _ _ _
      | exact ih1 _ _ _ _ _
      | exact LeO.none _
      | refine LeO.ite ?_ ?_
      | refine LeO.bind ?_ (fun _ => ?_)
theorem pomadelaw06_common.mono : ∀ a0 k, LeO (pomadelaw06_common.f k a0) (pomadelaw06_common.f (k + 1) a0) := by
  intro a0 k
  obtain ⟨ih0, ih1⟩ := pomadelaw06_common.mono_l k
  unfold pomadelaw06_common.f
  repeat' first
      | (with_reducible exact ih0 _ _ _)
      | (with_reducible exact ih1 _ _ _ _ _)
      | (with_reducible exact LeO.refl _)
      | (with_reducible exact LeO.none _)
      | (with_reducible refine LeO.ite ?_ ?_)
      | (with_reducible refine LeO.bind ?_ (fun _ => ?_))
      | exact ih0 _ _ _
      | exact ih1 _ _ _ _ _
      | exact LeO.none _
      | refine LeO.ite ?_ ?_
      | refine LeO.bind ?_ (fun _ => ?_)
set_option maxHeartbeats 8000000 in
set_option maxRecDepth 100000 in
theorem pomadelaw06_common.calls (k : Nat) (a0 : Int) (r : Int) (w : World) (h : pomadelaw06_common.f k a0 = some r) :
    Calls Try.prog 25 #[.int .i64 a0] w fun e w' => e = .returned (.int .i64 r) ∧ Drawn0 w w' := by
  have H : (pomadelaw06_common.l0 k a0 1 2) = some r := h
  clear h
  have H' := Aside0.mk H
  clear H
  go_enter Try.func25, Try.ntmps25
  go_wp2
  go_loopg [3, 4] k (fun kq v3 v4 w' => ∃ (x3_1 : Int) (x4_1 : Int), v3 = .int .i64 x3_1 ∧ v4 = .int .i64 x4_1 ∧ Aside0 (pomadelaw06_common.l0 kq a0 x3_1 x4_1 = some r) ∧ Aside0 (kq ≤ k) ∧ Drawn0 w w')
  case atStart => exact ⟨(1), (2), (by first | rfl | (simp; done) | (simp [*]; done)), (by first | rfl | (simp; done) | (simp [*]; done)), H', ⟨Nat.le_refl _⟩, by repeat (first | exact Drawn0.refl _ | apply Drawn0.step)⟩
  case round =>
    clear H'
    obtain ⟨x3_1, x4_1, rfl, rfl, HA, HK1, ⟨m1, rfl⟩⟩ := hrel
    cases gk with
    | zero => exact absurd HA.out (by simp [pomadelaw06_common.l0])
    | succ k1 =>
      have H := HA.out
      clear HA
      simp only [pomadelaw06_common.l0] at H
      by_cases c2 : x4_1 ≤ a0
      · rw [if_pos c2] at H
        have c2b0 : decide (x4_1 ≤ a0) = true := decide_eq_true c2
        clear c2
        have H' := Aside0.mk H
        clear H
        go_wp2
        go_loopg [5, 6] k1 (fun kq v5 v6 w' => ∃ (x5_2 : Int) (x6_2 : Int), v5 = .int .i64 x5_2 ∧ v6 = .int .i64 x6_2 ∧ Aside0 (pomadelaw06_common.l1 kq a0 x3_1 x4_1 x5_2 x6_2 = some r) ∧ Aside0 (kq ≤ k1) ∧ Drawn0 w w')
        case atStart => exact ⟨(x3_1), (x4_1), (by first | rfl | (simp; done) | (simp [*]; done)), (by first | rfl | (simp; done) | (simp [*]; done)), H', ⟨Nat.le_refl _⟩, by repeat (first | exact Drawn0.refl _ | apply Drawn0.step)⟩
        case round =>
          clear H'
          try clear c2
          try clear c2b0
          try clear p2
          obtain ⟨x5_2, x6_2, rfl, rfl, HA, HK2, ⟨m2, rfl⟩⟩ := hrel
          cases gk with
          | zero => exact absurd HA.out (by simp [pomadelaw06_common.l1])
          | succ k2 =>
            have H := HA.out
            clear HA
            simp only [pomadelaw06_common.l1] at H
            by_cases c3 : x6_2 > 0
            · rw [if_pos c3] at H
              have c3b0 : decide (0 < x6_2) = true := decide_eq_true c3
              clear c3
              by_cases c4 : x6_2 = 0
              · rw [if_pos c4] at H
                exact absurd H (by simp)
              · rw [if_neg c4] at H
                have c4b0 : (x6_2 == 0) = false := beq_eq_false_iff_ne.mpr c4
                have c4b1 : (x6_2 != 0) = true := bne_iff_ne.mpr c4
                have H' := Aside0.mk H
                clear H
                go_wp2
                go_roundg k2
                case measure => have := HK1.out; have := HK2.out; omega
                case rel => exact ⟨(x6_2), (Int.tmod x5_2 x6_2), (by first | rfl | (simp; done) | (simp [*]; done)), (by first | rfl | (simp; done) | (simp [*]; done)), H', ⟨by have := HK1.out; have := HK2.out; omega⟩, by repeat (first | exact Drawn0.refl _ | apply Drawn0.step)⟩
            · rw [if_neg c3] at H
              have c3b0 : decide (0 < x6_2) = false := decide_eq_false c3
              clear c3
              by_cases c5 : x5_2 = 0
              · rw [if_pos c5] at H
                exact absurd H (by simp)
              · rw [if_neg c5] at H
                have c5b0 : (x5_2 == 0) = false := beq_eq_false_iff_ne.mpr c5
                have c5b1 : (x5_2 != 0) = true := bne_iff_ne.mpr c5
                have H' := Aside0.mk H
                clear H
                go_wp2
                go_roundg k2
                case measure => have := HK1.out; have := HK2.out; omega
                case rel => exact ⟨(wrap64 ((wrap64 (Int.tdiv x3_1 x5_2)) * x4_1)), (wrap64 (x4_1 + 1)), (by first | rfl | (simp; done) | (simp [*]; done)), (by first | rfl | (simp; done) | (simp [*]; done)), H', ⟨by have := HK1.out; have := HK2.out; omega⟩, by repeat (first | exact Drawn0.refl _ | apply Drawn0.step)⟩
      · rw [if_neg c2] at H
        have c2b0 : decide (x4_1 ≤ a0) = false := decide_eq_false c2
        clear c2
        obtain rfl := Option.some.inj H
        go_wp2
        go_ret
        exact ⟨by first | rfl | (simp; done) | (simp [*]; done), by repeat (first | exact Drawn0.refl _ | apply Drawn0.step)⟩

/-! ### pomadelaw06_PolePeriods: function 7 -/
mutual
def pomadelaw06_PolePeriods.j0 : Nat → Int → Int → Int → Option (Bool)
  | 0, _, _, _ => none
  | k + 1, x1, x5, x6 => if (wrap64 (1000 - x6)) = 0 then (none) else ((pole_Order.f x5 (wrap64 (1 + (Int.tmod (wrap64 (x1)) (wrap64 (1000 - x6)))))).bind fun bt170 => ((pole_Order.f x5 (wrap64 ((wrap64 (1 + (Int.tmod (wrap64 (x1)) (wrap64 (1000 - x6))))) + x6))).bind fun bt174 => ((pole_Order.f x5 1).bind fun bt178 => (if bt170.2 = 0 then (if bt174.2 = 0 then (if bt178.2 = 0 then ((pomadelaw06_same.f k bt170.1 bt174.1).bind fun t182 => (if t182 = true then (pomadelaw06_PolePeriods.j1 k x5 bt178.1 ((bt178.1.length : Int) != x5)) else (pomadelaw06_PolePeriods.j1 k x5 bt178.1 true))) else (pomadelaw06_PolePeriods.j1 k x5 bt178.1 true)) else (pomadelaw06_PolePeriods.j1 k x5 bt178.1 true)) else (pomadelaw06_PolePeriods.j1 k x5 bt178.1 true)))))
def pomadelaw06_PolePeriods.j1 : Nat → Int → List Int → Bool → Option (Bool)
  | 0, _, _, _ => none
  | k + 1, x5, x12, x70 => if x70 = true then (some false) else (pomadelaw06_PolePeriods.l0 k x5 x12 0)
def pomadelaw06_PolePeriods.l0 : Nat → Int → List Int → Int → Option (Bool)
  | 0, _, _, _ => none
  | k + 1, x5, x12, x14 => if x14 < x5 then (if 0 ≤ x14 then (if x14 < (x12.length : Int) then (if (rd x12 x14) = x14 then (pomadelaw06_PolePeriods.l0 k x5 x12 (wrap64 (x14 + 1))) else (some false)) else (none)) else (none)) else ((pomadelaw06_alive.f k).bind fun t184 => (some t184))
end
def pomadelaw06_PolePeriods.f (k : Nat) (a0 : Int) (a1 : Int) : Option (Bool) := (pomadelaw06_common.f k (wrap64 (1 + (wrap64 (Int.tmod a0 10))))).bind fun t168 => (if t168 ≥ 1000 then ((pomadelaw06_common.f k 6).bind fun t169 => (pomadelaw06_PolePeriods.j0 k a1 6 t169)) else (pomadelaw06_PolePeriods.j0 k a1 (wrap64 (1 + (wrap64 (Int.tmod a0 10)))) t168))
theorem pomadelaw06_PolePeriods.mono_l : ∀ k, (∀ y0 y1 y2, LeO (pomadelaw06_PolePeriods.j0 k y0 y1 y2) (pomadelaw06_PolePeriods.j0 (k + 1) y0 y1 y2)) ∧ (∀ y0 y1 y2, LeO (pomadelaw06_PolePeriods.j1 k y0 y1 y2) (pomadelaw06_PolePeriods.j1 (k + 1) y0 y1 y2)) ∧ (∀ y0 y1 y2, LeO (pomadelaw06_PolePeriods.l0 k y0 y1 y2) (pomadelaw06_PolePeriods.l0 (k + 1) y0 y1 y2))
  | 0 => ⟨fun _ _ _ r h => by simp [pomadelaw06_PolePeriods.j0] at h, fun _ _ _ r h => by simp [pomadelaw06_PolePeriods.j1] at h, fun _ _ _ r h => by simp [pomadelaw06_PolePeriods.l0] at h⟩
  | k + 1 => by
    obtain ⟨ih0, ih1, ih2⟩ := pomadelaw06_PolePeriods.mono_l k
    refine ⟨?_, ?_, ?_⟩
    · intro y0 y1 y2
      unfold pomadelaw06_PolePeriods.j0
      repeat' first
      | (with_reducible exact ih0 _ _ _)
      | (with_reducible exact ih1 _ _ _)
      | (with_reducible exact ih2 _ _ _)
      | (with_reducible exact pomadelaw06_alive.mono _)
      | (with_reducible exact pomadelaw06_common.mono _ _)
      | (with_reducible exact pomadelaw06_same.mono _ _ _)
      | (with_reducible exact LeO.refl _)
      | (with_reducible exact LeO.none _)
      | (with_reducible refine LeO.ite ?_ ?_)
      | (with_reducible refine LeO.bind ?_ (fun _ => ?_))
      | exact ih0 _ _ _
      | exact ih1 _ _ _
      | exact ih2 _ _ _
      | exact pomadelaw06_alive.mono _
      | exact pomadelaw06_common.mono _ _
      | exact pomadelaw06_same.mono _ _ _
      | exact LeO.none _
      | refine LeO.ite ?_ ?_
      | refine LeO.bind ?_ (fun _ => ?_)
    · intro y0 y1 y2
      unfold pomadelaw06_PolePeriods.j1
      repeat' first
      | (with_reducible exact ih0 _ _ _)
      | (with_reducible exact ih1 _ _ _)
      | (with_reducible exact ih2 _ _ _)
      | (with_reducible exact pomadelaw06_alive.mono _)
      | (with_reducible exact pomadelaw06_common.mono _ _)
      | (with_reducible exact pomadelaw06_same.mono _ _ _)
      | (with_reducible exact LeO.refl _)
      | (with_reducible exact LeO.none _)
      | (with_reducible refine LeO.ite ?_ ?_)
      | (with_reducible refine LeO.bind ?_ (fun _ => ?_))
      | exact ih0 _ _ _
      | exact ih1 _ _ _
      | exact ih2 _ _ _
      | exact pomadelaw06_alive.mono _
      | exact pomadelaw06_common.mono _ _
      | exact pomadelaw06_same.mono _ _ _
      | exact LeO.none _
      | refine LeO.ite ?_ ?_
      | refine LeO.bind ?_ (fun _ => ?_)
    · intro y0 y1 y2
      unfold pomadelaw06_PolePeriods.l0
      repeat' first
      | (with_reducible exact ih0 _ _ _)
      | (with_reducible exact ih1 _ _ _)
      | (with_reducible exact ih2 _ _ _)
      | (with_reducible exact pomadelaw06_alive.mono _)
      | (with_reducible exact pomadelaw06_common.mono _ _)
      | (with_reducible exact pomadelaw06_same.mono _ _ _)
      | (with_reducible exact LeO.refl _)
      | (with_reducible exact LeO.none _)
      | (with_reducible refine LeO.ite ?_ ?_)
      | (with_reducible refine LeO.bind ?_ (fun _ => ?_))
      | exact ih0 _ _ _
      | exact ih1 _ _ _
      | exact ih2 _ _ _
      | exact pomadelaw06_alive.mono _
      | exact pomadelaw06_common.mono _ _
      | exact pomadelaw06_same.mono _ _ _
      | exact LeO.none _
      | refine LeO.ite ?_ ?_
      | refine LeO.bind ?_ (fun _ => ?_)
theorem pomadelaw06_PolePeriods.mono : ∀ a0 a1 k, LeO (pomadelaw06_PolePeriods.f k a0 a1) (pomadelaw06_PolePeriods.f (k + 1) a0 a1) := by
  intro a0 a1 k
  obtain ⟨ih0, ih1, ih2⟩ := pomadelaw06_PolePeriods.mono_l k
  unfold pomadelaw06_PolePeriods.f
  repeat' first
      | (with_reducible exact ih0 _ _ _)
      | (with_reducible exact ih1 _ _ _)
      | (with_reducible exact ih2 _ _ _)
      | (with_reducible exact pomadelaw06_alive.mono _)
      | (with_reducible exact pomadelaw06_common.mono _ _)
      | (with_reducible exact pomadelaw06_same.mono _ _ _)
      | (with_reducible exact LeO.refl _)
      | (with_reducible exact LeO.none _)
      | (with_reducible refine LeO.ite ?_ ?_)
      | (with_reducible refine LeO.bind ?_ (fun _ => ?_))
      | exact ih0 _ _ _
      | exact ih1 _ _ _
      | exact ih2 _ _ _
      | exact pomadelaw06_alive.mono _
      | exact pomadelaw06_common.mono _ _
      | exact pomadelaw06_same.mono _ _ _
      | exact LeO.none _
      | refine LeO.ite ?_ ?_
      | refine LeO.bind ?_ (fun _ => ?_)
set_option maxHeartbeats 8000000 in
set_option maxRecDepth 100000 in
theorem pomadelaw06_PolePeriods.calls (k : Nat) (a0 : Int) (a1 : Int) (r : Bool) (w : World) (h : pomadelaw06_PolePeriods.f k a0 a1 = some r) :
    Calls Try.prog 7 #[.int .u8 a0, .int .u16 a1] w fun e w' => e = .returned (.bool r) ∧ Below w.heap.size w w' := by
  have HB := Aside0.mk (Below.refl w.heap.size w)
  have H : ((pomadelaw06_common.f k (wrap64 (1 + (wrap64 (Int.tmod a0 10))))).bind fun t168 => (if t168 ≥ 1000 then ((pomadelaw06_common.f k 6).bind fun t169 => (pomadelaw06_PolePeriods.j0 k a1 6 t169)) else (pomadelaw06_PolePeriods.j0 k a1 (wrap64 (1 + (wrap64 (Int.tmod a0 10)))) t168))) = some r := h
  clear h
  replace H := Option.bind_eq_some_iff.mp H
  obtain ⟨t168, A30, H⟩ := H
  replace H : (if t168 ≥ 1000 then ((pomadelaw06_common.f k 6).bind fun t169 => (pomadelaw06_PolePeriods.j0 k a1 6 t169)) else (pomadelaw06_PolePeriods.j0 k a1 (wrap64 (1 + (wrap64 (Int.tmod a0 10)))) t168)) = some r := H
  have A3 := Aside0.mk A30
  clear A30
  have HC4 := Aside0.mk H
  clear H
  go_enter Try.func7, Try.ntmps7
  go_upto_if 22 with (first | ((with_reducible refine gate_callee (f := 25) rfl ?_); refine goesL_ (some 20) rfl rfl Try.func25 (by kernel_rfl) rfl #[.int .i64 (wrap64 (1 + (wrap64 (Int.tmod a0 10))))] rfl (by (try simp only [List.map_toArray, List.map_cons, List.map_nil]); first | done | rfl | (simp only [List.length_drop, List.length_take]; rfl)) ?_; (with_reducible refine (pomadelaw06_common.calls k (wrap64 (1 + (wrap64 (Int.tmod a0 10)))) t168 _ A3.out).mono ?_); rintro e w' ⟨rfl, ⟨nd, rfl⟩⟩; refine ⟨_, rfl, ?_⟩))
  (try simp only [Act.put, List.setIfInBounds_toArray, List.set_cons_zero, List.set_cons_succ])
  go_cut [5, 6] (fun v5 v6 wc => ∃ (kq : Nat) (x5_3 : Int) (x6_3 : Int), v5 = .int .i64 x5_3 ∧ v6 = .int .i64 x6_3 ∧ Aside0 (pomadelaw06_PolePeriods.j0 kq a1 x5_3 x6_3 = some r) ∧ Aside0 (kq ≤ k) ∧ Aside0 (Below w.heap.size w wc))
  case first =>
    have H := HC4.out
    clear HC4
    by_cases c5 : t168 ≥ 1000
    · rw [if_pos c5] at H
      have c5b0 : decide (1000 ≤ t168) = true := decide_eq_true c5
      clear c5
      (first | rw [c5b0] | (simp only [i64_w, i32_w]; rw [c5b0]) | skip)
      replace H := Option.bind_eq_some_iff.mp H
      obtain ⟨t169, A60, H⟩ := H
      replace H : (pomadelaw06_PolePeriods.j0 k a1 6 t169) = some r := H
      have A6 := Aside0.mk A60
      clear A60
      have H' := Aside0.mk H
      clear H
      go_wp2_with (first | ((with_reducible refine gate_callee (f := 25) rfl ?_); refine goesL_ (some 23) rfl rfl Try.func25 (by kernel_rfl) rfl #[.int .i64 6] rfl (by (try simp only [List.map_toArray, List.map_cons, List.map_nil]); first | done | rfl | (simp only [List.length_drop, List.length_take]; rfl)) ?_; (with_reducible refine (pomadelaw06_common.calls k 6 t169 _ A6.out).mono ?_); rintro e w' ⟨rfl, ⟨nd, rfl⟩⟩; refine ⟨_, rfl, ?_⟩))
      go_meet
      case rel => exact ⟨_, (6), (t169), (by first | rfl | (simp; done) | (simp [*]; done)), (by first | rfl | (simp; done) | (simp [*]; done)), H', ⟨by first | omega | exact Nat.le_refl _⟩, ⟨by repeat (first | (with_reducible first | exact HB.out | apply below_alloc | apply pw_below_drewN | apply below_drew1) | exact HB.out)⟩⟩
    · rw [if_neg c5] at H
      have c5b0 : decide (1000 ≤ t168) = false := decide_eq_false c5
      clear c5
      (first | rw [c5b0] | (simp only [i64_w, i32_w]; rw [c5b0]) | skip)
      have H' := Aside0.mk H
      clear H
      go_wp2
      go_meet
      case rel => exact ⟨_, (wrap64 (1 + (wrap64 (Int.tmod a0 10)))), (t168), (by first | rfl | (simp; done) | (simp [*]; done)), (by first | rfl | (simp; done) | (simp [*]; done)), H', ⟨by first | omega | exact Nat.le_refl _⟩, ⟨by repeat (first | (with_reducible first | exact HB.out | apply below_alloc | apply pw_below_drewN | apply below_drew1) | exact HB.out)⟩⟩
  case rest =>
    clear HC4
    try clear c2
    try clear p2
    try clear c5
    try clear c5b0
    try clear p6
    obtain ⟨kq, x5_3, x6_3, rfl, rfl, HA, HJ3, HB⟩ := hcut
    cases kq with
    | zero => exact absurd HA.out (by simp [pomadelaw06_PolePeriods.j0])
    | succ kj3 =>
      have H := HA.out
      clear HA
      simp only [pomadelaw06_PolePeriods.j0] at H
      by_cases c7 : (wrap64 (1000 - x6_3)) = 0
      · rw [if_pos c7] at H
        exact absurd H (by simp)
      · rw [if_neg c7] at H
        have c7b0 : ((wrap64 (1000 - x6_3)) == 0) = false := beq_eq_false_iff_ne.mpr c7
        have c7b1 : ((wrap64 (1000 - x6_3)) != 0) = true := bne_iff_ne.mpr c7
        replace H := Option.bind_eq_some_iff.mp H
        obtain ⟨⟨t170, t171⟩, A80, H⟩ := H
        replace H : ((pole_Order.f x5_3 (wrap64 ((wrap64 (1 + (Int.tmod (wrap64 (a1)) (wrap64 (1000 - x6_3))))) + x6_3))).bind fun bt174 => ((pole_Order.f x5_3 1).bind fun bt178 => (if t171 = 0 then (if bt174.2 = 0 then (if bt178.2 = 0 then ((pomadelaw06_same.f kj3 t170 bt174.1).bind fun t182 => (if t182 = true then (pomadelaw06_PolePeriods.j1 kj3 x5_3 bt178.1 ((bt178.1.length : Int) != x5_3)) else (pomadelaw06_PolePeriods.j1 kj3 x5_3 bt178.1 true))) else (pomadelaw06_PolePeriods.j1 kj3 x5_3 bt178.1 true)) else (pomadelaw06_PolePeriods.j1 kj3 x5_3 bt178.1 true)) else (pomadelaw06_PolePeriods.j1 kj3 x5_3 bt178.1 true)))) = some r := H
        have A8 := Aside0.mk A80
        clear A80
        replace H := Option.bind_eq_some_iff.mp H
        obtain ⟨⟨t174, t175⟩, A90, H⟩ := H
        replace H : ((pole_Order.f x5_3 1).bind fun bt178 => (if t171 = 0 then (if t175 = 0 then (if bt178.2 = 0 then ((pomadelaw06_same.f kj3 t170 t174).bind fun t182 => (if t182 = true then (pomadelaw06_PolePeriods.j1 kj3 x5_3 bt178.1 ((bt178.1.length : Int) != x5_3)) else (pomadelaw06_PolePeriods.j1 kj3 x5_3 bt178.1 true))) else (pomadelaw06_PolePeriods.j1 kj3 x5_3 bt178.1 true)) else (pomadelaw06_PolePeriods.j1 kj3 x5_3 bt178.1 true)) else (pomadelaw06_PolePeriods.j1 kj3 x5_3 bt178.1 true))) = some r := H
        have A9 := Aside0.mk A90
        clear A90
        replace H := Option.bind_eq_some_iff.mp H
        obtain ⟨⟨t178, t179⟩, A100, H⟩ := H
        replace H : (if t171 = 0 then (if t175 = 0 then (if t179 = 0 then ((pomadelaw06_same.f kj3 t170 t174).bind fun t182 => (if t182 = true then (pomadelaw06_PolePeriods.j1 kj3 x5_3 t178 ((t178.length : Int) != x5_3)) else (pomadelaw06_PolePeriods.j1 kj3 x5_3 t178 true))) else (pomadelaw06_PolePeriods.j1 kj3 x5_3 t178 true)) else (pomadelaw06_PolePeriods.j1 kj3 x5_3 t178 true)) else (pomadelaw06_PolePeriods.j1 kj3 x5_3 t178 true)) = some r := H
        have A10 := Aside0.mk A100
        clear A100
        have HC11 := Aside0.mk H
        clear H
        go_upto_region 10 with (first | ((with_reducible refine gate_callee (f := 26) rfl ?_); refine goesL_ (some 33) rfl rfl Try.func26 (by kernel_rfl) rfl #[.int .i64 x5_3, .int .i64 (wrap64 (1 + (Int.tmod (wrap64 (a1)) (wrap64 (1000 - x6_3)))))] rfl (by (try simp only [List.map_toArray, List.map_cons, List.map_nil]); first | done | rfl | (simp only [List.length_drop, List.length_take]; rfl)) ?_; (with_reducible refine (pole_Order.calls x5_3 (wrap64 (1 + (Int.tmod (wrap64 (a1)) (wrap64 (1000 - x6_3))))) t170 t171 _ A8.out).mono ?_); rintro e w12 ⟨v172, rfl, ho0, hb⟩; refine ⟨_, rfl, ?_⟩; have n0_ := Aside0.mk (Kd.R_lower ho0 (below_size (by repeat (first | (with_reducible first | exact HB.out | apply below_alloc | apply pw_below_drewN | apply below_drew1) | exact HB.out)))); have n1_ := Aside0.mk (below_step (by repeat (first | (with_reducible first | exact HB.out | apply below_alloc | apply pw_below_drewN | apply below_drew1) | exact HB.out)) hb); clear HB; have HO173 := n0_; have HB := n1_; clear n0_ n1_; (try clear hb); (try clear hb2); (try clear hk); (try clear hi); (try clear ho0)) | ((with_reducible refine gate_callee (f := 26) rfl ?_); refine goesL_ (some 41) rfl rfl Try.func26 (by kernel_rfl) rfl #[.int .i64 x5_3, .int .i64 (wrap64 ((wrap64 (1 + (Int.tmod (wrap64 (a1)) (wrap64 (1000 - x6_3))))) + x6_3))] rfl (by (try simp only [List.map_toArray, List.map_cons, List.map_nil]); first | done | rfl | (simp only [List.length_drop, List.length_take]; rfl)) ?_; (with_reducible refine (pole_Order.calls x5_3 (wrap64 ((wrap64 (1 + (Int.tmod (wrap64 (a1)) (wrap64 (1000 - x6_3))))) + x6_3)) t174 t175 _ A9.out).mono ?_); rintro e w13 ⟨v176, rfl, ho0, hb⟩; refine ⟨_, rfl, ?_⟩; have n0_ := Aside0.mk (Kd.R_elder' (by (with_reducible repeat (first | apply Kd.R_alloc | apply Kd.R_drewN | apply Kd.R_drew)); exact HO173.out) (Kd.R_base ho0) hb); have n1_ := Aside0.mk (Kd.R_lower (Kd.R_new' ho0 (Kd.R_lt (by (with_reducible repeat (first | apply Kd.R_alloc | apply Kd.R_drewN | apply Kd.R_drew)); exact HO173.out))) (below_size (by repeat (first | (with_reducible first | exact HB.out | apply below_alloc | apply pw_below_drewN | apply below_drew1) | exact HB.out)))); have n2_ := Aside0.mk (below_step (by repeat (first | (with_reducible first | exact HB.out | apply below_alloc | apply pw_below_drewN | apply below_drew1) | exact HB.out)) hb); clear HO173; clear HB; have HO173 := n0_; have HO177 := n1_; have HB := n2_; clear n0_ n1_ n2_; (try clear hb); (try clear hb2); (try clear hk); (try clear hi); (try clear ho0)) | ((with_reducible refine gate_callee (f := 26) rfl ?_); refine goesL_ (some 46) rfl rfl Try.func26 (by kernel_rfl) rfl #[.int .i64 x5_3, .int .i64 1] rfl (by (try simp only [List.map_toArray, List.map_cons, List.map_nil]); first | done | rfl | (simp only [List.length_drop, List.length_take]; rfl)) ?_; (with_reducible refine (pole_Order.calls x5_3 1 t178 t179 _ A10.out).mono ?_); rintro e w14 ⟨v180, rfl, ho0, hb⟩; refine ⟨_, rfl, ?_⟩; have n0_ := Aside0.mk (Kd.R_elder' (by (with_reducible repeat (first | apply Kd.R_alloc | apply Kd.R_drewN | apply Kd.R_drew)); exact HO173.out) (Kd.R_base ho0) hb); have n1_ := Aside0.mk (Kd.R_elder' (by (with_reducible repeat (first | apply Kd.R_alloc | apply Kd.R_drewN | apply Kd.R_drew)); exact HO177.out) (Kd.R_base ho0) hb); have n2_ := Aside0.mk (Kd.R_lower (Kd.R_new' (Kd.R_new' ho0 (Kd.R_lt (by (with_reducible repeat (first | apply Kd.R_alloc | apply Kd.R_drewN | apply Kd.R_drew)); exact HO173.out))) (Kd.R_lt (by (with_reducible repeat (first | apply Kd.R_alloc | apply Kd.R_drewN | apply Kd.R_drew)); exact HO177.out))) (below_size (by repeat (first | (with_reducible first | exact HB.out | apply below_alloc | apply pw_below_drewN | apply below_drew1) | exact HB.out)))); have n3_ := Aside0.mk (below_step (by repeat (first | (with_reducible first | exact HB.out | apply below_alloc | apply pw_below_drewN | apply below_drew1) | exact HB.out)) hb); clear HO173; clear HO177; clear HB; have HO173 := n0_; have HO177 := n1_; have HO181 := n2_; have HB := n3_; clear n0_ n1_ n2_ n3_; (try clear hb); (try clear hb2); (try clear hk); (try clear hi); (try clear ho0)))
        (try simp only [Act.put, List.setIfInBounds_toArray, List.set_cons_zero, List.set_cons_succ])
        go_cut [70] (fun v70 wc => ∃ (kq : Nat) (x70_10 : Bool), v70 = .bool x70_10 ∧ Aside0 (pomadelaw06_PolePeriods.j1 kq x5_3 t178 x70_10 = some r) ∧ Aside0 (kq ≤ kj3) ∧ Aside0 (Kd.R (Kd.int .i64) 3 wc w.heap.size (fun _ => True) v180 t178) ∧ Aside0 (Below w.heap.size w wc))
        case first =>
          have H := HC11.out
          clear HC11
          by_cases c15 : t171 = 0
          · rw [if_pos c15] at H
            have c15b0 : (t171 == 0) = true := beq_iff_eq.mpr c15
            have c15b1 : (t171 != 0) = false := bne_eq_false_iff_eq.mpr c15
            clear c15
            (first | rw [c15b0] | (simp only [i64_w, i32_w]; rw [c15b0]) | skip)
            by_cases c16 : t175 = 0
            · rw [if_pos c16] at H
              have c16b0 : (t175 == 0) = true := beq_iff_eq.mpr c16
              have c16b1 : (t175 != 0) = false := bne_eq_false_iff_eq.mpr c16
              clear c16
              by_cases c17 : t179 = 0
              · rw [if_pos c17] at H
                have c17b0 : (t179 == 0) = true := beq_iff_eq.mpr c17
                have c17b1 : (t179 != 0) = false := bne_eq_false_iff_eq.mpr c17
                clear c17
                replace H := Option.bind_eq_some_iff.mp H
                obtain ⟨t182, A180, H⟩ := H
                replace H : (if t182 = true then (pomadelaw06_PolePeriods.j1 kj3 x5_3 t178 ((t178.length : Int) != x5_3)) else (pomadelaw06_PolePeriods.j1 kj3 x5_3 t178 true)) = some r := H
                have A18 := Aside0.mk A180
                clear A180
                by_cases c19 : t182 = true
                · subst c19
                  have H1 : (pomadelaw06_PolePeriods.j1 kj3 x5_3 t178 ((t178.length : Int) != x5_3)) = some r := by rw [if_pos rfl] at H; exact H
                  clear H
                  have H := H1
                  clear H1
                  have H' := Aside0.mk H
                  clear H
                  obtain ⟨Ao20, co20, eo20⟩ := Kd.R_slice HO173.out
                  subst eo20
                  obtain ⟨Ao21, co21, eo21⟩ := Kd.R_slice HO177.out
                  subst eo21
                  go_wp2_with (first | (go_at_call 27; (with_reducible refine (pomadelaw06_same.calls kj3 _ _ t170 _ _ t174 true _ ?side1 ?side2 ?side3 ?side4 A18.out).mono ?_); (case side1 => repeat (first | exact (Kd.R_reads' HO173.out).2.2 | (with_reducible refine Kd.C_alloc ?_ _) | (with_reducible refine Kd.C_drewN ?_ _) | (with_reducible refine Kd.C_drew ?_))); (case side2 => exact (Kd.R_reads' HO173.out).2.1); (case side3 => repeat (first | exact (Kd.R_reads' HO177.out).2.2 | (with_reducible refine Kd.C_alloc ?_ _) | (with_reducible refine Kd.C_drewN ?_ _) | (with_reducible refine Kd.C_drew ?_))); (case side4 => exact (Kd.R_reads' HO177.out).2.1); rintro e w' ⟨rfl, ⟨nd, rfl⟩⟩; obtain ⟨Ao22, co22, eo22⟩ := Kd.R_slice HO181.out; subst eo22))
                  go_meet
                  case rel => exact ⟨_, (((t178.length : Int) != x5_3)), (by first | rfl | (simp; done) | (simp [*]; done)), H', ⟨by have := HJ3.out; first | omega | exact Nat.le_refl _⟩, ⟨by (with_reducible repeat (first | apply Kd.R_alloc | apply Kd.R_drewN | apply Kd.R_drew)); exact Kd.R_mono HO181.out (fun _ hk => trivial)⟩, ⟨by repeat (first | (with_reducible first | exact HB.out | apply below_alloc | apply pw_below_drewN | apply below_drew1) | exact HB.out)⟩⟩
                · replace c19 := Bool.eq_false_iff.mpr c19
                  subst c19
                  have H1 : (pomadelaw06_PolePeriods.j1 kj3 x5_3 t178 true) = some r := by rw [if_neg (show ¬ (false = true) by decide)] at H; exact H
                  clear H
                  have H := H1
                  clear H1
                  have H' := Aside0.mk H
                  clear H
                  obtain ⟨Ao23, co23, eo23⟩ := Kd.R_slice HO173.out
                  subst eo23
                  obtain ⟨Ao24, co24, eo24⟩ := Kd.R_slice HO177.out
                  subst eo24
                  go_wp2_with (first | (go_at_call 27; (with_reducible refine (pomadelaw06_same.calls kj3 _ _ t170 _ _ t174 false _ ?side1 ?side2 ?side3 ?side4 A18.out).mono ?_); (case side1 => repeat (first | exact (Kd.R_reads' HO173.out).2.2 | (with_reducible refine Kd.C_alloc ?_ _) | (with_reducible refine Kd.C_drewN ?_ _) | (with_reducible refine Kd.C_drew ?_))); (case side2 => exact (Kd.R_reads' HO173.out).2.1); (case side3 => repeat (first | exact (Kd.R_reads' HO177.out).2.2 | (with_reducible refine Kd.C_alloc ?_ _) | (with_reducible refine Kd.C_drewN ?_ _) | (with_reducible refine Kd.C_drew ?_))); (case side4 => exact (Kd.R_reads' HO177.out).2.1); rintro e w' ⟨rfl, ⟨nd, rfl⟩⟩))
                  go_meet
                  case rel => exact ⟨_, (true), (by first | rfl | (simp; done) | (simp [*]; done)), H', ⟨by have := HJ3.out; first | omega | exact Nat.le_refl _⟩, ⟨by (with_reducible repeat (first | apply Kd.R_alloc | apply Kd.R_drewN | apply Kd.R_drew)); exact Kd.R_mono HO181.out (fun _ hk => trivial)⟩, ⟨by repeat (first | (with_reducible first | exact HB.out | apply below_alloc | apply pw_below_drewN | apply below_drew1) | exact HB.out)⟩⟩
              · rw [if_neg c17] at H
                have c17b0 : (t179 == 0) = false := beq_eq_false_iff_ne.mpr c17
                have c17b1 : (t179 != 0) = true := bne_iff_ne.mpr c17
                have H' := Aside0.mk H
                clear H
                go_wp2
                go_meet
                case rel => exact ⟨_, (true), (by first | rfl | (simp; done) | (simp [*]; done)), H', ⟨by have := HJ3.out; first | omega | exact Nat.le_refl _⟩, ⟨by (with_reducible repeat (first | apply Kd.R_alloc | apply Kd.R_drewN | apply Kd.R_drew)); exact Kd.R_mono HO181.out (fun _ hk => trivial)⟩, ⟨by repeat (first | (with_reducible first | exact HB.out | apply below_alloc | apply pw_below_drewN | apply below_drew1) | exact HB.out)⟩⟩
            · rw [if_neg c16] at H
              have c16b0 : (t175 == 0) = false := beq_eq_false_iff_ne.mpr c16
              have c16b1 : (t175 != 0) = true := bne_iff_ne.mpr c16
              have H' := Aside0.mk H
              clear H
              go_wp2
              go_meet
              case rel => exact ⟨_, (true), (by first | rfl | (simp; done) | (simp [*]; done)), H', ⟨by have := HJ3.out; first | omega | exact Nat.le_refl _⟩, ⟨by (with_reducible repeat (first | apply Kd.R_alloc | apply Kd.R_drewN | apply Kd.R_drew)); exact Kd.R_mono HO181.out (fun _ hk => trivial)⟩, ⟨by repeat (first | (with_reducible first | exact HB.out | apply below_alloc | apply pw_below_drewN | apply below_drew1) | exact HB.out)⟩⟩
          · rw [if_neg c15] at H
            have c15b0 : (t171 == 0) = false := beq_eq_false_iff_ne.mpr c15
            have c15b1 : (t171 != 0) = true := bne_iff_ne.mpr c15
            (first | rw [c15b0] | (simp only [i64_w, i32_w]; rw [c15b0]) | skip)
            have H' := Aside0.mk H
            clear H
            go_wp2
            go_meet
            case rel => exact ⟨_, (true), (by first | rfl | (simp; done) | (simp [*]; done)), H', ⟨by have := HJ3.out; first | omega | exact Nat.le_refl _⟩, ⟨by (with_reducible repeat (first | apply Kd.R_alloc | apply Kd.R_drewN | apply Kd.R_drew)); exact Kd.R_mono HO181.out (fun _ hk => trivial)⟩, ⟨by repeat (first | (with_reducible first | exact HB.out | apply below_alloc | apply pw_below_drewN | apply below_drew1) | exact HB.out)⟩⟩
        case rest =>
          clear HC11
          try clear c1
          try clear c2
          try clear p2
          try clear c5
          try clear c5b0
          try clear p6
          try clear c7
          try clear c7b0
          try clear c7b1
          try clear c15
          try clear c15b0
          try clear c15b1
          try clear c16
          try clear c16b0
          try clear c16b1
          try clear c17
          try clear c17b0
          try clear c17b1
          try clear c19
          try clear p2
          try clear p6
          obtain ⟨kq, x70_10, rfl, HA, HJ10, HO_12, HB⟩ := hcut
          cases kq with
          | zero => exact absurd HA.out (by simp [pomadelaw06_PolePeriods.j1])
          | succ kj10 =>
            have H := HA.out
            clear HA
            simp only [pomadelaw06_PolePeriods.j1] at H
            by_cases c25 : x70_10 = true
            · subst c25
              have H1 : (some false) = some r := by rw [if_pos rfl] at H; exact H
              clear H
              have H := H1
              clear H1
              obtain rfl := Option.some.inj H
              go_wp2
              go_ret
              exact ⟨by first | rfl | (simp [errW_none, errW_some] <;> rfl) | (simp [*, errW_none, errW_some] <;> rfl), by repeat (first | (with_reducible first | exact HB.out | apply below_alloc | apply pw_below_drewN | apply below_drew1) | exact HB.out)⟩
            · replace c25 := Bool.eq_false_iff.mpr c25
              subst c25
              have H1 : (pomadelaw06_PolePeriods.l0 kj10 x5_3 t178 0) = some r := by rw [if_neg (show ¬ (false = true) by decide)] at H; exact H
              clear H
              have H := H1
              clear H1
              have H' := Aside0.mk H
              clear H
              go_wp2
              go_loopg [14] kj10 (fun kq v14 w' => ∃ (x14_3 : Int), v14 = .int .i64 x14_3 ∧ Aside0 (pomadelaw06_PolePeriods.l0 kq x5_3 t178 x14_3 = some r) ∧ Aside0 (kq ≤ kj10) ∧ Aside0 (Kd.R (Kd.int .i64) 3 w' w.heap.size (fun _ => True) v180 t178) ∧ Aside0 (Below w.heap.size w w'))
              case atStart => exact ⟨(0), (by first | rfl | (simp; done) | (simp [*]; done)), H', ⟨Nat.le_refl _⟩, ⟨by (with_reducible repeat (first | apply Kd.R_alloc | apply Kd.R_drewN | apply Kd.R_drew)); exact HO_12.out⟩, ⟨by repeat (first | (with_reducible first | exact HB.out | apply below_alloc | apply pw_below_drewN | apply below_drew1) | exact HB.out)⟩⟩
              case round =>
                clear H'
                try clear c1
                try clear c2
                try clear p2
                try clear c5
                try clear c5b0
                try clear p6
                try clear c7
                try clear c7b0
                try clear c7b1
                try clear c15
                try clear c15b0
                try clear c15b1
                try clear c16
                try clear c16b0
                try clear c16b1
                try clear c17
                try clear c17b0
                try clear c17b1
                try clear c19
                try clear c25
                try clear p2
                try clear p6
                obtain ⟨x14_3, rfl, HA, HK3, HO_12, HB⟩ := hrel
                cases gk with
                | zero => exact absurd HA.out (by simp [pomadelaw06_PolePeriods.l0])
                | succ k3 =>
                  have H := HA.out
                  clear HA
                  simp only [pomadelaw06_PolePeriods.l0] at H
                  by_cases c26 : x14_3 < x5_3
                  · rw [if_pos c26] at H
                    have c26b0 : decide (x14_3 < x5_3) = true := decide_eq_true c26
                    clear c26
                    by_cases c27 : 0 ≤ x14_3
                    · rw [if_pos c27] at H
                      have c27b0 : decide (0 ≤ x14_3) = true := decide_eq_true c27
                      clear c27
                      by_cases c28 : x14_3 < (t178.length : Int)
                      · rw [if_pos c28] at H
                        have c28b0 : decide (x14_3 < (t178.length : Int)) = true := decide_eq_true c28
                        clear c28
                        by_cases c29 : (rd t178 x14_3) = x14_3
                        · rw [if_pos c29] at H
                          have c29b0 : ((rd t178 x14_3) == x14_3) = true := beq_iff_eq.mpr c29
                          have c29b1 : ((rd t178 x14_3) != x14_3) = false := bne_eq_false_iff_eq.mpr c29
                          clear c29
                          have H' := Aside0.mk H
                          clear H
                          obtain ⟨Ao30, co30, eo30⟩ := Kd.R_slice HO_12.out
                          subst eo30
                          have p183 : 0 ≤ (x14_3 : Int) := of_decide_eq_true (by first | (with_reducible assumption) | assumption)
                          have q183 : x14_3 < (t178.length : Int) := of_decide_eq_true (by first | (with_reducible assumption) | assumption)
                          obtain ⟨ad183, e183, hx183_0⟩ := Kd.at_int (Kd.R_reads' HO_12.out).2.2 x14_3 p183 q183
                          cases e183
                          replace p183 := eq_true p183
                          replace q183 := eq_true q183
                          go_wp2
                          go_roundg k3
                          case measure => have := HJ3.out; have := HJ10.out; have := HK3.out; omega
                          case rel => exact ⟨(wrap64 (x14_3 + 1)), (by first | rfl | (simp; done) | (simp [*]; done)), H', ⟨by have := HJ3.out; have := HJ10.out; have := HK3.out; omega⟩, ⟨by (with_reducible repeat (first | apply Kd.R_alloc | apply Kd.R_drewN | apply Kd.R_drew)); exact HO_12.out⟩, ⟨by repeat (first | (with_reducible first | exact HB.out | apply below_alloc | apply pw_below_drewN | apply below_drew1) | exact HB.out)⟩⟩
                        · rw [if_neg c29] at H
                          have c29b0 : ((rd t178 x14_3) == x14_3) = false := beq_eq_false_iff_ne.mpr c29
                          have c29b1 : ((rd t178 x14_3) != x14_3) = true := bne_iff_ne.mpr c29
                          obtain rfl := Option.some.inj H
                          obtain ⟨Ao31, co31, eo31⟩ := Kd.R_slice HO_12.out
                          subst eo31
                          have p183 : 0 ≤ (x14_3 : Int) := of_decide_eq_true (by first | (with_reducible assumption) | assumption)
                          have q183 : x14_3 < (t178.length : Int) := of_decide_eq_true (by first | (with_reducible assumption) | assumption)
                          obtain ⟨ad183, e183, hx183_0⟩ := Kd.at_int (Kd.R_reads' HO_12.out).2.2 x14_3 p183 q183
                          cases e183
                          replace p183 := eq_true p183
                          replace q183 := eq_true q183
                          go_wp2
                          go_ret
                          exact ⟨by first | rfl | (simp [errW_none, errW_some] <;> rfl) | (simp [*, errW_none, errW_some] <;> rfl), by repeat (first | (with_reducible first | exact HB.out | apply below_alloc | apply pw_below_drewN | apply below_drew1) | exact HB.out)⟩
                      · rw [if_neg c28] at H
                        exact absurd H (by simp)
                    · rw [if_neg c27] at H
                      exact absurd H (by simp)
                  · rw [if_neg c26] at H
                    have c26b0 : decide (x14_3 < x5_3) = false := decide_eq_false c26
                    clear c26
                    replace H := Option.bind_eq_some_iff.mp H
                    obtain ⟨t184, A320, H⟩ := H
                    replace H : (some t184) = some r := H
                    have A32 := Aside0.mk A320
                    clear A320
                    obtain rfl := Option.some.inj H
                    go_wp2_with (first | ((with_reducible refine gate_callee (f := 20) rfl ?_); refine goesL_ (some 82) rfl rfl Try.func20 (by kernel_rfl) rfl #[] rfl (by (try simp only [List.map_toArray, List.map_cons, List.map_nil]); first | done | rfl | (simp only [List.length_drop, List.length_take]; rfl)) ?_; (with_reducible refine (pomadelaw06_alive.calls k3  t184 _ A32.out).mono ?_); rintro e w33 ⟨rfl, hb⟩; refine ⟨_, rfl, ?_⟩; have n0_ := Aside0.mk (Kd.R_below (by (with_reducible repeat (first | apply Kd.R_alloc | apply Kd.R_drewN | apply Kd.R_drew)); exact HO_12.out) hb); have n1_ := Aside0.mk (below_step (by repeat (first | (with_reducible first | exact HB.out | apply below_alloc | apply pw_below_drewN | apply below_drew1) | exact HB.out)) hb); clear HO_12; clear HB; have HO_12 := n0_; have HB := n1_; clear n0_ n1_; (try clear hb); (try clear hb2); (try clear hk); (try clear hi)))
                    go_ret
                    exact ⟨by first | rfl | (simp [errW_none, errW_some] <;> rfl) | (simp [*, errW_none, errW_some] <;> rfl), by repeat (first | (with_reducible first | exact HB.out | apply below_alloc | apply pw_below_drewN | apply below_drew1) | exact HB.out)⟩

/-- THE ONE PURE STATEMENT of pomadelaw06_PolePeriods: yours. -/
def pomadelaw06_PolePeriods.Pure : Prop := ∀ (a0 : Int) (a1 : Int), (Lit.int .u8 a0).wf = true → (Lit.int .u16 a1).wf = true → ∃ k, pomadelaw06_PolePeriods.f k a0 a1 = some true
theorem pomadelaw06_PolePeriods.walk (P : pomadelaw06_PolePeriods.Pure) (a0 : Int) (a1 : Int) (w : World) (w0 : (Lit.int .u8 a0).wf = true) (w1 : (Lit.int .u16 a1).wf = true) :
    Calls Try.prog 7 #[.int .u8 a0, .int .u16 a1] w fun e w' => e = .returned (.bool true) ∧ Below w.heap.size w w' := by
  obtain ⟨k, h⟩ := P a0 a1 w0 w1
  refine (pomadelaw06_PolePeriods.calls k a0 a1 true w h).mono ?_
  rintro e w' ⟨rfl, hd⟩
  exact ⟨rfl, hd⟩

end Go.Proofs.Ytndpnlpidphflaa.Print
