-- Written by a program of this session (wip/tools/hprint.py over the kit's print.py); Lean checks it.
import Derived.Test.YtnjimbgfafkogaaDoorPrint0
import Derived.Test.YtnjimbgfafkogaaDoorPrint3
namespace Go.Proofs.YtnjimbgfafkogaaDoor.Print
open Go.RowKit Go.Proofs.YtnjimbgfafkogaaDoor.Hand Go.Proofs.YtnjimbgfafkogaaDoor.Pre Go.Proofs.YtnjimbgfafkogaaDoor.Bal Go.Proofs.YtnjimbgfafkogaaDoor.Base Go.Proofs.YtnjimbgfafkogaaDoorW.PrintWords Go.Proofs.YtnjimbgfafkogaaDoorW.PrintLast Go.Proofs.YtnjimbgfafkogaaDoorW.PrintMore
attribute [local go_sem] max2_int min2_int max_two min_two max_three min_three max_four min_four   -- for this text's walks alone
set_option linter.unusedVariables false
set_option linter.unusedSimpArgs false

/-! ### pomadelaw09_ways: function 37 -/
def pomadelaw09_ways.f (k : Nat) (a0 : Int) (a1 : Int) : Option (Int) := if (Int.tmod (wrap64 (a0 + a1)) 2) = 0 then (if a1 > a0 then (some 0) else (if a1 < (wrap64 (-a0)) then (some 0) else ((pomadelaw09_choose.f k a0 (wrap64 (Int.tdiv (wrap64 (a0 + a1)) 2))).bind fun t308 => (some t308)))) else (some 0)
theorem pomadelaw09_ways.mono : ∀ a0 a1 k, LeO (pomadelaw09_ways.f k a0 a1) (pomadelaw09_ways.f (k + 1) a0 a1) := by
 intro a0 a1 k
 unfold pomadelaw09_ways.f
 repeat' first
   | (with_reducible exact pomadelaw09_choose.mono _ _ _)
   | (with_reducible exact LeO.refl _)
   | (with_reducible exact LeO.none _)
   | (with_reducible refine LeO.ite ?_ ?_)
   | (with_reducible refine LeO.bind ?_ (fun _ => ?_))
   | exact pomadelaw09_choose.mono _ _ _
   | exact LeO.none _
   | refine LeO.ite ?_ ?_
   | refine LeO.bind ?_ (fun _ => ?_)
set_option maxHeartbeats 8000000 in
set_option maxRecDepth 100000 in
theorem pomadelaw09_ways.calls (k : Nat) (a0 : Int) (a1 : Int) (r : Int) (w : World) (h : pomadelaw09_ways.f k a0 a1 = some r) :
  Calls Tryd.prog 37 #[.int .i64 a0, .int .i64 a1] w fun e w' => e = .returned (.int .i64 r) ∧ Drawn0 w w' := by
 have H : (if (Int.tmod (wrap64 (a0 + a1)) 2) = 0 then (if a1 > a0 then (some 0) else (if a1 < (wrap64 (-a0)) then (some 0) else ((pomadelaw09_choose.f k a0 (wrap64 (Int.tdiv (wrap64 (a0 + a1)) 2))).bind fun t308 => (some t308)))) else (some 0)) = some r := h
 clear h
 by_cases c3 : (Int.tmod (wrap64 (a0 + a1)) 2) = 0
 ·rw [if_pos c3] at H
  have c3b0 : ((Int.tmod (wrap64 (a0 + a1)) 2) == 0) = true := beq_iff_eq.mpr c3
  have c3b1 : ((Int.tmod (wrap64 (a0 + a1)) 2) != 0) = false := bne_eq_false_iff_eq.mpr c3
  clear c3
  by_cases c4 : a1 > a0
  ·rw [if_pos c4] at H
   have c4b0 : decide (a0 < a1) = true := decide_eq_true c4
   clear c4
   obtain rfl := Option.some.inj H
   go_enter Tryd.func37, Tryd.ntmps37
   go_wp2
   go_ret
   exact ⟨by first | rfl | (simp; done) | (simp [*]; done), by repeat (first | exact Drawn0.refl _ | apply Drawn0.step)⟩
  ·rw [if_neg c4] at H
   have c4b0 : decide (a0 < a1) = false := decide_eq_false c4
   clear c4
   by_cases c5 : a1 < (wrap64 (-a0))
   ·rw [if_pos c5] at H
    have c5b0 : decide (a1 < (wrap64 (-a0))) = true := decide_eq_true c5
    clear c5
    obtain rfl := Option.some.inj H
    go_enter Tryd.func37, Tryd.ntmps37
    go_wp2
    go_ret
    exact ⟨by first | rfl | (simp; done) | (simp [*]; done), by repeat (first | exact Drawn0.refl _ | apply Drawn0.step)⟩
   ·rw [if_neg c5] at H
    have c5b0 : decide (a1 < (wrap64 (-a0))) = false := decide_eq_false c5
    clear c5
    replace H := Option.bind_eq_some_iff.mp H
    obtain ⟨t308, A60, H⟩ := H
    replace H : (some t308) = some r := H
    have A6 := Aside0.mk A60
    clear A60
    obtain rfl := Option.some.inj H
    go_enter Tryd.func37, Tryd.ntmps37
    go_wp2_with (first | ((with_reducible refine gate_callee (f := 29) rfl ?_); refine goesL_ (some 26) rfl rfl Tryd.func29 (by kernel_rfl) rfl #[.int .i64 a0, .int .i64 (wrap64 (Int.tdiv (wrap64 (a0 + a1)) 2))] rfl (by (try simp only [List.map_toArray, List.map_cons, List.map_nil]); first | done | rfl | (simp only [List.length_drop, List.length_take]; rfl)) ?_; (with_reducible refine (pomadelaw09_choose.calls k a0 (wrap64 (Int.tdiv (wrap64 (a0 + a1)) 2)) t308 _ A6.out).mono ?_); rintro e w' ⟨rfl, ⟨nd, rfl⟩⟩; refine ⟨_, rfl, ?_⟩))
    go_ret
    exact ⟨by first | rfl | (simp; done) | (simp [*]; done), by repeat (first | exact Drawn0.refl _ | apply Drawn0.step)⟩
 ·rw [if_neg c3] at H
  have c3b0 : ((Int.tmod (wrap64 (a0 + a1)) 2) == 0) = false := beq_eq_false_iff_ne.mpr c3
  have c3b1 : ((Int.tmod (wrap64 (a0 + a1)) 2) != 0) = true := bne_iff_ne.mpr c3
  obtain rfl := Option.some.inj H
  go_enter Tryd.func37, Tryd.ntmps37
  go_wp2
  go_ret
  exact ⟨by first | rfl | (simp; done) | (simp [*]; done), by repeat (first | exact Drawn0.refl _ | apply Drawn0.step)⟩

-- NOT PRINTED: function 13 (pomadelaw09_TillReflects)


end Go.Proofs.YtnjimbgfafkogaaDoor.Print
