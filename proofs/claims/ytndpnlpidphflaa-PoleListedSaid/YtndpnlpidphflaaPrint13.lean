-- Written by a program of this session (wip/tools/hprint.py over the kit's print.py); Lean checks it.
import Derived.Test.YtndpnlpidphflaaPrint0
import Derived.Test.YtndpnlpidphflaaPrint1
import Derived.Test.YtndpnlpidphflaaPrint2
import Derived.Test.YtndpnlpidphflaaPrint3
import Derived.Test.YtndpnlpidphflaaPrint6
import Derived.Test.YtndpnlpidphflaaPrint10
namespace Go.Proofs.Ytndpnlpidphflaa.Print
open Go.RowKit Go.Proofs.Ytndpnlpidphflaa.Hand Go.Proofs.YtndpnlpidphflaaW.PrintWords Go.Proofs.YtndpnlpidphflaaW.PrintLast Go.Proofs.YtndpnlpidphflaaW.PrintMore
attribute [local go_sem] max2_int min2_int max_two min_two max_three min_three max_four min_four   -- for this text's walks alone
set_option linter.unusedVariables false
set_option linter.unusedSimpArgs false

/-! ### pomadelaw06_PoleListed: function 15 -/
mutual
def pomadelaw06_PoleListed.j0 : Nat → Int → Int → Int → List Int → List Int → List Int → Bool → Option (Bool)
  | 0, _, _, _, _, _, _, _ => none
  | k + 1, x2, x7, x8, x9, x11, x13, x70 => if x70 = true then (some false) else (pomadelaw06_PoleListed.l0 k x2 x7 x8 x9 x11 x13 0)
def pomadelaw06_PoleListed.l0 : Nat → Int → Int → Int → List Int → List Int → List Int → Int → Option (Bool)
  | 0, _, _, _, _, _, _, _ => none
  | k + 1, x2, x7, x8, x9, x11, x13, x15 => if x15 < x7 then (if 0 ≤ x15 then (if x15 < (x9.length : Int) then (if (rd x9 x15) < 0 then (some false) else (if (rd x9 x15) ≥ x7 then (some false) else (if x15 < (x11.length : Int) then (if (rd x11 x15) < 0 then (some false) else (if (rd x11 x15) ≥ x7 then (some false) else (pomadelaw06_PoleListed.l0 k x2 x7 x8 x9 x11 x13 (wrap64 (x15 + 1))))) else (none)))) else (none)) else (none)) else (pomadelaw06_PoleListed.l1 k x2 x7 x8 x9 x11 x13 0)
def pomadelaw06_PoleListed.l1 : Nat → Int → Int → Int → List Int → List Int → List Int → Int → Option (Bool)
  | 0, _, _, _, _, _, _, _ => none
  | k + 1, x2, x7, x8, x9, x11, x13, x16 => if x16 < x7 then (if 0 ≤ x16 then (if x16 < (x9.length : Int) then (if 0 ≤ (rd x9 x16) then (if (rd x9 x16) < (x11.length : Int) then (if (rd x11 (rd x9 x16)) = x16 then (if x16 < (x11.length : Int) then (if 0 ≤ (rd x11 x16) then (if (rd x11 x16) < (x9.length : Int) then (if (rd x9 (rd x11 x16)) = x16 then (pomadelaw06_PoleListed.l1 k x2 x7 x8 x9 x11 x13 (wrap64 (x16 + 1))) else (some false)) else (none)) else (none)) else (none)) else (some false)) else (none)) else (none)) else (none)) else (none)) else (pomadelaw06_PoleListed.l2 k x2 x7 x8 x9 x11 x13 0 0 0)
def pomadelaw06_PoleListed.l2 : Nat → Int → Int → Int → List Int → List Int → List Int → Int → Int → Int → Option (Bool)
  | 0, _, _, _, _, _, _, _, _, _ => none
  | k + 1, x2, x7, x8, x9, x11, x13, x17, x18, x19 => if x19 < (x13.length : Int) then (if 0 ≤ x19 then (if (rd x13 x19) < 1 then (pomadelaw06_PoleListed.j4 k x2 x7 x8 x9 x11 x13 x17 x18 x19 true) else (if x19 > 0 then (if 0 ≤ (wrap64 (x19 - 1)) then (if (wrap64 (x19 - 1)) < (x13.length : Int) then (pomadelaw06_PoleListed.j4 k x2 x7 x8 x9 x11 x13 x17 x18 x19 (decide ((rd x13 x19) < (rd x13 (wrap64 (x19 - 1)))))) else (none)) else (none)) else (pomadelaw06_PoleListed.j4 k x2 x7 x8 x9 x11 x13 x17 x18 x19 false))) else (none)) else (pomadelaw06_PoleListed.l3 k x2 x7 x8 x9 x11 x17 x18 0)
def pomadelaw06_PoleListed.j4 : Nat → Int → Int → Int → List Int → List Int → List Int → Int → Int → Int → Bool → Option (Bool)
  | 0, _, _, _, _, _, _, _, _, _, _ => none
  | k + 1, x2, x7, x8, x9, x11, x13, x17, x18, x19, x155 => if x155 = true then (some false) else (if 0 ≤ x19 then (if x19 < (x13.length : Int) then (if (rd x13 x19) = 1 then (pomadelaw06_PoleListed.l2 k x2 x7 x8 x9 x11 x13 (wrap64 (x17 + (rd x13 x19))) (wrap64 (x18 + 1)) (wrap64 (x19 + 1))) else (pomadelaw06_PoleListed.l2 k x2 x7 x8 x9 x11 x13 (wrap64 (x17 + (rd x13 x19))) x18 (wrap64 (x19 + 1)))) else (none)) else (none))
def pomadelaw06_PoleListed.l3 : Nat → Int → Int → Int → List Int → List Int → Int → Int → Int → Option (Bool)
  | 0, _, _, _, _, _, _, _, _ => none
  | k + 1, x2, x7, x8, x9, x11, x17, x18, x20 => if x20 < x7 then (if 0 ≤ x20 then (if x20 < (x9.length : Int) then (if (rd x9 x20) = x20 then (pomadelaw06_PoleListed.l3 k x2 x7 x8 x9 x11 x17 (wrap64 (x18 - 1)) (wrap64 (x20 + 1))) else (pomadelaw06_PoleListed.l3 k x2 x7 x8 x9 x11 x17 x18 (wrap64 (x20 + 1)))) else (none)) else (none)) else (if x7 = 0 then (none) else ((pole_At.f k x7 x8 (Int.tmod (wrap64 (x2)) x7)).bind fun bt379 => ((pole_Turn.f k x7 x8 (Int.tmod (wrap64 (x2)) x7)).bind fun bt381 => ((pole_Last.f k x7 x8).bind fun bt383 => (if bt379.2 = 0 then (if bt381.2 = 0 then (if bt383.2 = 0 then (if 0 ≤ (Int.tmod (wrap64 (x2)) x7) then (if (Int.tmod (wrap64 (x2)) x7) < (x9.length : Int) then (if bt379.1 = (rd x9 (Int.tmod (wrap64 (x2)) x7)) then (if (Int.tmod (wrap64 (x2)) x7) < (x11.length : Int) then (if bt381.1 = (rd x11 (Int.tmod (wrap64 (x2)) x7)) then (if 0 ≤ (wrap64 (x7 - 1)) then (if (wrap64 (x7 - 1)) < (x9.length : Int) then (if bt383.1 = (rd x9 (wrap64 (x7 - 1))) then (if x17 = x7 then (if x18 = 0 then ((pomadelaw06_alive.f k).bind fun t388 => (some t388)) else (some false)) else (some false)) else (some false)) else (none)) else (none)) else (some false)) else (none)) else (some false)) else (none)) else (none)) else (some false)) else (some false)) else (some false))))))
end
def pomadelaw06_PoleListed.f (k : Nat) (a0 : Int) (a1 : Int) (a2 : Int) : Option (Bool) := (pomadelaw06_step.f a1).bind fun t352 => ((pole_Order.f (wrap64 (1 + (wrap64 (Int.tmod a0 300)))) t352).bind fun bt353 => ((pole_Inverse.f k (wrap64 (1 + (wrap64 (Int.tmod a0 300)))) t352).bind fun bt357 => ((pole_Cycles.f k (wrap64 (1 + (wrap64 (Int.tmod a0 300)))) t352).bind fun bt361 => (if bt353.2 = 0 then (if bt357.2 = 0 then (if bt361.2 = 0 then (if (bt353.1.length : Int) = (wrap64 (1 + (wrap64 (Int.tmod a0 300)))) then (pomadelaw06_PoleListed.j0 k a2 (wrap64 (1 + (wrap64 (Int.tmod a0 300)))) t352 bt353.1 bt357.1 bt361.1 ((bt357.1.length : Int) != (wrap64 (1 + (wrap64 (Int.tmod a0 300)))))) else (pomadelaw06_PoleListed.j0 k a2 (wrap64 (1 + (wrap64 (Int.tmod a0 300)))) t352 bt353.1 bt357.1 bt361.1 true)) else (pomadelaw06_PoleListed.j0 k a2 (wrap64 (1 + (wrap64 (Int.tmod a0 300)))) t352 bt353.1 bt357.1 bt361.1 true)) else (pomadelaw06_PoleListed.j0 k a2 (wrap64 (1 + (wrap64 (Int.tmod a0 300)))) t352 bt353.1 bt357.1 bt361.1 true)) else (pomadelaw06_PoleListed.j0 k a2 (wrap64 (1 + (wrap64 (Int.tmod a0 300)))) t352 bt353.1 bt357.1 bt361.1 true)))))
theorem pomadelaw06_PoleListed.mono_l : ∀ k, (∀ y0 y1 y2 y3 y4 y5 y6, LeO (pomadelaw06_PoleListed.j0 k y0 y1 y2 y3 y4 y5 y6) (pomadelaw06_PoleListed.j0 (k + 1) y0 y1 y2 y3 y4 y5 y6)) ∧ (∀ y0 y1 y2 y3 y4 y5 y6, LeO (pomadelaw06_PoleListed.l0 k y0 y1 y2 y3 y4 y5 y6) (pomadelaw06_PoleListed.l0 (k + 1) y0 y1 y2 y3 y4 y5 y6)) ∧ (∀ y0 y1 y2 y3 y4 y5 y6, LeO (pomadelaw06_PoleListed.l1 k y0 y1 y2 y3 y4 y5 y6) (pomadelaw06_PoleListed.l1 (k + 1) y0 y1 y2 y3 y4 y5 y6)) ∧ (∀ y0 y1 y2 y3 y4 y5 y6 y7 y8, LeO (pomadelaw06_PoleListed.l2 k y0 y1 y2 y3 y4 y5 y6 y7 y8) (pomadelaw06_PoleListed.l2 (k + 1) y0 y1 y2 y3 y4 y5 y6 y7 y8)) ∧ (∀ y0 y1 y2 y3 y4 y5 y6 y7 y8 y9, LeO (pomadelaw06_PoleListed.j4 k y0 y1 y2 y3 y4 y5 y6 y7 y8 y9) (pomadelaw06_PoleListed.j4 (k + 1) y0 y1 y2 y3 y4 y5 y6 y7 y8 y9)) ∧ (∀ y0 y1 y2 y3 y4 y5 y6 y7, LeO (pomadelaw06_PoleListed.l3 k y0 y1 y2 y3 y4 y5 y6 y7) (pomadelaw06_PoleListed.l3 (k + 1) y0 y1 y2 y3 y4 y5 y6 y7))
  | 0 => ⟨fun _ _ _ _ _ _ _ r h => by simp [pomadelaw06_PoleListed.j0] at h, fun _ _ _ _ _ _ _ r h => by simp [pomadelaw06_PoleListed.l0] at h, fun _ _ _ _ _ _ _ r h => by simp [pomadelaw06_PoleListed.l1] at h, fun _ _ _ _ _ _ _ _ _ r h => by simp [pomadelaw06_PoleListed.l2] at h, fun _ _ _ _ _ _ _ _ _ _ r h => by simp [pomadelaw06_PoleListed.j4] at h, fun _ _ _ _ _ _ _ _ r h => by simp [pomadelaw06_PoleListed.l3] at h⟩
  | k + 1 => by
    obtain ⟨ih0, ih1, ih2, ih3, ih4, ih5⟩ := pomadelaw06_PoleListed.mono_l k
    refine ⟨?_, ?_, ?_, ?_, ?_, ?_⟩
    · intro y0 y1 y2 y3 y4 y5 y6
      unfold pomadelaw06_PoleListed.j0
      repeat' first
      | (with_reducible exact ih0 _ _ _ _ _ _ _)
      | (with_reducible exact ih1 _ _ _ _ _ _ _)
      | (with_reducible exact ih2 _ _ _ _ _ _ _)
      | (with_reducible exact ih3 _ _ _ _ _ _ _ _ _)
      | (with_reducible exact ih4 _ _ _ _ _ _ _ _ _ _)
      | (with_reducible exact ih5 _ _ _ _ _ _ _ _)
      | (with_reducible exact pole_At.mono _ _ _ _)
      | (with_reducible exact pole_Cycles.mono _ _ _)
      | (with_reducible exact pole_Inverse.mono _ _ _)
      | (with_reducible exact pole_Last.mono _ _ _)
      | (with_reducible exact pole_Turn.mono _ _ _ _)
      | (with_reducible exact pomadelaw06_alive.mono _)
      | (with_reducible exact LeO.refl _)
      | (with_reducible exact LeO.none _)
      | (with_reducible refine LeO.ite ?_ ?_)
      | (with_reducible refine LeO.bind ?_ (fun _ => ?_))
      | exact ih0 _ _ _ _ _ _ _
      | exact ih1 _ _ _ _ _ _ _
      | exact ih2 _ _ _ _ _ _ _
      | exact ih3 _ _ _ _ _ _ _ _ _
      | exact ih4 _ _ _ _ _ _ _ _ _ _
      | exact ih5 _ _ _ _ _ _ _ _
      | exact pole_At.mono _ _ _ _
      | exact pole_Cycles.mono _ _ _
      | exact pole_Inverse.mono _ _ _
      | exact pole_Last.mono _ _ _
      | exact pole_Turn.mono _ _ _ _
      | exact pomadelaw06_alive.mono _
      | exact LeO.none _
      | refine LeO.ite ?_ ?_
      | refine LeO.bind ?_ (fun _ => ?_)
    · intro y0 y1 y2 y3 y4 y5 y6
      unfold pomadelaw06_PoleListed.l0
      repeat' first
      | (with_reducible exact ih0 _ _ _ _ _ _ _)
      | (with_reducible exact ih1 _ _ _ _ _ _ _)
      | (with_reducible exact ih2 _ _ _ _ _ _ _)
      | (with_reducible exact ih3 _ _ _ _ _ _ _ _ _)
      | (with_reducible exact ih4 _ _ _ _ _ _ _ _ _ _)
      | (with_reducible exact ih5 _ _ _ _ _ _ _ _)
      | (with_reducible exact pole_At.mono _ _ _ _)
      | (with_reducible exact pole_Cycles.mono _ _ _)
      | (with_reducible exact pole_Inverse.mono _ _ _)
      | (with_reducible exact pole_Last.mono _ _ _)
      | (with_reducible exact pole_Turn.mono _ _ _ _)
      | (with_reducible exact pomadelaw06_alive.mono _)
      | (with_reducible exact LeO.refl _)
      | (with_reducible exact LeO.none _)
      | (with_reducible refine LeO.ite ?_ ?_)
      | (with_reducible refine LeO.bind ?_ (fun _ => ?_))
      | exact ih0 _ _ _ _ _ _ _
      | exact ih1 _ _ _ _ _ _ _
      | exact ih2 _ _ _ _ _ _ _
      | exact ih3 _ _ _ _ _ _ _ _ _
      | exact ih4 _ _ _ _ _ _ _ _ _ _
      | exact ih5 _ _ _ _ _ _ _ _
      | exact pole_At.mono _ _ _ _
      | exact pole_Cycles.mono _ _ _
      | exact pole_Inverse.mono _ _ _
      | exact pole_Last.mono _ _ _
      | exact pole_Turn.mono _ _ _ _
      | exact pomadelaw06_alive.mono _
      | exact LeO.none _
      | refine LeO.ite ?_ ?_
      | refine LeO.bind ?_ (fun _ => ?_)
    · intro y0 y1 y2 y3 y4 y5 y6
      unfold pomadelaw06_PoleListed.l1
      repeat' first
      | (with_reducible exact ih0 _ _ _ _ _ _ _)
      | (with_reducible exact ih1 _ _ _ _ _ _ _)
      | (with_reducible exact ih2 _ _ _ _ _ _ _)
      | (with_reducible exact ih3 _ _ _ _ _ _ _ _ _)
      | (with_reducible exact ih4 _ _ _ _ _ _ _ _ _ _)
      | (with_reducible exact ih5 _ _ _ _ _ _ _ _)
      | (with_reducible exact pole_At.mono _ _ _ _)
      | (with_reducible exact pole_Cycles.mono _ _ _)
      | (with_reducible exact pole_Inverse.mono _ _ _)
      | (with_reducible exact pole_Last.mono _ _ _)
      | (with_reducible exact pole_Turn.mono _ _ _ _)
      | (with_reducible exact pomadelaw06_alive.mono _)
      | (with_reducible exact LeO.refl _)
      | (with_reducible exact LeO.none _)
      | (with_reducible refine LeO.ite ?_ ?_)
      | (with_reducible refine LeO.bind ?_ (fun _ => ?_))
      | exact ih0 _ _ _ _ _ _ _
      | exact ih1 _ _ _ _ _ _ _
      | exact ih2 _ _ _ _ _ _ _
      | exact ih3 _ _ _ _ _ _ _ _ _
      | exact ih4 _ _ _ _ _ _ _ _ _ _
      | exact ih5 _ _ _ _ _ _ _ _
      | exact pole_At.mono _ _ _ _
      | exact pole_Cycles.mono _ _ _
      | exact pole_Inverse.mono _ _ _
      | exact pole_Last.mono _ _ _
      | exact pole_Turn.mono _ _ _ _
      | exact pomadelaw06_alive.mono _
      | exact LeO.none _
      | refine LeO.ite ?_ ?_
      | refine LeO.bind ?_ (fun _ => ?_)
    · intro y0 y1 y2 y3 y4 y5 y6 y7 y8
      unfold pomadelaw06_PoleListed.l2
      repeat' first
      | (with_reducible exact ih0 _ _ _ _ _ _ _)
      | (with_reducible exact ih1 _ _ _ _ _ _ _)
      | (with_reducible exact ih2 _ _ _ _ _ _ _)
      | (with_reducible exact ih3 _ _ _ _ _ _ _ _ _)
      | (with_reducible exact ih4 _ _ _ _ _ _ _ _ _ _)
      | (with_reducible exact ih5 _ _ _ _ _ _ _ _)
      | (with_reducible exact pole_At.mono _ _ _ _)
      | (with_reducible exact pole_Cycles.mono _ _ _)
      | (with_reducible exact pole_Inverse.mono _ _ _)
      | (with_reducible exact pole_Last.mono _ _ _)
      | (with_reducible exact pole_Turn.mono _ _ _ _)
      | (with_reducible exact pomadelaw06_alive.mono _)
      | (with_reducible exact LeO.refl _)
      | (with_reducible exact LeO.none _)
      | (with_reducible refine LeO.ite ?_ ?_)
      | (with_reducible refine LeO.bind ?_ (fun _ => ?_))
      | exact ih0 _ _ _ _ _ _ _
      | exact ih1 _ _ _ _ _ _ _
      | exact ih2 _ _ _ _ _ _ _
      | exact ih3 _ _ _ _ _ _ _ _ _
      | exact ih4 _ _ _ _ _ _ _ _ _ _
      | exact ih5 _ _ _ _ _ _ _ _
      | exact pole_At.mono _ _ _ _
      | exact pole_Cycles.mono _ _ _
      | exact pole_Inverse.mono _ _ _
      | exact pole_Last.mono _ _ _
      | exact pole_Turn.mono _ _ _ _
      | exact pomadelaw06_alive.mono _
      | exact LeO.none _
      | refine LeO.ite ?_ ?_
      | refine LeO.bind ?_ (fun _ => ?_)
    · intro y0 y1 y2 y3 y4 y5 y6 y7 y8 y9
      unfold pomadelaw06_PoleListed.j4
      repeat' first
      | (with_reducible exact ih0 _ _ _ _ _ _ _)
      | (with_reducible exact ih1 _ _ _ _ _ _ _)
      | (with_reducible exact ih2 _ _ _ _ _ _ _)
      | (with_reducible exact ih3 _ _ _ _ _ _ _ _ _)
      | (with_reducible exact ih4 _ _ _ _ _ _ _ _ _ _)
      | (with_reducible exact ih5 _ _ _ _ _ _ _ _)
      | (with_reducible exact pole_At.mono _ _ _ _)
      | (with_reducible exact pole_Cycles.mono _ _ _)
      | (with_reducible exact pole_Inverse.mono _ _ _)
      | (with_reducible exact pole_Last.mono _ _ _)
      | (with_reducible exact pole_Turn.mono _ _ _ _)
      | (with_reducible exact pomadelaw06_alive.mono _)
      | (with_reducible exact LeO.refl _)
      | (with_reducible exact LeO.none _)
      | (with_reducible refine LeO.ite ?_ ?_)
      | (with_reducible refine LeO.bind ?_ (fun _ => ?_))
      | exact ih0 _ _ _ _ _ _ _
      | exact ih1 _ _ _ _ _ _ _
      | exact ih2 _ _ _ _ _ _ _
      | exact ih3 _ _ _ _ _ _ _ _ _
      | exact ih4 _ _ _ _ _ _ _ _ _ _
      | exact ih5 _ _ _ _ _ _ _ _
      | exact pole_At.mono _ _ _ _
      | exact pole_Cycles.mono _ _ _
      | exact pole_Inverse.mono _ _ _
      | exact pole_Last.mono _ _ _
      | exact pole_Turn.mono _ _ _ _
      | exact pomadelaw06_alive.mono _
      | exact LeO.none _
      | refine LeO.ite ?_ ?_
      | refine LeO.bind ?_ (fun _ => ?_)
    · intro y0 y1 y2 y3 y4 y5 y6 y7
      unfold pomadelaw06_PoleListed.l3
      repeat' first
      | (with_reducible exact ih0 _ _ _ _ _ _ _)
      | (with_reducible exact ih1 _ _ _ _ _ _ _)
      | (with_reducible exact ih2 _ _ _ _ _ _ _)
      | (with_reducible exact ih3 _ _ _ _ _ _ _ _ _)
      | (with_reducible exact ih4 _ _ _ _ _ _ _ _ _ _)
      | (with_reducible exact ih5 _ _ _ _ _ _ _ _)
      | (with_reducible exact pole_At.mono _ _ _ _)
      | (with_reducible exact pole_Cycles.mono _ _ _)
      | (with_reducible exact pole_Inverse.mono _ _ _)
      | (with_reducible exact pole_Last.mono _ _ _)
      | (with_reducible exact pole_Turn.mono _ _ _ _)
      | (with_reducible exact pomadelaw06_alive.mono _)
      | (with_reducible exact LeO.refl _)
      | (with_reducible exact LeO.none _)
      | (with_reducible refine LeO.ite ?_ ?_)
      | (with_reducible refine LeO.bind ?_ (fun _ => ?_))
      | exact ih0 _ _ _ _ _ _ _
      | exact ih1 _ _ _ _ _ _ _
      | exact ih2 _ _ _ _ _ _ _
      | exact ih3 _ _ _ _ _ _ _ _ _
      | exact ih4 _ _ _ _ _ _ _ _ _ _
      | exact ih5 _ _ _ _ _ _ _ _
      | exact pole_At.mono _ _ _ _
      | exact pole_Cycles.mono _ _ _
      | exact pole_Inverse.mono _ _ _
      | exact pole_Last.mono _ _ _
      | exact pole_Turn.mono _ _ _ _
      | exact pomadelaw06_alive.mono _
      | exact LeO.none _
      | refine LeO.ite ?_ ?_
      | refine LeO.bind ?_ (fun _ => ?_)
theorem pomadelaw06_PoleListed.mono : ∀ a0 a1 a2 k, LeO (pomadelaw06_PoleListed.f k a0 a1 a2) (pomadelaw06_PoleListed.f (k + 1) a0 a1 a2) := by
  intro a0 a1 a2 k
  obtain ⟨ih0, ih1, ih2, ih3, ih4, ih5⟩ := pomadelaw06_PoleListed.mono_l k
  unfold pomadelaw06_PoleListed.f
  repeat' first
      | (with_reducible exact ih0 _ _ _ _ _ _ _)
      | (with_reducible exact ih1 _ _ _ _ _ _ _)
      | (with_reducible exact ih2 _ _ _ _ _ _ _)
      | (with_reducible exact ih3 _ _ _ _ _ _ _ _ _)
      | (with_reducible exact ih4 _ _ _ _ _ _ _ _ _ _)
      | (with_reducible exact ih5 _ _ _ _ _ _ _ _)
      | (with_reducible exact pole_At.mono _ _ _ _)
      | (with_reducible exact pole_Cycles.mono _ _ _)
      | (with_reducible exact pole_Inverse.mono _ _ _)
      | (with_reducible exact pole_Last.mono _ _ _)
      | (with_reducible exact pole_Turn.mono _ _ _ _)
      | (with_reducible exact pomadelaw06_alive.mono _)
      | (with_reducible exact LeO.refl _)
      | (with_reducible exact LeO.none _)
      | (with_reducible refine LeO.ite ?_ ?_)
      | (with_reducible refine LeO.bind ?_ (fun _ => ?_))
      | exact ih0 _ _ _ _ _ _ _
      | exact ih1 _ _ _ _ _ _ _
      | exact ih2 _ _ _ _ _ _ _
      | exact ih3 _ _ _ _ _ _ _ _ _
      | exact ih4 _ _ _ _ _ _ _ _ _ _
      | exact ih5 _ _ _ _ _ _ _ _
      | exact pole_At.mono _ _ _ _
      | exact pole_Cycles.mono _ _ _
      | exact pole_Inverse.mono _ _ _
      | exact pole_Last.mono _ _ _
      | exact pole_Turn.mono _ _ _ _
      | exact pomadelaw06_alive.mono _
      | exact LeO.none _
      | refine LeO.ite ?_ ?_
      | refine LeO.bind ?_ (fun _ => ?_)
set_option maxHeartbeats 8000000 in
set_option maxRecDepth 100000 in
theorem pomadelaw06_PoleListed.calls (k : Nat) (a0 : Int) (a1 : Int) (a2 : Int) (r : Bool) (w : World) (h : pomadelaw06_PoleListed.f k a0 a1 a2 = some r) :
    Calls Try.prog 15 #[.int .u16 a0, .int .u16 a1, .int .u16 a2] w fun e w' => e = .returned (.bool r) ∧ Below w.heap.size w w' := by
  have HB := Aside0.mk (Below.refl w.heap.size w)
  have H : ((pomadelaw06_step.f a1).bind fun t352 => ((pole_Order.f (wrap64 (1 + (wrap64 (Int.tmod a0 300)))) t352).bind fun bt353 => ((pole_Inverse.f k (wrap64 (1 + (wrap64 (Int.tmod a0 300)))) t352).bind fun bt357 => ((pole_Cycles.f k (wrap64 (1 + (wrap64 (Int.tmod a0 300)))) t352).bind fun bt361 => (if bt353.2 = 0 then (if bt357.2 = 0 then (if bt361.2 = 0 then (if (bt353.1.length : Int) = (wrap64 (1 + (wrap64 (Int.tmod a0 300)))) then (pomadelaw06_PoleListed.j0 k a2 (wrap64 (1 + (wrap64 (Int.tmod a0 300)))) t352 bt353.1 bt357.1 bt361.1 ((bt357.1.length : Int) != (wrap64 (1 + (wrap64 (Int.tmod a0 300)))))) else (pomadelaw06_PoleListed.j0 k a2 (wrap64 (1 + (wrap64 (Int.tmod a0 300)))) t352 bt353.1 bt357.1 bt361.1 true)) else (pomadelaw06_PoleListed.j0 k a2 (wrap64 (1 + (wrap64 (Int.tmod a0 300)))) t352 bt353.1 bt357.1 bt361.1 true)) else (pomadelaw06_PoleListed.j0 k a2 (wrap64 (1 + (wrap64 (Int.tmod a0 300)))) t352 bt353.1 bt357.1 bt361.1 true)) else (pomadelaw06_PoleListed.j0 k a2 (wrap64 (1 + (wrap64 (Int.tmod a0 300)))) t352 bt353.1 bt357.1 bt361.1 true)))))) = some r := h
  clear h
  replace H := Option.bind_eq_some_iff.mp H
  obtain ⟨t352, A40, H⟩ := H
  replace H : ((pole_Order.f (wrap64 (1 + (wrap64 (Int.tmod a0 300)))) t352).bind fun bt353 => ((pole_Inverse.f k (wrap64 (1 + (wrap64 (Int.tmod a0 300)))) t352).bind fun bt357 => ((pole_Cycles.f k (wrap64 (1 + (wrap64 (Int.tmod a0 300)))) t352).bind fun bt361 => (if bt353.2 = 0 then (if bt357.2 = 0 then (if bt361.2 = 0 then (if (bt353.1.length : Int) = (wrap64 (1 + (wrap64 (Int.tmod a0 300)))) then (pomadelaw06_PoleListed.j0 k a2 (wrap64 (1 + (wrap64 (Int.tmod a0 300)))) t352 bt353.1 bt357.1 bt361.1 ((bt357.1.length : Int) != (wrap64 (1 + (wrap64 (Int.tmod a0 300)))))) else (pomadelaw06_PoleListed.j0 k a2 (wrap64 (1 + (wrap64 (Int.tmod a0 300)))) t352 bt353.1 bt357.1 bt361.1 true)) else (pomadelaw06_PoleListed.j0 k a2 (wrap64 (1 + (wrap64 (Int.tmod a0 300)))) t352 bt353.1 bt357.1 bt361.1 true)) else (pomadelaw06_PoleListed.j0 k a2 (wrap64 (1 + (wrap64 (Int.tmod a0 300)))) t352 bt353.1 bt357.1 bt361.1 true)) else (pomadelaw06_PoleListed.j0 k a2 (wrap64 (1 + (wrap64 (Int.tmod a0 300)))) t352 bt353.1 bt357.1 bt361.1 true))))) = some r := H
  have A4 := Aside0.mk A40
  clear A40
  replace H := Option.bind_eq_some_iff.mp H
  obtain ⟨⟨t353, t354⟩, A50, H⟩ := H
  replace H : ((pole_Inverse.f k (wrap64 (1 + (wrap64 (Int.tmod a0 300)))) t352).bind fun bt357 => ((pole_Cycles.f k (wrap64 (1 + (wrap64 (Int.tmod a0 300)))) t352).bind fun bt361 => (if t354 = 0 then (if bt357.2 = 0 then (if bt361.2 = 0 then (if (t353.length : Int) = (wrap64 (1 + (wrap64 (Int.tmod a0 300)))) then (pomadelaw06_PoleListed.j0 k a2 (wrap64 (1 + (wrap64 (Int.tmod a0 300)))) t352 t353 bt357.1 bt361.1 ((bt357.1.length : Int) != (wrap64 (1 + (wrap64 (Int.tmod a0 300)))))) else (pomadelaw06_PoleListed.j0 k a2 (wrap64 (1 + (wrap64 (Int.tmod a0 300)))) t352 t353 bt357.1 bt361.1 true)) else (pomadelaw06_PoleListed.j0 k a2 (wrap64 (1 + (wrap64 (Int.tmod a0 300)))) t352 t353 bt357.1 bt361.1 true)) else (pomadelaw06_PoleListed.j0 k a2 (wrap64 (1 + (wrap64 (Int.tmod a0 300)))) t352 t353 bt357.1 bt361.1 true)) else (pomadelaw06_PoleListed.j0 k a2 (wrap64 (1 + (wrap64 (Int.tmod a0 300)))) t352 t353 bt357.1 bt361.1 true)))) = some r := H
  have A5 := Aside0.mk A50
  clear A50
  replace H := Option.bind_eq_some_iff.mp H
  obtain ⟨⟨t357, t358⟩, A60, H⟩ := H
  replace H : ((pole_Cycles.f k (wrap64 (1 + (wrap64 (Int.tmod a0 300)))) t352).bind fun bt361 => (if t354 = 0 then (if t358 = 0 then (if bt361.2 = 0 then (if (t353.length : Int) = (wrap64 (1 + (wrap64 (Int.tmod a0 300)))) then (pomadelaw06_PoleListed.j0 k a2 (wrap64 (1 + (wrap64 (Int.tmod a0 300)))) t352 t353 t357 bt361.1 ((t357.length : Int) != (wrap64 (1 + (wrap64 (Int.tmod a0 300)))))) else (pomadelaw06_PoleListed.j0 k a2 (wrap64 (1 + (wrap64 (Int.tmod a0 300)))) t352 t353 t357 bt361.1 true)) else (pomadelaw06_PoleListed.j0 k a2 (wrap64 (1 + (wrap64 (Int.tmod a0 300)))) t352 t353 t357 bt361.1 true)) else (pomadelaw06_PoleListed.j0 k a2 (wrap64 (1 + (wrap64 (Int.tmod a0 300)))) t352 t353 t357 bt361.1 true)) else (pomadelaw06_PoleListed.j0 k a2 (wrap64 (1 + (wrap64 (Int.tmod a0 300)))) t352 t353 t357 bt361.1 true))) = some r := H
  have A6 := Aside0.mk A60
  clear A60
  replace H := Option.bind_eq_some_iff.mp H
  obtain ⟨⟨t361, t362⟩, A70, H⟩ := H
  replace H : (if t354 = 0 then (if t358 = 0 then (if t362 = 0 then (if (t353.length : Int) = (wrap64 (1 + (wrap64 (Int.tmod a0 300)))) then (pomadelaw06_PoleListed.j0 k a2 (wrap64 (1 + (wrap64 (Int.tmod a0 300)))) t352 t353 t357 t361 ((t357.length : Int) != (wrap64 (1 + (wrap64 (Int.tmod a0 300)))))) else (pomadelaw06_PoleListed.j0 k a2 (wrap64 (1 + (wrap64 (Int.tmod a0 300)))) t352 t353 t357 t361 true)) else (pomadelaw06_PoleListed.j0 k a2 (wrap64 (1 + (wrap64 (Int.tmod a0 300)))) t352 t353 t357 t361 true)) else (pomadelaw06_PoleListed.j0 k a2 (wrap64 (1 + (wrap64 (Int.tmod a0 300)))) t352 t353 t357 t361 true)) else (pomadelaw06_PoleListed.j0 k a2 (wrap64 (1 + (wrap64 (Int.tmod a0 300)))) t352 t353 t357 t361 true)) = some r := H
  have A7 := Aside0.mk A70
  clear A70
  have HC8 := Aside0.mk H
  clear H
  go_enter Try.func15, Try.ntmps15
  go_upto_region 5 with (first | (go_at_call 24; (with_reducible refine (pomadelaw06_step.calls a1 t352 _ A4.out).mono ?_); rintro e w' ⟨rfl, ⟨nd, rfl⟩⟩; (try first | exact ⟨rfl, _, World.drewN_drewN _ _ _⟩ | exact ⟨rfl, _, Eq.trans (World.drewN_drewN _ _ _) (congrArg (World.drewN _) (Nat.add_assoc _ _ _))⟩)) | (go_at_call 26; (with_reducible refine (pole_Order.calls (wrap64 (1 + (wrap64 (Int.tmod a0 300)))) t352 t353 t354 _ A5.out).mono ?_); rintro e w9 ⟨v355, rfl, ho0, hb⟩; have n0_ := Aside0.mk (Kd.R_lower ho0 (below_size (by repeat (first | (with_reducible first | exact HB.out | apply below_alloc | apply pw_below_drewN | apply below_drew1) | exact HB.out)))); have n1_ := Aside0.mk (below_step (by repeat (first | (with_reducible first | exact HB.out | apply below_alloc | apply pw_below_drewN | apply below_drew1) | exact HB.out)) hb); clear HB; have HO356 := n0_; have HB := n1_; clear n0_ n1_; (try clear hb); (try clear hb2); (try clear hk); (try clear hi); (try clear ho0)) | (go_at_call 38; (with_reducible refine (pole_Inverse.calls k (wrap64 (1 + (wrap64 (Int.tmod a0 300)))) t352 t357 t358 _ A6.out).mono ?_); rintro e w10 ⟨v359, rfl, ho0, hb⟩; have n0_ := Aside0.mk (Kd.R_elder' (by (with_reducible repeat (first | apply Kd.R_alloc | apply Kd.R_drewN | apply Kd.R_drew)); exact HO356.out) (Kd.R_base ho0) hb); have n1_ := Aside0.mk (Kd.R_lower (Kd.R_new' ho0 (Kd.R_lt (by (with_reducible repeat (first | apply Kd.R_alloc | apply Kd.R_drewN | apply Kd.R_drew)); exact HO356.out))) (below_size (by repeat (first | (with_reducible first | exact HB.out | apply below_alloc | apply pw_below_drewN | apply below_drew1) | exact HB.out)))); have n2_ := Aside0.mk (below_step (by repeat (first | (with_reducible first | exact HB.out | apply below_alloc | apply pw_below_drewN | apply below_drew1) | exact HB.out)) hb); clear HO356; clear HB; have HO356 := n0_; have HO360 := n1_; have HB := n2_; clear n0_ n1_ n2_; (try clear hb); (try clear hb2); (try clear hk); (try clear hi); (try clear ho0)) | (go_at_call 40; (with_reducible refine (pole_Cycles.calls k (wrap64 (1 + (wrap64 (Int.tmod a0 300)))) t352 t361 t362 _ A7.out).mono ?_); rintro e w11 ⟨v363, rfl, ho0, hb⟩; have n0_ := Aside0.mk (Kd.R_elder' (by (with_reducible repeat (first | apply Kd.R_alloc | apply Kd.R_drewN | apply Kd.R_drew)); exact HO356.out) (Kd.R_base ho0) hb); have n1_ := Aside0.mk (Kd.R_elder' (by (with_reducible repeat (first | apply Kd.R_alloc | apply Kd.R_drewN | apply Kd.R_drew)); exact HO360.out) (Kd.R_base ho0) hb); have n2_ := Aside0.mk (Kd.R_lower (Kd.R_new' (Kd.R_new' ho0 (Kd.R_lt (by (with_reducible repeat (first | apply Kd.R_alloc | apply Kd.R_drewN | apply Kd.R_drew)); exact HO356.out))) (Kd.R_lt (by (with_reducible repeat (first | apply Kd.R_alloc | apply Kd.R_drewN | apply Kd.R_drew)); exact HO360.out))) (below_size (by repeat (first | (with_reducible first | exact HB.out | apply below_alloc | apply pw_below_drewN | apply below_drew1) | exact HB.out)))); have n3_ := Aside0.mk (below_step (by repeat (first | (with_reducible first | exact HB.out | apply below_alloc | apply pw_below_drewN | apply below_drew1) | exact HB.out)) hb); clear HO356; clear HO360; clear HB; have HO356 := n0_; have HO360 := n1_; have HO364 := n2_; have HB := n3_; clear n0_ n1_ n2_ n3_; (try clear hb); (try clear hb2); (try clear hk); (try clear hi); (try clear ho0)))
  repeat (go_quiet (first | (go_at_call 24; (with_reducible refine (pomadelaw06_step.calls a1 t352 _ A4.out).mono ?_); rintro e w' ⟨rfl, ⟨nd, rfl⟩⟩; (try first | exact ⟨rfl, _, World.drewN_drewN _ _ _⟩ | exact ⟨rfl, _, Eq.trans (World.drewN_drewN _ _ _) (congrArg (World.drewN _) (Nat.add_assoc _ _ _))⟩)) | (go_at_call 26; (with_reducible refine (pole_Order.calls (wrap64 (1 + (wrap64 (Int.tmod a0 300)))) t352 t353 t354 _ A5.out).mono ?_); rintro e w9 ⟨v355, rfl, ho0, hb⟩; have n0_ := Aside0.mk (Kd.R_lower ho0 (below_size (by repeat (first | (with_reducible first | exact HB.out | apply below_alloc | apply pw_below_drewN | apply below_drew1) | exact HB.out)))); have n1_ := Aside0.mk (below_step (by repeat (first | (with_reducible first | exact HB.out | apply below_alloc | apply pw_below_drewN | apply below_drew1) | exact HB.out)) hb); clear HB; have HO356 := n0_; have HB := n1_; clear n0_ n1_; (try clear hb); (try clear hb2); (try clear hk); (try clear hi); (try clear ho0)) | (go_at_call 38; (with_reducible refine (pole_Inverse.calls k (wrap64 (1 + (wrap64 (Int.tmod a0 300)))) t352 t357 t358 _ A6.out).mono ?_); rintro e w10 ⟨v359, rfl, ho0, hb⟩; have n0_ := Aside0.mk (Kd.R_elder' (by (with_reducible repeat (first | apply Kd.R_alloc | apply Kd.R_drewN | apply Kd.R_drew)); exact HO356.out) (Kd.R_base ho0) hb); have n1_ := Aside0.mk (Kd.R_lower (Kd.R_new' ho0 (Kd.R_lt (by (with_reducible repeat (first | apply Kd.R_alloc | apply Kd.R_drewN | apply Kd.R_drew)); exact HO356.out))) (below_size (by repeat (first | (with_reducible first | exact HB.out | apply below_alloc | apply pw_below_drewN | apply below_drew1) | exact HB.out)))); have n2_ := Aside0.mk (below_step (by repeat (first | (with_reducible first | exact HB.out | apply below_alloc | apply pw_below_drewN | apply below_drew1) | exact HB.out)) hb); clear HO356; clear HB; have HO356 := n0_; have HO360 := n1_; have HB := n2_; clear n0_ n1_ n2_; (try clear hb); (try clear hb2); (try clear hk); (try clear hi); (try clear ho0)) | (go_at_call 40; (with_reducible refine (pole_Cycles.calls k (wrap64 (1 + (wrap64 (Int.tmod a0 300)))) t352 t361 t362 _ A7.out).mono ?_); rintro e w11 ⟨v363, rfl, ho0, hb⟩; have n0_ := Aside0.mk (Kd.R_elder' (by (with_reducible repeat (first | apply Kd.R_alloc | apply Kd.R_drewN | apply Kd.R_drew)); exact HO356.out) (Kd.R_base ho0) hb); have n1_ := Aside0.mk (Kd.R_elder' (by (with_reducible repeat (first | apply Kd.R_alloc | apply Kd.R_drewN | apply Kd.R_drew)); exact HO360.out) (Kd.R_base ho0) hb); have n2_ := Aside0.mk (Kd.R_lower (Kd.R_new' (Kd.R_new' ho0 (Kd.R_lt (by (with_reducible repeat (first | apply Kd.R_alloc | apply Kd.R_drewN | apply Kd.R_drew)); exact HO356.out))) (Kd.R_lt (by (with_reducible repeat (first | apply Kd.R_alloc | apply Kd.R_drewN | apply Kd.R_drew)); exact HO360.out))) (below_size (by repeat (first | (with_reducible first | exact HB.out | apply below_alloc | apply pw_below_drewN | apply below_drew1) | exact HB.out)))); have n3_ := Aside0.mk (below_step (by repeat (first | (with_reducible first | exact HB.out | apply below_alloc | apply pw_below_drewN | apply below_drew1) | exact HB.out)) hb); clear HO356; clear HO360; clear HB; have HO356 := n0_; have HO360 := n1_; have HO364 := n2_; have HB := n3_; clear n0_ n1_ n2_ n3_; (try clear hb); (try clear hb2); (try clear hk); (try clear hi); (try clear ho0))); go_upto_region 5 with (first | (go_at_call 24; (with_reducible refine (pomadelaw06_step.calls a1 t352 _ A4.out).mono ?_); rintro e w' ⟨rfl, ⟨nd, rfl⟩⟩; (try first | exact ⟨rfl, _, World.drewN_drewN _ _ _⟩ | exact ⟨rfl, _, Eq.trans (World.drewN_drewN _ _ _) (congrArg (World.drewN _) (Nat.add_assoc _ _ _))⟩)) | (go_at_call 26; (with_reducible refine (pole_Order.calls (wrap64 (1 + (wrap64 (Int.tmod a0 300)))) t352 t353 t354 _ A5.out).mono ?_); rintro e w9 ⟨v355, rfl, ho0, hb⟩; have n0_ := Aside0.mk (Kd.R_lower ho0 (below_size (by repeat (first | (with_reducible first | exact HB.out | apply below_alloc | apply pw_below_drewN | apply below_drew1) | exact HB.out)))); have n1_ := Aside0.mk (below_step (by repeat (first | (with_reducible first | exact HB.out | apply below_alloc | apply pw_below_drewN | apply below_drew1) | exact HB.out)) hb); clear HB; have HO356 := n0_; have HB := n1_; clear n0_ n1_; (try clear hb); (try clear hb2); (try clear hk); (try clear hi); (try clear ho0)) | (go_at_call 38; (with_reducible refine (pole_Inverse.calls k (wrap64 (1 + (wrap64 (Int.tmod a0 300)))) t352 t357 t358 _ A6.out).mono ?_); rintro e w10 ⟨v359, rfl, ho0, hb⟩; have n0_ := Aside0.mk (Kd.R_elder' (by (with_reducible repeat (first | apply Kd.R_alloc | apply Kd.R_drewN | apply Kd.R_drew)); exact HO356.out) (Kd.R_base ho0) hb); have n1_ := Aside0.mk (Kd.R_lower (Kd.R_new' ho0 (Kd.R_lt (by (with_reducible repeat (first | apply Kd.R_alloc | apply Kd.R_drewN | apply Kd.R_drew)); exact HO356.out))) (below_size (by repeat (first | (with_reducible first | exact HB.out | apply below_alloc | apply pw_below_drewN | apply below_drew1) | exact HB.out)))); have n2_ := Aside0.mk (below_step (by repeat (first | (with_reducible first | exact HB.out | apply below_alloc | apply pw_below_drewN | apply below_drew1) | exact HB.out)) hb); clear HO356; clear HB; have HO356 := n0_; have HO360 := n1_; have HB := n2_; clear n0_ n1_ n2_; (try clear hb); (try clear hb2); (try clear hk); (try clear hi); (try clear ho0)) | (go_at_call 40; (with_reducible refine (pole_Cycles.calls k (wrap64 (1 + (wrap64 (Int.tmod a0 300)))) t352 t361 t362 _ A7.out).mono ?_); rintro e w11 ⟨v363, rfl, ho0, hb⟩; have n0_ := Aside0.mk (Kd.R_elder' (by (with_reducible repeat (first | apply Kd.R_alloc | apply Kd.R_drewN | apply Kd.R_drew)); exact HO356.out) (Kd.R_base ho0) hb); have n1_ := Aside0.mk (Kd.R_elder' (by (with_reducible repeat (first | apply Kd.R_alloc | apply Kd.R_drewN | apply Kd.R_drew)); exact HO360.out) (Kd.R_base ho0) hb); have n2_ := Aside0.mk (Kd.R_lower (Kd.R_new' (Kd.R_new' ho0 (Kd.R_lt (by (with_reducible repeat (first | apply Kd.R_alloc | apply Kd.R_drewN | apply Kd.R_drew)); exact HO356.out))) (Kd.R_lt (by (with_reducible repeat (first | apply Kd.R_alloc | apply Kd.R_drewN | apply Kd.R_drew)); exact HO360.out))) (below_size (by repeat (first | (with_reducible first | exact HB.out | apply below_alloc | apply pw_below_drewN | apply below_drew1) | exact HB.out)))); have n3_ := Aside0.mk (below_step (by repeat (first | (with_reducible first | exact HB.out | apply below_alloc | apply pw_below_drewN | apply below_drew1) | exact HB.out)) hb); clear HO356; clear HO360; clear HB; have HO356 := n0_; have HO360 := n1_; have HO364 := n2_; have HB := n3_; clear n0_ n1_ n2_ n3_; (try clear hb); (try clear hb2); (try clear hk); (try clear hi); (try clear ho0))))
  (try simp only [Act.put, List.setIfInBounds_toArray, List.set_cons_zero, List.set_cons_succ])
  go_cut [70] (fun v70 wc => ∃ (kq : Nat) (x70_7 : Bool), v70 = .bool x70_7 ∧ Aside0 (pomadelaw06_PoleListed.j0 kq a2 (wrap64 (1 + (wrap64 (Int.tmod a0 300)))) t352 t353 t357 t361 x70_7 = some r) ∧ Aside0 (kq ≤ k) ∧ Aside0 (Kd.R (Kd.int .i64) 3 wc w.heap.size (fun k_ => some k_ ≠ (v359 : Value).ownBlock ∧ some k_ ≠ (v363 : Value).ownBlock) v355 t353) ∧ Aside0 (Kd.R (Kd.int .i64) 3 wc w.heap.size (fun k_ => some k_ ≠ (v355 : Value).ownBlock ∧ some k_ ≠ (v363 : Value).ownBlock) v359 t357) ∧ Aside0 (Kd.R (Kd.int .i64) 3 wc w.heap.size (fun k_ => some k_ ≠ (v355 : Value).ownBlock ∧ some k_ ≠ (v359 : Value).ownBlock) v363 t361) ∧ Aside0 (Below w.heap.size w wc))
  case first =>
    have H := HC8.out
    clear HC8
    by_cases c12 : t354 = 0
    · rw [if_pos c12] at H
      have c12b0 : (t354 == 0) = true := beq_iff_eq.mpr c12
      have c12b1 : (t354 != 0) = false := bne_eq_false_iff_eq.mpr c12
      clear c12
      (first | rw [c12b0] | (simp only [i64_w, i32_w]; rw [c12b0]) | skip)
      by_cases c13 : t358 = 0
      · rw [if_pos c13] at H
        have c13b0 : (t358 == 0) = true := beq_iff_eq.mpr c13
        have c13b1 : (t358 != 0) = false := bne_eq_false_iff_eq.mpr c13
        clear c13
        by_cases c14 : t362 = 0
        · rw [if_pos c14] at H
          have c14b0 : (t362 == 0) = true := beq_iff_eq.mpr c14
          have c14b1 : (t362 != 0) = false := bne_eq_false_iff_eq.mpr c14
          clear c14
          by_cases c15 : (t353.length : Int) = (wrap64 (1 + (wrap64 (Int.tmod a0 300))))
          · rw [if_pos c15] at H
            have c15b0 : ((t353.length : Int) == (wrap64 (1 + (wrap64 (Int.tmod a0 300))))) = true := beq_iff_eq.mpr c15
            have c15b1 : ((t353.length : Int) != (wrap64 (1 + (wrap64 (Int.tmod a0 300))))) = false := bne_eq_false_iff_eq.mpr c15
            clear c15
            have H' := Aside0.mk H
            clear H
            obtain ⟨Ao16, co16, eo16⟩ := Kd.R_slice HO356.out
            subst eo16
            obtain ⟨Ao17, co17, eo17⟩ := Kd.R_slice HO360.out
            subst eo17
            go_wp2
            repeat (go_quiet (fail); try go_wp2)
            go_meet
            case rel => exact ⟨_, (((t357.length : Int) != (wrap64 (1 + (wrap64 (Int.tmod a0 300)))))), (by first | rfl | (simp; done) | (simp [*]; done)), H', ⟨by first | omega | exact Nat.le_refl _⟩, ⟨by (with_reducible repeat (first | apply Kd.R_alloc | apply Kd.R_drewN | apply Kd.R_drew)); exact Kd.R_mono HO356.out (fun _ hk => ⟨hk.1.2, hk.2⟩)⟩, ⟨by (with_reducible repeat (first | apply Kd.R_alloc | apply Kd.R_drewN | apply Kd.R_drew)); exact Kd.R_mono HO360.out (fun _ hk => ⟨hk.1.2, hk.2⟩)⟩, ⟨by (with_reducible repeat (first | apply Kd.R_alloc | apply Kd.R_drewN | apply Kd.R_drew)); exact Kd.R_mono HO364.out (fun _ hk => ⟨hk.1.2, hk.2⟩)⟩, ⟨by repeat (first | (with_reducible first | exact HB.out | apply below_alloc | apply pw_below_drewN | apply below_drew1) | exact HB.out)⟩⟩
          · rw [if_neg c15] at H
            have c15b0 : ((t353.length : Int) == (wrap64 (1 + (wrap64 (Int.tmod a0 300))))) = false := beq_eq_false_iff_ne.mpr c15
            have c15b1 : ((t353.length : Int) != (wrap64 (1 + (wrap64 (Int.tmod a0 300))))) = true := bne_iff_ne.mpr c15
            have H' := Aside0.mk H
            clear H
            obtain ⟨Ao18, co18, eo18⟩ := Kd.R_slice HO356.out
            subst eo18
            go_wp2
            repeat (go_quiet (fail); try go_wp2)
            go_meet
            case rel => exact ⟨_, (true), (by first | rfl | (simp; done) | (simp [*]; done)), H', ⟨by first | omega | exact Nat.le_refl _⟩, ⟨by (with_reducible repeat (first | apply Kd.R_alloc | apply Kd.R_drewN | apply Kd.R_drew)); exact Kd.R_mono HO356.out (fun _ hk => ⟨hk.1.2, hk.2⟩)⟩, ⟨by (with_reducible repeat (first | apply Kd.R_alloc | apply Kd.R_drewN | apply Kd.R_drew)); exact Kd.R_mono HO360.out (fun _ hk => ⟨hk.1.2, hk.2⟩)⟩, ⟨by (with_reducible repeat (first | apply Kd.R_alloc | apply Kd.R_drewN | apply Kd.R_drew)); exact Kd.R_mono HO364.out (fun _ hk => ⟨hk.1.2, hk.2⟩)⟩, ⟨by repeat (first | (with_reducible first | exact HB.out | apply below_alloc | apply pw_below_drewN | apply below_drew1) | exact HB.out)⟩⟩
        · rw [if_neg c14] at H
          have c14b0 : (t362 == 0) = false := beq_eq_false_iff_ne.mpr c14
          have c14b1 : (t362 != 0) = true := bne_iff_ne.mpr c14
          have H' := Aside0.mk H
          clear H
          go_wp2
          repeat (go_quiet (fail); try go_wp2)
          go_meet
          case rel => exact ⟨_, (true), (by first | rfl | (simp; done) | (simp [*]; done)), H', ⟨by first | omega | exact Nat.le_refl _⟩, ⟨by (with_reducible repeat (first | apply Kd.R_alloc | apply Kd.R_drewN | apply Kd.R_drew)); exact Kd.R_mono HO356.out (fun _ hk => ⟨hk.1.2, hk.2⟩)⟩, ⟨by (with_reducible repeat (first | apply Kd.R_alloc | apply Kd.R_drewN | apply Kd.R_drew)); exact Kd.R_mono HO360.out (fun _ hk => ⟨hk.1.2, hk.2⟩)⟩, ⟨by (with_reducible repeat (first | apply Kd.R_alloc | apply Kd.R_drewN | apply Kd.R_drew)); exact Kd.R_mono HO364.out (fun _ hk => ⟨hk.1.2, hk.2⟩)⟩, ⟨by repeat (first | (with_reducible first | exact HB.out | apply below_alloc | apply pw_below_drewN | apply below_drew1) | exact HB.out)⟩⟩
      · rw [if_neg c13] at H
        have c13b0 : (t358 == 0) = false := beq_eq_false_iff_ne.mpr c13
        have c13b1 : (t358 != 0) = true := bne_iff_ne.mpr c13
        have H' := Aside0.mk H
        clear H
        go_wp2
        repeat (go_quiet (fail); try go_wp2)
        go_meet
        case rel => exact ⟨_, (true), (by first | rfl | (simp; done) | (simp [*]; done)), H', ⟨by first | omega | exact Nat.le_refl _⟩, ⟨by (with_reducible repeat (first | apply Kd.R_alloc | apply Kd.R_drewN | apply Kd.R_drew)); exact Kd.R_mono HO356.out (fun _ hk => ⟨hk.1.2, hk.2⟩)⟩, ⟨by (with_reducible repeat (first | apply Kd.R_alloc | apply Kd.R_drewN | apply Kd.R_drew)); exact Kd.R_mono HO360.out (fun _ hk => ⟨hk.1.2, hk.2⟩)⟩, ⟨by (with_reducible repeat (first | apply Kd.R_alloc | apply Kd.R_drewN | apply Kd.R_drew)); exact Kd.R_mono HO364.out (fun _ hk => ⟨hk.1.2, hk.2⟩)⟩, ⟨by repeat (first | (with_reducible first | exact HB.out | apply below_alloc | apply pw_below_drewN | apply below_drew1) | exact HB.out)⟩⟩
    · rw [if_neg c12] at H
      have c12b0 : (t354 == 0) = false := beq_eq_false_iff_ne.mpr c12
      have c12b1 : (t354 != 0) = true := bne_iff_ne.mpr c12
      (first | rw [c12b0] | (simp only [i64_w, i32_w]; rw [c12b0]) | skip)
      have H' := Aside0.mk H
      clear H
      go_wp2
      repeat (go_quiet (fail); try go_wp2)
      go_meet
      case rel => exact ⟨_, (true), (by first | rfl | (simp; done) | (simp [*]; done)), H', ⟨by first | omega | exact Nat.le_refl _⟩, ⟨by (with_reducible repeat (first | apply Kd.R_alloc | apply Kd.R_drewN | apply Kd.R_drew)); exact Kd.R_mono HO356.out (fun _ hk => ⟨hk.1.2, hk.2⟩)⟩, ⟨by (with_reducible repeat (first | apply Kd.R_alloc | apply Kd.R_drewN | apply Kd.R_drew)); exact Kd.R_mono HO360.out (fun _ hk => ⟨hk.1.2, hk.2⟩)⟩, ⟨by (with_reducible repeat (first | apply Kd.R_alloc | apply Kd.R_drewN | apply Kd.R_drew)); exact Kd.R_mono HO364.out (fun _ hk => ⟨hk.1.2, hk.2⟩)⟩, ⟨by repeat (first | (with_reducible first | exact HB.out | apply below_alloc | apply pw_below_drewN | apply below_drew1) | exact HB.out)⟩⟩
  case rest =>
    clear HC8
    try clear c1
    try clear p2
    try clear p6
    try clear c12
    try clear c12b0
    try clear c12b1
    try clear c13
    try clear c13b0
    try clear c13b1
    try clear c14
    try clear c14b0
    try clear c14b1
    try clear c15
    try clear c15b0
    try clear c15b1
    obtain ⟨kq, x70_7, rfl, HA, HJ7, HO_9, HO_11, HO_13, HB⟩ := hcut
    cases kq with
    | zero => exact absurd HA.out (by simp [pomadelaw06_PoleListed.j0])
    | succ kj7 =>
      have H := HA.out
      clear HA
      simp only [pomadelaw06_PoleListed.j0] at H
      by_cases c19 : x70_7 = true
      · subst c19
        have H1 : (some false) = some r := by rw [if_pos rfl] at H; exact H
        clear H
        have H := H1
        clear H1
        obtain rfl := Option.some.inj H
        go_wp2
        repeat (go_quiet (fail); try go_wp2)
        go_ret
        exact ⟨by first | rfl | (simp [errW_none, errW_some] <;> rfl) | (simp [*, errW_none, errW_some] <;> rfl), by repeat (first | (with_reducible first | exact HB.out | apply below_alloc | apply pw_below_drewN | apply below_drew1) | exact HB.out)⟩
      · replace c19 := Bool.eq_false_iff.mpr c19
        subst c19
        have H1 : (pomadelaw06_PoleListed.l0 kj7 a2 (wrap64 (1 + (wrap64 (Int.tmod a0 300)))) t352 t353 t357 t361 0) = some r := by rw [if_neg (show ¬ (false = true) by decide)] at H; exact H
        clear H
        have H := H1
        clear H1
        have H' := Aside0.mk H
        clear H
        go_wp2
        repeat (go_quiet (fail); try go_wp2)
        go_loopg [15] kj7 (fun kq v15 w' => ∃ (x15_2 : Int), v15 = .int .i64 x15_2 ∧ Aside0 (pomadelaw06_PoleListed.l0 kq a2 (wrap64 (1 + (wrap64 (Int.tmod a0 300)))) t352 t353 t357 t361 x15_2 = some r) ∧ Aside0 (kq ≤ kj7) ∧ Aside0 (Kd.R (Kd.int .i64) 3 w' w.heap.size (fun k_ => some k_ ≠ (v359 : Value).ownBlock ∧ some k_ ≠ (v363 : Value).ownBlock) v355 t353) ∧ Aside0 (Kd.R (Kd.int .i64) 3 w' w.heap.size (fun k_ => some k_ ≠ (v355 : Value).ownBlock ∧ some k_ ≠ (v363 : Value).ownBlock) v359 t357) ∧ Aside0 (Kd.R (Kd.int .i64) 3 w' w.heap.size (fun k_ => some k_ ≠ (v355 : Value).ownBlock ∧ some k_ ≠ (v359 : Value).ownBlock) v363 t361) ∧ Aside0 (Below w.heap.size w w'))
        case atStart => exact ⟨(0), (by first | rfl | (simp; done) | (simp [*]; done)), H', ⟨Nat.le_refl _⟩, ⟨by (with_reducible repeat (first | apply Kd.R_alloc | apply Kd.R_drewN | apply Kd.R_drew)); exact HO_9.out⟩, ⟨by (with_reducible repeat (first | apply Kd.R_alloc | apply Kd.R_drewN | apply Kd.R_drew)); exact HO_11.out⟩, ⟨by (with_reducible repeat (first | apply Kd.R_alloc | apply Kd.R_drewN | apply Kd.R_drew)); exact HO_13.out⟩, ⟨by repeat (first | (with_reducible first | exact HB.out | apply below_alloc | apply pw_below_drewN | apply below_drew1) | exact HB.out)⟩⟩
        case round =>
          as_aux_lemma =>
            clear H'
            try clear c1
            try clear p2
            try clear p6
            try clear c12
            try clear c12b0
            try clear c12b1
            try clear c13
            try clear c13b0
            try clear c13b1
            try clear c14
            try clear c14b0
            try clear c14b1
            try clear c15
            try clear c15b0
            try clear c15b1
            try clear c19
            try clear p2
            try clear p6
            obtain ⟨x15_2, rfl, HA, HK2, HO_9, HO_11, HO_13, HB⟩ := hrel
            cases gk with
            | zero => exact absurd HA.out (by simp [pomadelaw06_PoleListed.l0])
            | succ k2 =>
              have H := HA.out
              clear HA
              simp only [pomadelaw06_PoleListed.l0] at H
              by_cases c20 : x15_2 < (wrap64 (1 + (wrap64 (Int.tmod a0 300))))
              · rw [if_pos c20] at H
                have c20b0 : decide (x15_2 < (wrap64 (1 + (wrap64 (Int.tmod a0 300))))) = true := decide_eq_true c20
                clear c20
                by_cases c21 : 0 ≤ x15_2
                · rw [if_pos c21] at H
                  have c21b0 : decide (0 ≤ x15_2) = true := decide_eq_true c21
                  clear c21
                  by_cases c22 : x15_2 < (t353.length : Int)
                  · rw [if_pos c22] at H
                    have c22b0 : decide (x15_2 < (t353.length : Int)) = true := decide_eq_true c22
                    clear c22
                    by_cases c23 : (rd t353 x15_2) < 0
                    · rw [if_pos c23] at H
                      have c23b0 : decide ((rd t353 x15_2) < 0) = true := decide_eq_true c23
                      clear c23
                      obtain rfl := Option.some.inj H
                      obtain ⟨Ao24, co24, eo24⟩ := Kd.R_slice HO_9.out
                      subst eo24
                      have p365 : 0 ≤ (x15_2 : Int) := of_decide_eq_true (by first | (with_reducible assumption) | assumption)
                      have q365 : x15_2 < (t353.length : Int) := of_decide_eq_true (by first | (with_reducible assumption) | assumption)
                      obtain ⟨ad365, e365, hx365_0⟩ := Kd.at_int (Kd.R_reads' HO_9.out).2.2 x15_2 p365 q365
                      cases e365
                      replace p365 := eq_true p365
                      replace q365 := eq_true q365
                      go_wp2
                      repeat (go_quiet (fail); try go_wp2)
                      go_ret
                      exact ⟨by first | rfl | (simp [errW_none, errW_some] <;> rfl) | (simp [*, errW_none, errW_some] <;> rfl), by repeat (first | (with_reducible first | exact HB.out | apply below_alloc | apply pw_below_drewN | apply below_drew1) | exact HB.out)⟩
                    · rw [if_neg c23] at H
                      have c23b0 : decide ((rd t353 x15_2) < 0) = false := decide_eq_false c23
                      clear c23
                      by_cases c25 : (rd t353 x15_2) ≥ (wrap64 (1 + (wrap64 (Int.tmod a0 300))))
                      · rw [if_pos c25] at H
                        have c25b0 : decide ((wrap64 (1 + (wrap64 (Int.tmod a0 300)))) ≤ (rd t353 x15_2)) = true := decide_eq_true c25
                        clear c25
                        obtain rfl := Option.some.inj H
                        obtain ⟨Ao26, co26, eo26⟩ := Kd.R_slice HO_9.out
                        subst eo26
                        have p365 : 0 ≤ (x15_2 : Int) := of_decide_eq_true (by first | (with_reducible assumption) | assumption)
                        have q365 : x15_2 < (t353.length : Int) := of_decide_eq_true (by first | (with_reducible assumption) | assumption)
                        obtain ⟨ad365, e365, hx365_0⟩ := Kd.at_int (Kd.R_reads' HO_9.out).2.2 x15_2 p365 q365
                        cases e365
                        replace p365 := eq_true p365
                        replace q365 := eq_true q365
                        have p366 : 0 ≤ (x15_2 : Int) := of_decide_eq_true (by first | (with_reducible assumption) | assumption)
                        have q366 : x15_2 < (t353.length : Int) := of_decide_eq_true (by first | (with_reducible assumption) | assumption)
                        obtain ⟨ad366, e366, hx366_0⟩ := Kd.at_int (Kd.R_reads' HO_9.out).2.2 x15_2 p366 q366
                        obtain rfl : ad365 = ad366 := (by injection e366)
                        replace p366 := eq_true p366
                        replace q366 := eq_true q366
                        go_wp2
                        repeat (go_quiet (fail); try go_wp2)
                        go_ret
                        exact ⟨by first | rfl | (simp [errW_none, errW_some] <;> rfl) | (simp [*, errW_none, errW_some] <;> rfl), by repeat (first | (with_reducible first | exact HB.out | apply below_alloc | apply pw_below_drewN | apply below_drew1) | exact HB.out)⟩
                      · rw [if_neg c25] at H
                        have c25b0 : decide ((wrap64 (1 + (wrap64 (Int.tmod a0 300)))) ≤ (rd t353 x15_2)) = false := decide_eq_false c25
                        clear c25
                        by_cases c27 : x15_2 < (t357.length : Int)
                        · rw [if_pos c27] at H
                          have c27b0 : decide (x15_2 < (t357.length : Int)) = true := decide_eq_true c27
                          clear c27
                          by_cases c28 : (rd t357 x15_2) < 0
                          · rw [if_pos c28] at H
                            have c28b0 : decide ((rd t357 x15_2) < 0) = true := decide_eq_true c28
                            clear c28
                            obtain rfl := Option.some.inj H
                            obtain ⟨Ao29, co29, eo29⟩ := Kd.R_slice HO_9.out
                            subst eo29
                            have p365 : 0 ≤ (x15_2 : Int) := of_decide_eq_true (by first | (with_reducible assumption) | assumption)
                            have q365 : x15_2 < (t353.length : Int) := of_decide_eq_true (by first | (with_reducible assumption) | assumption)
                            obtain ⟨ad365, e365, hx365_0⟩ := Kd.at_int (Kd.R_reads' HO_9.out).2.2 x15_2 p365 q365
                            cases e365
                            replace p365 := eq_true p365
                            replace q365 := eq_true q365
                            have p366 : 0 ≤ (x15_2 : Int) := of_decide_eq_true (by first | (with_reducible assumption) | assumption)
                            have q366 : x15_2 < (t353.length : Int) := of_decide_eq_true (by first | (with_reducible assumption) | assumption)
                            obtain ⟨ad366, e366, hx366_0⟩ := Kd.at_int (Kd.R_reads' HO_9.out).2.2 x15_2 p366 q366
                            obtain rfl : ad365 = ad366 := (by injection e366)
                            replace p366 := eq_true p366
                            replace q366 := eq_true q366
                            obtain ⟨Ao30, co30, eo30⟩ := Kd.R_slice HO_11.out
                            subst eo30
                            have p367 : 0 ≤ (x15_2 : Int) := of_decide_eq_true (by first | (with_reducible assumption) | assumption)
                            have q367 : x15_2 < (t357.length : Int) := of_decide_eq_true (by first | (with_reducible assumption) | assumption)
                            obtain ⟨ad367, e367, hx367_0⟩ := Kd.at_int (Kd.R_reads' HO_11.out).2.2 x15_2 p367 q367
                            cases e367
                            replace p367 := eq_true p367
                            replace q367 := eq_true q367
                            go_wp2
                            repeat (go_quiet (fail); try go_wp2)
                            go_ret
                            exact ⟨by first | rfl | (simp [errW_none, errW_some] <;> rfl) | (simp [*, errW_none, errW_some] <;> rfl), by repeat (first | (with_reducible first | exact HB.out | apply below_alloc | apply pw_below_drewN | apply below_drew1) | exact HB.out)⟩
                          · rw [if_neg c28] at H
                            have c28b0 : decide ((rd t357 x15_2) < 0) = false := decide_eq_false c28
                            clear c28
                            by_cases c31 : (rd t357 x15_2) ≥ (wrap64 (1 + (wrap64 (Int.tmod a0 300))))
                            · rw [if_pos c31] at H
                              have c31b0 : decide ((wrap64 (1 + (wrap64 (Int.tmod a0 300)))) ≤ (rd t357 x15_2)) = true := decide_eq_true c31
                              clear c31
                              obtain rfl := Option.some.inj H
                              obtain ⟨Ao32, co32, eo32⟩ := Kd.R_slice HO_9.out
                              subst eo32
                              have p365 : 0 ≤ (x15_2 : Int) := of_decide_eq_true (by first | (with_reducible assumption) | assumption)
                              have q365 : x15_2 < (t353.length : Int) := of_decide_eq_true (by first | (with_reducible assumption) | assumption)
                              obtain ⟨ad365, e365, hx365_0⟩ := Kd.at_int (Kd.R_reads' HO_9.out).2.2 x15_2 p365 q365
                              cases e365
                              replace p365 := eq_true p365
                              replace q365 := eq_true q365
                              have p366 : 0 ≤ (x15_2 : Int) := of_decide_eq_true (by first | (with_reducible assumption) | assumption)
                              have q366 : x15_2 < (t353.length : Int) := of_decide_eq_true (by first | (with_reducible assumption) | assumption)
                              obtain ⟨ad366, e366, hx366_0⟩ := Kd.at_int (Kd.R_reads' HO_9.out).2.2 x15_2 p366 q366
                              obtain rfl : ad365 = ad366 := (by injection e366)
                              replace p366 := eq_true p366
                              replace q366 := eq_true q366
                              obtain ⟨Ao33, co33, eo33⟩ := Kd.R_slice HO_11.out
                              subst eo33
                              have p367 : 0 ≤ (x15_2 : Int) := of_decide_eq_true (by first | (with_reducible assumption) | assumption)
                              have q367 : x15_2 < (t357.length : Int) := of_decide_eq_true (by first | (with_reducible assumption) | assumption)
                              obtain ⟨ad367, e367, hx367_0⟩ := Kd.at_int (Kd.R_reads' HO_11.out).2.2 x15_2 p367 q367
                              cases e367
                              replace p367 := eq_true p367
                              replace q367 := eq_true q367
                              have p368 : 0 ≤ (x15_2 : Int) := of_decide_eq_true (by first | (with_reducible assumption) | assumption)
                              have q368 : x15_2 < (t357.length : Int) := of_decide_eq_true (by first | (with_reducible assumption) | assumption)
                              obtain ⟨ad368, e368, hx368_0⟩ := Kd.at_int (Kd.R_reads' HO_11.out).2.2 x15_2 p368 q368
                              obtain rfl : ad367 = ad368 := (by injection e368)
                              replace p368 := eq_true p368
                              replace q368 := eq_true q368
                              go_wp2
                              repeat (go_quiet (fail); try go_wp2)
                              go_ret
                              exact ⟨by first | rfl | (simp [errW_none, errW_some] <;> rfl) | (simp [*, errW_none, errW_some] <;> rfl), by repeat (first | (with_reducible first | exact HB.out | apply below_alloc | apply pw_below_drewN | apply below_drew1) | exact HB.out)⟩
                            · rw [if_neg c31] at H
                              have c31b0 : decide ((wrap64 (1 + (wrap64 (Int.tmod a0 300)))) ≤ (rd t357 x15_2)) = false := decide_eq_false c31
                              clear c31
                              have H' := Aside0.mk H
                              clear H
                              obtain ⟨Ao34, co34, eo34⟩ := Kd.R_slice HO_9.out
                              subst eo34
                              have p365 : 0 ≤ (x15_2 : Int) := of_decide_eq_true (by first | (with_reducible assumption) | assumption)
                              have q365 : x15_2 < (t353.length : Int) := of_decide_eq_true (by first | (with_reducible assumption) | assumption)
                              obtain ⟨ad365, e365, hx365_0⟩ := Kd.at_int (Kd.R_reads' HO_9.out).2.2 x15_2 p365 q365
                              cases e365
                              replace p365 := eq_true p365
                              replace q365 := eq_true q365
                              have p366 : 0 ≤ (x15_2 : Int) := of_decide_eq_true (by first | (with_reducible assumption) | assumption)
                              have q366 : x15_2 < (t353.length : Int) := of_decide_eq_true (by first | (with_reducible assumption) | assumption)
                              obtain ⟨ad366, e366, hx366_0⟩ := Kd.at_int (Kd.R_reads' HO_9.out).2.2 x15_2 p366 q366
                              obtain rfl : ad365 = ad366 := (by injection e366)
                              replace p366 := eq_true p366
                              replace q366 := eq_true q366
                              obtain ⟨Ao35, co35, eo35⟩ := Kd.R_slice HO_11.out
                              subst eo35
                              have p367 : 0 ≤ (x15_2 : Int) := of_decide_eq_true (by first | (with_reducible assumption) | assumption)
                              have q367 : x15_2 < (t357.length : Int) := of_decide_eq_true (by first | (with_reducible assumption) | assumption)
                              obtain ⟨ad367, e367, hx367_0⟩ := Kd.at_int (Kd.R_reads' HO_11.out).2.2 x15_2 p367 q367
                              cases e367
                              replace p367 := eq_true p367
                              replace q367 := eq_true q367
                              have p368 : 0 ≤ (x15_2 : Int) := of_decide_eq_true (by first | (with_reducible assumption) | assumption)
                              have q368 : x15_2 < (t357.length : Int) := of_decide_eq_true (by first | (with_reducible assumption) | assumption)
                              obtain ⟨ad368, e368, hx368_0⟩ := Kd.at_int (Kd.R_reads' HO_11.out).2.2 x15_2 p368 q368
                              obtain rfl : ad367 = ad368 := (by injection e368)
                              replace p368 := eq_true p368
                              replace q368 := eq_true q368
                              go_wp2
                              repeat (go_quiet (fail); try go_wp2)
                              go_roundg k2
                              case measure => have := HJ7.out; have := HK2.out; omega
                              case rel => exact ⟨(wrap64 (x15_2 + 1)), (by first | rfl | (simp; done) | (simp [*]; done)), H', ⟨by have := HJ7.out; have := HK2.out; omega⟩, ⟨by (with_reducible repeat (first | apply Kd.R_alloc | apply Kd.R_drewN | apply Kd.R_drew)); exact HO_9.out⟩, ⟨by (with_reducible repeat (first | apply Kd.R_alloc | apply Kd.R_drewN | apply Kd.R_drew)); exact HO_11.out⟩, ⟨by (with_reducible repeat (first | apply Kd.R_alloc | apply Kd.R_drewN | apply Kd.R_drew)); exact HO_13.out⟩, ⟨by repeat (first | (with_reducible first | exact HB.out | apply below_alloc | apply pw_below_drewN | apply below_drew1) | exact HB.out)⟩⟩
                        · rw [if_neg c27] at H
                          exact absurd H (by simp)
                  · rw [if_neg c22] at H
                    exact absurd H (by simp)
                · rw [if_neg c21] at H
                  exact absurd H (by simp)
              · rw [if_neg c20] at H
                have c20b0 : decide (x15_2 < (wrap64 (1 + (wrap64 (Int.tmod a0 300))))) = false := decide_eq_false c20
                clear c20
                have H' := Aside0.mk H
                clear H
                go_wp2
                repeat (go_quiet (fail); try go_wp2)
                go_loopg [16] k2 (fun kq v16 w' => ∃ (x16_3 : Int), v16 = .int .i64 x16_3 ∧ Aside0 (pomadelaw06_PoleListed.l1 kq a2 (wrap64 (1 + (wrap64 (Int.tmod a0 300)))) t352 t353 t357 t361 x16_3 = some r) ∧ Aside0 (kq ≤ k2) ∧ Aside0 (Kd.R (Kd.int .i64) 3 w' w.heap.size (fun k_ => some k_ ≠ (v359 : Value).ownBlock ∧ some k_ ≠ (v363 : Value).ownBlock) v355 t353) ∧ Aside0 (Kd.R (Kd.int .i64) 3 w' w.heap.size (fun k_ => some k_ ≠ (v355 : Value).ownBlock ∧ some k_ ≠ (v363 : Value).ownBlock) v359 t357) ∧ Aside0 (Kd.R (Kd.int .i64) 3 w' w.heap.size (fun k_ => some k_ ≠ (v355 : Value).ownBlock ∧ some k_ ≠ (v359 : Value).ownBlock) v363 t361) ∧ Aside0 (Below w.heap.size w w'))
                case atStart => exact ⟨(0), (by first | rfl | (simp; done) | (simp [*]; done)), H', ⟨Nat.le_refl _⟩, ⟨by (with_reducible repeat (first | apply Kd.R_alloc | apply Kd.R_drewN | apply Kd.R_drew)); exact HO_9.out⟩, ⟨by (with_reducible repeat (first | apply Kd.R_alloc | apply Kd.R_drewN | apply Kd.R_drew)); exact HO_11.out⟩, ⟨by (with_reducible repeat (first | apply Kd.R_alloc | apply Kd.R_drewN | apply Kd.R_drew)); exact HO_13.out⟩, ⟨by repeat (first | (with_reducible first | exact HB.out | apply below_alloc | apply pw_below_drewN | apply below_drew1) | exact HB.out)⟩⟩
                case round =>
                  as_aux_lemma =>
                    clear H'
                    try clear c1
                    try clear c2
                    try clear p2
                    try clear c3
                    try clear p3
                    try clear q3
                    try clear hx3
                    try clear p6
                    try clear c12
                    try clear c12b0
                    try clear c12b1
                    try clear c13
                    try clear c13b0
                    try clear c13b1
                    try clear c14
                    try clear c14b0
                    try clear c14b1
                    try clear c15
                    try clear c15b0
                    try clear c15b1
                    try clear c19
                    try clear c20
                    try clear c20b0
                    try clear c21
                    try clear c21b0
                    try clear c22
                    try clear c22b0
                    try clear c23
                    try clear c23b0
                    try clear c25
                    try clear c25b0
                    try clear c27
                    try clear c27b0
                    try clear c28
                    try clear c28b0
                    try clear c31
                    try clear c31b0
                    try clear hx365_0
                    try clear hx366_0
                    try clear hx367_0
                    try clear hx368_0
                    try clear p2
                    try clear p365
                    try clear p366
                    try clear p367
                    try clear p368
                    try clear p6
                    try clear q365
                    try clear q366
                    try clear q367
                    try clear q368
                    obtain ⟨x16_3, rfl, HA, HK3, HO_9, HO_11, HO_13, HB⟩ := hrel
                    cases gk with
                    | zero => exact absurd HA.out (by simp [pomadelaw06_PoleListed.l1])
                    | succ k3 =>
                      have H := HA.out
                      clear HA
                      simp only [pomadelaw06_PoleListed.l1] at H
                      by_cases c36 : x16_3 < (wrap64 (1 + (wrap64 (Int.tmod a0 300))))
                      · rw [if_pos c36] at H
                        have c36b0 : decide (x16_3 < (wrap64 (1 + (wrap64 (Int.tmod a0 300))))) = true := decide_eq_true c36
                        clear c36
                        by_cases c37 : 0 ≤ x16_3
                        · rw [if_pos c37] at H
                          have c37b0 : decide (0 ≤ x16_3) = true := decide_eq_true c37
                          clear c37
                          by_cases c38 : x16_3 < (t353.length : Int)
                          · rw [if_pos c38] at H
                            have c38b0 : decide (x16_3 < (t353.length : Int)) = true := decide_eq_true c38
                            clear c38
                            by_cases c39 : 0 ≤ (rd t353 x16_3)
                            · rw [if_pos c39] at H
                              have c39b0 : decide (0 ≤ (rd t353 x16_3)) = true := decide_eq_true c39
                              clear c39
                              by_cases c40 : (rd t353 x16_3) < (t357.length : Int)
                              · rw [if_pos c40] at H
                                have c40b0 : decide ((rd t353 x16_3) < (t357.length : Int)) = true := decide_eq_true c40
                                clear c40
                                by_cases c41 : (rd t357 (rd t353 x16_3)) = x16_3
                                · rw [if_pos c41] at H
                                  have c41b0 : ((rd t357 (rd t353 x16_3)) == x16_3) = true := beq_iff_eq.mpr c41
                                  have c41b1 : ((rd t357 (rd t353 x16_3)) != x16_3) = false := bne_eq_false_iff_eq.mpr c41
                                  clear c41
                                  by_cases c42 : x16_3 < (t357.length : Int)
                                  · rw [if_pos c42] at H
                                    have c42b0 : decide (x16_3 < (t357.length : Int)) = true := decide_eq_true c42
                                    clear c42
                                    by_cases c43 : 0 ≤ (rd t357 x16_3)
                                    · rw [if_pos c43] at H
                                      have c43b0 : decide (0 ≤ (rd t357 x16_3)) = true := decide_eq_true c43
                                      clear c43
                                      by_cases c44 : (rd t357 x16_3) < (t353.length : Int)
                                      · rw [if_pos c44] at H
                                        have c44b0 : decide ((rd t357 x16_3) < (t353.length : Int)) = true := decide_eq_true c44
                                        clear c44
                                        by_cases c45 : (rd t353 (rd t357 x16_3)) = x16_3
                                        · rw [if_pos c45] at H
                                          have c45b0 : ((rd t353 (rd t357 x16_3)) == x16_3) = true := beq_iff_eq.mpr c45
                                          have c45b1 : ((rd t353 (rd t357 x16_3)) != x16_3) = false := bne_eq_false_iff_eq.mpr c45
                                          clear c45
                                          have H' := Aside0.mk H
                                          clear H
                                          obtain ⟨Ao46, co46, eo46⟩ := Kd.R_slice HO_9.out
                                          subst eo46
                                          have p369 : 0 ≤ (x16_3 : Int) := of_decide_eq_true (by first | (with_reducible assumption) | assumption)
                                          have q369 : x16_3 < (t353.length : Int) := of_decide_eq_true (by first | (with_reducible assumption) | assumption)
                                          obtain ⟨ad369, e369, hx369_0⟩ := Kd.at_int (Kd.R_reads' HO_9.out).2.2 x16_3 p369 q369
                                          cases e369
                                          replace p369 := eq_true p369
                                          replace q369 := eq_true q369
                                          obtain ⟨Ao47, co47, eo47⟩ := Kd.R_slice HO_11.out
                                          subst eo47
                                          have p370 : 0 ≤ ((rd t353 x16_3) : Int) := of_decide_eq_true (by first | (with_reducible assumption) | assumption)
                                          have q370 : (rd t353 x16_3) < (t357.length : Int) := of_decide_eq_true (by first | (with_reducible assumption) | assumption)
                                          obtain ⟨ad370, e370, hx370_0⟩ := Kd.at_int (Kd.R_reads' HO_11.out).2.2 (rd t353 x16_3) p370 q370
                                          cases e370
                                          replace p370 := eq_true p370
                                          replace q370 := eq_true q370
                                          have p371 : 0 ≤ (x16_3 : Int) := of_decide_eq_true (by first | (with_reducible assumption) | assumption)
                                          have q371 : x16_3 < (t357.length : Int) := of_decide_eq_true (by first | (with_reducible assumption) | assumption)
                                          obtain ⟨ad371, e371, hx371_0⟩ := Kd.at_int (Kd.R_reads' HO_11.out).2.2 x16_3 p371 q371
                                          obtain rfl : ad370 = ad371 := (by injection e371)
                                          replace p371 := eq_true p371
                                          replace q371 := eq_true q371
                                          have p372 : 0 ≤ ((rd t357 x16_3) : Int) := of_decide_eq_true (by first | (with_reducible assumption) | assumption)
                                          have q372 : (rd t357 x16_3) < (t353.length : Int) := of_decide_eq_true (by first | (with_reducible assumption) | assumption)
                                          obtain ⟨ad372, e372, hx372_0⟩ := Kd.at_int (Kd.R_reads' HO_9.out).2.2 (rd t357 x16_3) p372 q372
                                          obtain rfl : ad369 = ad372 := (by injection e372)
                                          replace p372 := eq_true p372
                                          replace q372 := eq_true q372
                                          go_wp2
                                          repeat (go_quiet (fail); try go_wp2)
                                          go_roundg k3
                                          case measure => have := HJ7.out; have := HK2.out; have := HK3.out; omega
                                          case rel => exact ⟨(wrap64 (x16_3 + 1)), (by first | rfl | (simp; done) | (simp [*]; done)), H', ⟨by have := HJ7.out; have := HK2.out; have := HK3.out; omega⟩, ⟨by (with_reducible repeat (first | apply Kd.R_alloc | apply Kd.R_drewN | apply Kd.R_drew)); exact HO_9.out⟩, ⟨by (with_reducible repeat (first | apply Kd.R_alloc | apply Kd.R_drewN | apply Kd.R_drew)); exact HO_11.out⟩, ⟨by (with_reducible repeat (first | apply Kd.R_alloc | apply Kd.R_drewN | apply Kd.R_drew)); exact HO_13.out⟩, ⟨by repeat (first | (with_reducible first | exact HB.out | apply below_alloc | apply pw_below_drewN | apply below_drew1) | exact HB.out)⟩⟩
                                        · rw [if_neg c45] at H
                                          have c45b0 : ((rd t353 (rd t357 x16_3)) == x16_3) = false := beq_eq_false_iff_ne.mpr c45
                                          have c45b1 : ((rd t353 (rd t357 x16_3)) != x16_3) = true := bne_iff_ne.mpr c45
                                          obtain rfl := Option.some.inj H
                                          obtain ⟨Ao48, co48, eo48⟩ := Kd.R_slice HO_9.out
                                          subst eo48
                                          have p369 : 0 ≤ (x16_3 : Int) := of_decide_eq_true (by first | (with_reducible assumption) | assumption)
                                          have q369 : x16_3 < (t353.length : Int) := of_decide_eq_true (by first | (with_reducible assumption) | assumption)
                                          obtain ⟨ad369, e369, hx369_0⟩ := Kd.at_int (Kd.R_reads' HO_9.out).2.2 x16_3 p369 q369
                                          cases e369
                                          replace p369 := eq_true p369
                                          replace q369 := eq_true q369
                                          obtain ⟨Ao49, co49, eo49⟩ := Kd.R_slice HO_11.out
                                          subst eo49
                                          have p370 : 0 ≤ ((rd t353 x16_3) : Int) := of_decide_eq_true (by first | (with_reducible assumption) | assumption)
                                          have q370 : (rd t353 x16_3) < (t357.length : Int) := of_decide_eq_true (by first | (with_reducible assumption) | assumption)
                                          obtain ⟨ad370, e370, hx370_0⟩ := Kd.at_int (Kd.R_reads' HO_11.out).2.2 (rd t353 x16_3) p370 q370
                                          cases e370
                                          replace p370 := eq_true p370
                                          replace q370 := eq_true q370
                                          have p371 : 0 ≤ (x16_3 : Int) := of_decide_eq_true (by first | (with_reducible assumption) | assumption)
                                          have q371 : x16_3 < (t357.length : Int) := of_decide_eq_true (by first | (with_reducible assumption) | assumption)
                                          obtain ⟨ad371, e371, hx371_0⟩ := Kd.at_int (Kd.R_reads' HO_11.out).2.2 x16_3 p371 q371
                                          obtain rfl : ad370 = ad371 := (by injection e371)
                                          replace p371 := eq_true p371
                                          replace q371 := eq_true q371
                                          have p372 : 0 ≤ ((rd t357 x16_3) : Int) := of_decide_eq_true (by first | (with_reducible assumption) | assumption)
                                          have q372 : (rd t357 x16_3) < (t353.length : Int) := of_decide_eq_true (by first | (with_reducible assumption) | assumption)
                                          obtain ⟨ad372, e372, hx372_0⟩ := Kd.at_int (Kd.R_reads' HO_9.out).2.2 (rd t357 x16_3) p372 q372
                                          obtain rfl : ad369 = ad372 := (by injection e372)
                                          replace p372 := eq_true p372
                                          replace q372 := eq_true q372
                                          go_wp2
                                          repeat (go_quiet (fail); try go_wp2)
                                          go_ret
                                          exact ⟨by first | rfl | (simp [errW_none, errW_some] <;> rfl) | (simp [*, errW_none, errW_some] <;> rfl), by repeat (first | (with_reducible first | exact HB.out | apply below_alloc | apply pw_below_drewN | apply below_drew1) | exact HB.out)⟩
                                      · rw [if_neg c44] at H
                                        exact absurd H (by simp)
                                    · rw [if_neg c43] at H
                                      exact absurd H (by simp)
                                  · rw [if_neg c42] at H
                                    exact absurd H (by simp)
                                · rw [if_neg c41] at H
                                  have c41b0 : ((rd t357 (rd t353 x16_3)) == x16_3) = false := beq_eq_false_iff_ne.mpr c41
                                  have c41b1 : ((rd t357 (rd t353 x16_3)) != x16_3) = true := bne_iff_ne.mpr c41
                                  obtain rfl := Option.some.inj H
                                  obtain ⟨Ao50, co50, eo50⟩ := Kd.R_slice HO_9.out
                                  subst eo50
                                  have p369 : 0 ≤ (x16_3 : Int) := of_decide_eq_true (by first | (with_reducible assumption) | assumption)
                                  have q369 : x16_3 < (t353.length : Int) := of_decide_eq_true (by first | (with_reducible assumption) | assumption)
                                  obtain ⟨ad369, e369, hx369_0⟩ := Kd.at_int (Kd.R_reads' HO_9.out).2.2 x16_3 p369 q369
                                  cases e369
                                  replace p369 := eq_true p369
                                  replace q369 := eq_true q369
                                  obtain ⟨Ao51, co51, eo51⟩ := Kd.R_slice HO_11.out
                                  subst eo51
                                  have p370 : 0 ≤ ((rd t353 x16_3) : Int) := of_decide_eq_true (by first | (with_reducible assumption) | assumption)
                                  have q370 : (rd t353 x16_3) < (t357.length : Int) := of_decide_eq_true (by first | (with_reducible assumption) | assumption)
                                  obtain ⟨ad370, e370, hx370_0⟩ := Kd.at_int (Kd.R_reads' HO_11.out).2.2 (rd t353 x16_3) p370 q370
                                  cases e370
                                  replace p370 := eq_true p370
                                  replace q370 := eq_true q370
                                  go_wp2
                                  repeat (go_quiet (fail); try go_wp2)
                                  go_ret
                                  exact ⟨by first | rfl | (simp [errW_none, errW_some] <;> rfl) | (simp [*, errW_none, errW_some] <;> rfl), by repeat (first | (with_reducible first | exact HB.out | apply below_alloc | apply pw_below_drewN | apply below_drew1) | exact HB.out)⟩
                              · rw [if_neg c40] at H
                                exact absurd H (by simp)
                            · rw [if_neg c39] at H
                              exact absurd H (by simp)
                          · rw [if_neg c38] at H
                            exact absurd H (by simp)
                        · rw [if_neg c37] at H
                          exact absurd H (by simp)
                      · rw [if_neg c36] at H
                        have c36b0 : decide (x16_3 < (wrap64 (1 + (wrap64 (Int.tmod a0 300))))) = false := decide_eq_false c36
                        clear c36
                        have H' := Aside0.mk H
                        clear H
                        go_wp2
                        repeat (go_quiet (fail); try go_wp2)
                        go_loopg [17, 18, 19] k3 (fun kq v17 v18 v19 w' => ∃ (x17_4 : Int) (x18_4 : Int) (x19_4 : Int), v17 = .int .i64 x17_4 ∧ v18 = .int .i64 x18_4 ∧ v19 = .int .i64 x19_4 ∧ Aside0 (pomadelaw06_PoleListed.l2 kq a2 (wrap64 (1 + (wrap64 (Int.tmod a0 300)))) t352 t353 t357 t361 x17_4 x18_4 x19_4 = some r) ∧ Aside0 (kq ≤ k3) ∧ Aside0 (Kd.R (Kd.int .i64) 3 w' w.heap.size (fun k_ => some k_ ≠ (v359 : Value).ownBlock ∧ some k_ ≠ (v363 : Value).ownBlock) v355 t353) ∧ Aside0 (Kd.R (Kd.int .i64) 3 w' w.heap.size (fun k_ => some k_ ≠ (v355 : Value).ownBlock ∧ some k_ ≠ (v363 : Value).ownBlock) v359 t357) ∧ Aside0 (Kd.R (Kd.int .i64) 3 w' w.heap.size (fun k_ => some k_ ≠ (v355 : Value).ownBlock ∧ some k_ ≠ (v359 : Value).ownBlock) v363 t361) ∧ Aside0 (Below w.heap.size w w'))
                        case atStart => exact ⟨(0), (0), (0), (by first | rfl | (simp; done) | (simp [*]; done)), (by first | rfl | (simp; done) | (simp [*]; done)), (by first | rfl | (simp; done) | (simp [*]; done)), H', ⟨Nat.le_refl _⟩, ⟨by (with_reducible repeat (first | apply Kd.R_alloc | apply Kd.R_drewN | apply Kd.R_drew)); exact HO_9.out⟩, ⟨by (with_reducible repeat (first | apply Kd.R_alloc | apply Kd.R_drewN | apply Kd.R_drew)); exact HO_11.out⟩, ⟨by (with_reducible repeat (first | apply Kd.R_alloc | apply Kd.R_drewN | apply Kd.R_drew)); exact HO_13.out⟩, ⟨by repeat (first | (with_reducible first | exact HB.out | apply below_alloc | apply pw_below_drewN | apply below_drew1) | exact HB.out)⟩⟩
                        case round =>
                          as_aux_lemma =>
                            clear H'
                            try clear c1
                            try clear c2
                            try clear p2
                            try clear c3
                            try clear p3
                            try clear q3
                            try clear hx3
                            try clear c4
                            try clear p6
                            try clear c12
                            try clear c12b0
                            try clear c12b1
                            try clear c13
                            try clear c13b0
                            try clear c13b1
                            try clear c14
                            try clear c14b0
                            try clear c14b1
                            try clear c15
                            try clear c15b0
                            try clear c15b1
                            try clear c19
                            try clear c20
                            try clear c20b0
                            try clear c21
                            try clear c21b0
                            try clear c22
                            try clear c22b0
                            try clear c23
                            try clear c23b0
                            try clear c25
                            try clear c25b0
                            try clear c27
                            try clear c27b0
                            try clear c28
                            try clear c28b0
                            try clear c31
                            try clear c31b0
                            try clear c36
                            try clear c36b0
                            try clear p36
                            try clear q36
                            try clear hx36
                            try clear c37
                            try clear c37b0
                            try clear p37
                            try clear q37
                            try clear hx37
                            try clear c38
                            try clear c38b0
                            try clear c39
                            try clear c39b0
                            try clear c40
                            try clear c40b0
                            try clear c41
                            try clear c41b0
                            try clear c41b1
                            try clear c42
                            try clear c42b0
                            try clear c43
                            try clear c43b0
                            try clear c44
                            try clear c44b0
                            try clear c45
                            try clear c45b0
                            try clear c45b1
                            try clear hx365_0
                            try clear hx366_0
                            try clear hx367_0
                            try clear hx368_0
                            try clear hx369_0
                            try clear hx370_0
                            try clear hx371_0
                            try clear hx372_0
                            try clear p2
                            try clear p3
                            try clear p365
                            try clear p366
                            try clear p367
                            try clear p368
                            try clear p369
                            try clear p370
                            try clear p371
                            try clear p372
                            try clear p6
                            try clear q3
                            try clear q365
                            try clear q366
                            try clear q367
                            try clear q368
                            try clear q369
                            try clear q370
                            try clear q371
                            try clear q372
                            obtain ⟨x17_4, x18_4, x19_4, rfl, rfl, rfl, HA, HK4, HO_9, HO_11, HO_13, HB⟩ := hrel
                            cases gk with
                            | zero => exact absurd HA.out (by simp [pomadelaw06_PoleListed.l2])
                            | succ k4 =>
                              have H := HA.out
                              clear HA
                              simp only [pomadelaw06_PoleListed.l2] at H
                              by_cases c52 : x19_4 < (t361.length : Int)
                              · rw [if_pos c52] at H
                                have c52b0 : decide (x19_4 < (t361.length : Int)) = true := decide_eq_true c52
                                clear c52
                                have HC53 := Aside0.mk H
                                clear H
                                obtain ⟨Ao54, co54, eo54⟩ := Kd.R_slice HO_13.out
                                subst eo54
                                go_upto_region 21 with (fail)
                                repeat (go_quiet (fail); go_upto_region 21 with (fail))
                                go_cut [155] (fun v155 wc => ∃ (kq : Nat) (x155_52 : Bool), v155 = .bool x155_52 ∧ Aside0 (pomadelaw06_PoleListed.j4 kq a2 (wrap64 (1 + (wrap64 (Int.tmod a0 300)))) t352 t353 t357 t361 x17_4 x18_4 x19_4 x155_52 = some r) ∧ Aside0 (kq ≤ k4) ∧ Aside0 (Kd.R (Kd.int .i64) 3 wc w.heap.size (fun k_ => some k_ ≠ (v359 : Value).ownBlock ∧ some k_ ≠ ((.slice Ao54 t361.length co54) : Value).ownBlock) v355 t353) ∧ Aside0 (Kd.R (Kd.int .i64) 3 wc w.heap.size (fun k_ => some k_ ≠ (v355 : Value).ownBlock ∧ some k_ ≠ ((.slice Ao54 t361.length co54) : Value).ownBlock) v359 t357) ∧ Aside0 (Kd.R (Kd.int .i64) 3 wc w.heap.size (fun k_ => some k_ ≠ (v355 : Value).ownBlock ∧ some k_ ≠ (v359 : Value).ownBlock) (.slice Ao54 t361.length co54) t361) ∧ Aside0 (Below w.heap.size w wc))
                                case first =>
                                  have H := HC53.out
                                  clear HC53
                                  by_cases c55 : 0 ≤ x19_4
                                  · rw [if_pos c55] at H
                                    have c55b0 : decide (0 ≤ x19_4) = true := decide_eq_true c55
                                    clear c55
                                    (first | rw [c55b0] | (simp only [i64_w, i32_w]; rw [c55b0]) | skip)
                                    by_cases c56 : (rd t361 x19_4) < 1
                                    · rw [if_pos c56] at H
                                      have c56b0 : decide ((rd t361 x19_4) < 1) = true := decide_eq_true c56
                                      clear c56
                                      have H' := Aside0.mk H
                                      clear H
                                      have p373 : 0 ≤ (x19_4 : Int) := of_decide_eq_true (by first | (with_reducible assumption) | assumption)
                                      have q373 : x19_4 < (t361.length : Int) := of_decide_eq_true (by first | (with_reducible assumption) | assumption)
                                      obtain ⟨ad373, e373, hx373_0⟩ := Kd.at_int (Kd.R_reads' HO_13.out).2.2 x19_4 p373 q373
                                      cases e373
                                      replace p373 := eq_true p373
                                      replace q373 := eq_true q373
                                      go_wp2
                                      repeat (go_quiet (fail); try go_wp2)
                                      go_meet
                                      case rel => exact ⟨_, (true), (by first | rfl | (simp; done) | (simp [*]; done)), H', ⟨by have := HJ7.out; have := HK2.out; have := HK3.out; have := HK4.out; first | omega | exact Nat.le_refl _⟩, ⟨by (with_reducible repeat (first | apply Kd.R_alloc | apply Kd.R_drewN | apply Kd.R_drew)); exact HO_9.out⟩, ⟨by (with_reducible repeat (first | apply Kd.R_alloc | apply Kd.R_drewN | apply Kd.R_drew)); exact HO_11.out⟩, ⟨by (with_reducible repeat (first | apply Kd.R_alloc | apply Kd.R_drewN | apply Kd.R_drew)); exact HO_13.out⟩, ⟨by repeat (first | (with_reducible first | exact HB.out | apply below_alloc | apply pw_below_drewN | apply below_drew1) | exact HB.out)⟩⟩
                                    · rw [if_neg c56] at H
                                      have c56b0 : decide ((rd t361 x19_4) < 1) = false := decide_eq_false c56
                                      clear c56
                                      by_cases c57 : x19_4 > 0
                                      · rw [if_pos c57] at H
                                        have c57b0 : decide (0 < x19_4) = true := decide_eq_true c57
                                        clear c57
                                        obtain ⟨ji58, hji58⟩ : ∃ j_ : Int, (wrap64 (x19_4 - 1)) = j_ := ⟨_, rfl⟩
                                        replace H : (if 0 ≤ (ji58) then (if (ji58) < (t361.length : Int) then (pomadelaw06_PoleListed.j4 k4 a2 (wrap64 (1 + (wrap64 (Int.tmod a0 300)))) t352 t353 t357 t361 x17_4 x18_4 x19_4 (decide ((rd t361 x19_4) < (rd t361 (ji58))))) else (none)) else (none)) = some r := by first | (rw [hji58] at H; exact H) | (simp only [hji58] at H ⊢; exact H)
                                        have hji58w : (IntKind.i64.wrap (x19_4 - 1)) = ji58 := (i64_w _).trans hji58
                                        by_cases c59 : 0 ≤ (ji58)
                                        · rw [if_pos c59] at H
                                          have c59b0 : decide (0 ≤ (ji58)) = true := decide_eq_true c59
                                          clear c59
                                          by_cases c60 : (ji58) < (t361.length : Int)
                                          · rw [if_pos c60] at H
                                            have c60b0 : decide ((ji58) < (t361.length : Int)) = true := decide_eq_true c60
                                            clear c60
                                            have H' := Aside0.mk H
                                            clear H
                                            have p373 : 0 ≤ (x19_4 : Int) := of_decide_eq_true (by first | (with_reducible assumption) | assumption)
                                            have q373 : x19_4 < (t361.length : Int) := of_decide_eq_true (by first | (with_reducible assumption) | assumption)
                                            obtain ⟨ad373, e373, hx373_0⟩ := Kd.at_int (Kd.R_reads' HO_13.out).2.2 x19_4 p373 q373
                                            cases e373
                                            replace p373 := eq_true p373
                                            replace q373 := eq_true q373
                                            have p374 : 0 ≤ (x19_4 : Int) := of_decide_eq_true (by first | (with_reducible assumption) | assumption)
                                            have q374 : x19_4 < (t361.length : Int) := of_decide_eq_true (by first | (with_reducible assumption) | assumption)
                                            obtain ⟨ad374, e374, hx374_0⟩ := Kd.at_int (Kd.R_reads' HO_13.out).2.2 x19_4 p374 q374
                                            obtain rfl : ad373 = ad374 := (by injection e374)
                                            replace p374 := eq_true p374
                                            replace q374 := eq_true q374
                                            have p375 : 0 ≤ ((ji58) : Int) := of_decide_eq_true (by first | (with_reducible assumption) | assumption)
                                            have q375 : (ji58) < (t361.length : Int) := of_decide_eq_true (by first | (with_reducible assumption) | assumption)
                                            obtain ⟨ad375, e375, hx375_0⟩ := Kd.at_int (Kd.R_reads' HO_13.out).2.2 (ji58) p375 q375
                                            obtain rfl : ad373 = ad375 := (by injection e375)
                                            replace p375 := eq_true p375
                                            replace q375 := eq_true q375
                                            go_wp2
                                            repeat (go_quiet (fail); try go_wp2)
                                            go_meet
                                            case rel => exact ⟨_, (decide ((rd t361 x19_4) < (rd t361 (ji58)))), (by first | rfl | (simp; done) | (simp only [← hji58] <;> (first | rfl | (simp; done) | (simp [mn, mx]; done))) | (simp [*]; done)), H', ⟨by have := HJ7.out; have := HK2.out; have := HK3.out; have := HK4.out; first | omega | exact Nat.le_refl _⟩, ⟨by (with_reducible repeat (first | apply Kd.R_alloc | apply Kd.R_drewN | apply Kd.R_drew)); exact HO_9.out⟩, ⟨by (with_reducible repeat (first | apply Kd.R_alloc | apply Kd.R_drewN | apply Kd.R_drew)); exact HO_11.out⟩, ⟨by (with_reducible repeat (first | apply Kd.R_alloc | apply Kd.R_drewN | apply Kd.R_drew)); exact HO_13.out⟩, ⟨by repeat (first | (with_reducible first | exact HB.out | apply below_alloc | apply pw_below_drewN | apply below_drew1) | exact HB.out)⟩⟩
                                          · rw [if_neg c60] at H
                                            exact absurd H (by simp)
                                        · rw [if_neg c59] at H
                                          exact absurd H (by simp)
                                      · rw [if_neg c57] at H
                                        have c57b0 : decide (0 < x19_4) = false := decide_eq_false c57
                                        clear c57
                                        have H' := Aside0.mk H
                                        clear H
                                        have p373 : 0 ≤ (x19_4 : Int) := of_decide_eq_true (by first | (with_reducible assumption) | assumption)
                                        have q373 : x19_4 < (t361.length : Int) := of_decide_eq_true (by first | (with_reducible assumption) | assumption)
                                        obtain ⟨ad373, e373, hx373_0⟩ := Kd.at_int (Kd.R_reads' HO_13.out).2.2 x19_4 p373 q373
                                        cases e373
                                        replace p373 := eq_true p373
                                        replace q373 := eq_true q373
                                        go_wp2
                                        repeat (go_quiet (fail); try go_wp2)
                                        go_meet
                                        case rel => exact ⟨_, (false), (by first | rfl | (simp; done) | (simp [*]; done)), H', ⟨by have := HJ7.out; have := HK2.out; have := HK3.out; have := HK4.out; first | omega | exact Nat.le_refl _⟩, ⟨by (with_reducible repeat (first | apply Kd.R_alloc | apply Kd.R_drewN | apply Kd.R_drew)); exact HO_9.out⟩, ⟨by (with_reducible repeat (first | apply Kd.R_alloc | apply Kd.R_drewN | apply Kd.R_drew)); exact HO_11.out⟩, ⟨by (with_reducible repeat (first | apply Kd.R_alloc | apply Kd.R_drewN | apply Kd.R_drew)); exact HO_13.out⟩, ⟨by repeat (first | (with_reducible first | exact HB.out | apply below_alloc | apply pw_below_drewN | apply below_drew1) | exact HB.out)⟩⟩
                                  · rw [if_neg c55] at H
                                    exact absurd H (by simp)
                                case rest =>
                                  clear HC53
                                  try clear c1
                                  try clear c2
                                  try clear p2
                                  try clear c3
                                  try clear p3
                                  try clear q3
                                  try clear hx3
                                  try clear c4
                                  try clear c5
                                  try clear c6
                                  try clear p6
                                  try clear c12
                                  try clear c12b0
                                  try clear c12b1
                                  try clear c13
                                  try clear c13b0
                                  try clear c13b1
                                  try clear c14
                                  try clear c14b0
                                  try clear c14b1
                                  try clear c15
                                  try clear c15b0
                                  try clear c15b1
                                  try clear c19
                                  try clear c20
                                  try clear c20b0
                                  try clear c21
                                  try clear c21b0
                                  try clear c22
                                  try clear c22b0
                                  try clear c23
                                  try clear c23b0
                                  try clear c25
                                  try clear c25b0
                                  try clear c27
                                  try clear c27b0
                                  try clear c28
                                  try clear c28b0
                                  try clear c31
                                  try clear c31b0
                                  try clear c36
                                  try clear c36b0
                                  try clear p36
                                  try clear q36
                                  try clear hx36
                                  try clear c37
                                  try clear c37b0
                                  try clear p37
                                  try clear q37
                                  try clear hx37
                                  try clear c38
                                  try clear c38b0
                                  try clear c39
                                  try clear c39b0
                                  try clear c40
                                  try clear c40b0
                                  try clear c41
                                  try clear c41b0
                                  try clear c41b1
                                  try clear c42
                                  try clear c42b0
                                  try clear c43
                                  try clear c43b0
                                  try clear c44
                                  try clear c44b0
                                  try clear c45
                                  try clear c45b0
                                  try clear c45b1
                                  try clear c52
                                  try clear c52b0
                                  try clear c55
                                  try clear c55b0
                                  try clear c56
                                  try clear c56b0
                                  try clear c57
                                  try clear c57b0
                                  try clear c59
                                  try clear c59b0
                                  try clear c60
                                  try clear c60b0
                                  try clear hx365_0
                                  try clear hx366_0
                                  try clear hx367_0
                                  try clear hx368_0
                                  try clear hx369_0
                                  try clear hx370_0
                                  try clear hx371_0
                                  try clear hx372_0
                                  try clear hx373_0
                                  try clear hx374_0
                                  try clear hx375_0
                                  try clear p2
                                  try clear p3
                                  try clear p36
                                  try clear p365
                                  try clear p366
                                  try clear p367
                                  try clear p368
                                  try clear p369
                                  try clear p37
                                  try clear p370
                                  try clear p371
                                  try clear p372
                                  try clear p373
                                  try clear p374
                                  try clear p375
                                  try clear p6
                                  try clear q3
                                  try clear q36
                                  try clear q365
                                  try clear q366
                                  try clear q367
                                  try clear q368
                                  try clear q369
                                  try clear q37
                                  try clear q370
                                  try clear q371
                                  try clear q372
                                  try clear q373
                                  try clear q374
                                  try clear q375
                                  obtain ⟨kq, x155_52, rfl, HA, HJ52, HO_9, HO_11, HO_13, HB⟩ := hcut
                                  cases kq with
                                  | zero => exact absurd HA.out (by simp [pomadelaw06_PoleListed.j4])
                                  | succ kj52 =>
                                    have H := HA.out
                                    clear HA
                                    simp only [pomadelaw06_PoleListed.j4] at H
                                    by_cases c61 : x155_52 = true
                                    · subst c61
                                      have H1 : (some false) = some r := by rw [if_pos rfl] at H; exact H
                                      clear H
                                      have H := H1
                                      clear H1
                                      obtain rfl := Option.some.inj H
                                      go_wp2
                                      repeat (go_quiet (fail); try go_wp2)
                                      go_ret
                                      exact ⟨by first | rfl | (simp [errW_none, errW_some] <;> rfl) | (simp [*, errW_none, errW_some] <;> rfl), by repeat (first | (with_reducible first | exact HB.out | apply below_alloc | apply pw_below_drewN | apply below_drew1) | exact HB.out)⟩
                                    · replace c61 := Bool.eq_false_iff.mpr c61
                                      subst c61
                                      have H1 : (if 0 ≤ x19_4 then (if x19_4 < (t361.length : Int) then (if (rd t361 x19_4) = 1 then (pomadelaw06_PoleListed.l2 kj52 a2 (wrap64 (1 + (wrap64 (Int.tmod a0 300)))) t352 t353 t357 t361 (wrap64 (x17_4 + (rd t361 x19_4))) (wrap64 (x18_4 + 1)) (wrap64 (x19_4 + 1))) else (pomadelaw06_PoleListed.l2 kj52 a2 (wrap64 (1 + (wrap64 (Int.tmod a0 300)))) t352 t353 t357 t361 (wrap64 (x17_4 + (rd t361 x19_4))) x18_4 (wrap64 (x19_4 + 1)))) else (none)) else (none)) = some r := by rw [if_neg (show ¬ (false = true) by decide)] at H; exact H
                                      clear H
                                      have H := H1
                                      clear H1
                                      by_cases c62 : 0 ≤ x19_4
                                      · rw [if_pos c62] at H
                                        have c62b0 : decide (0 ≤ x19_4) = true := decide_eq_true c62
                                        clear c62
                                        by_cases c63 : x19_4 < (t361.length : Int)
                                        · rw [if_pos c63] at H
                                          have c63b0 : decide (x19_4 < (t361.length : Int)) = true := decide_eq_true c63
                                          clear c63
                                          by_cases c64 : (rd t361 x19_4) = 1
                                          · rw [if_pos c64] at H
                                            have c64b0 : ((rd t361 x19_4) == 1) = true := beq_iff_eq.mpr c64
                                            have c64b1 : ((rd t361 x19_4) != 1) = false := bne_eq_false_iff_eq.mpr c64
                                            clear c64
                                            have H' := Aside0.mk H
                                            clear H
                                            have p376 : 0 ≤ (x19_4 : Int) := of_decide_eq_true (by first | (with_reducible assumption) | assumption)
                                            have q376 : x19_4 < (t361.length : Int) := of_decide_eq_true (by first | (with_reducible assumption) | assumption)
                                            obtain ⟨ad376, e376, hx376_0⟩ := Kd.at_int (Kd.R_reads' HO_13.out).2.2 x19_4 p376 q376
                                            cases e376
                                            replace p376 := eq_true p376
                                            replace q376 := eq_true q376
                                            have p377 : 0 ≤ (x19_4 : Int) := of_decide_eq_true (by first | (with_reducible assumption) | assumption)
                                            have q377 : x19_4 < (t361.length : Int) := of_decide_eq_true (by first | (with_reducible assumption) | assumption)
                                            obtain ⟨ad377, e377, hx377_0⟩ := Kd.at_int (Kd.R_reads' HO_13.out).2.2 x19_4 p377 q377
                                            obtain rfl : ad376 = ad377 := (by injection e377)
                                            replace p377 := eq_true p377
                                            replace q377 := eq_true q377
                                            go_wp2
                                            repeat (go_quiet (fail); try go_wp2)
                                            go_roundg kj52
                                            case measure => have := HJ7.out; have := HK2.out; have := HK3.out; have := HK4.out; have := HJ52.out; omega
                                            case rel => exact ⟨(wrap64 (x17_4 + (rd t361 x19_4))), (wrap64 (x18_4 + 1)), (wrap64 (x19_4 + 1)), (by first | rfl | (simp; done) | (simp [*]; done)), (by first | rfl | (simp; done) | (simp [*]; done)), (by first | rfl | (simp; done) | (simp [*]; done)), H', ⟨by have := HJ7.out; have := HK2.out; have := HK3.out; have := HK4.out; have := HJ52.out; omega⟩, ⟨by (with_reducible repeat (first | apply Kd.R_alloc | apply Kd.R_drewN | apply Kd.R_drew)); exact HO_9.out⟩, ⟨by (with_reducible repeat (first | apply Kd.R_alloc | apply Kd.R_drewN | apply Kd.R_drew)); exact HO_11.out⟩, ⟨by (with_reducible repeat (first | apply Kd.R_alloc | apply Kd.R_drewN | apply Kd.R_drew)); exact HO_13.out⟩, ⟨by repeat (first | (with_reducible first | exact HB.out | apply below_alloc | apply pw_below_drewN | apply below_drew1) | exact HB.out)⟩⟩
                                          · rw [if_neg c64] at H
                                            have c64b0 : ((rd t361 x19_4) == 1) = false := beq_eq_false_iff_ne.mpr c64
                                            have c64b1 : ((rd t361 x19_4) != 1) = true := bne_iff_ne.mpr c64
                                            have H' := Aside0.mk H
                                            clear H
                                            have p376 : 0 ≤ (x19_4 : Int) := of_decide_eq_true (by first | (with_reducible assumption) | assumption)
                                            have q376 : x19_4 < (t361.length : Int) := of_decide_eq_true (by first | (with_reducible assumption) | assumption)
                                            obtain ⟨ad376, e376, hx376_0⟩ := Kd.at_int (Kd.R_reads' HO_13.out).2.2 x19_4 p376 q376
                                            cases e376
                                            replace p376 := eq_true p376
                                            replace q376 := eq_true q376
                                            have p377 : 0 ≤ (x19_4 : Int) := of_decide_eq_true (by first | (with_reducible assumption) | assumption)
                                            have q377 : x19_4 < (t361.length : Int) := of_decide_eq_true (by first | (with_reducible assumption) | assumption)
                                            obtain ⟨ad377, e377, hx377_0⟩ := Kd.at_int (Kd.R_reads' HO_13.out).2.2 x19_4 p377 q377
                                            obtain rfl : ad376 = ad377 := (by injection e377)
                                            replace p377 := eq_true p377
                                            replace q377 := eq_true q377
                                            go_wp2
                                            repeat (go_quiet (fail); try go_wp2)
                                            go_roundg kj52
                                            case measure => have := HJ7.out; have := HK2.out; have := HK3.out; have := HK4.out; have := HJ52.out; omega
                                            case rel => exact ⟨(wrap64 (x17_4 + (rd t361 x19_4))), (x18_4), (wrap64 (x19_4 + 1)), (by first | rfl | (simp; done) | (simp [*]; done)), (by first | rfl | (simp; done) | (simp [*]; done)), (by first | rfl | (simp; done) | (simp [*]; done)), H', ⟨by have := HJ7.out; have := HK2.out; have := HK3.out; have := HK4.out; have := HJ52.out; omega⟩, ⟨by (with_reducible repeat (first | apply Kd.R_alloc | apply Kd.R_drewN | apply Kd.R_drew)); exact HO_9.out⟩, ⟨by (with_reducible repeat (first | apply Kd.R_alloc | apply Kd.R_drewN | apply Kd.R_drew)); exact HO_11.out⟩, ⟨by (with_reducible repeat (first | apply Kd.R_alloc | apply Kd.R_drewN | apply Kd.R_drew)); exact HO_13.out⟩, ⟨by repeat (first | (with_reducible first | exact HB.out | apply below_alloc | apply pw_below_drewN | apply below_drew1) | exact HB.out)⟩⟩
                                        · rw [if_neg c63] at H
                                          exact absurd H (by simp)
                                      · rw [if_neg c62] at H
                                        exact absurd H (by simp)
                              · rw [if_neg c52] at H
                                have c52b0 : decide (x19_4 < (t361.length : Int)) = false := decide_eq_false c52
                                clear c52
                                have H' := Aside0.mk H
                                clear H
                                obtain ⟨Ao65, co65, eo65⟩ := Kd.R_slice HO_13.out
                                subst eo65
                                go_wp2
                                repeat (go_quiet (fail); try go_wp2)
                                go_loopg [18, 20] k4 (fun kq v18 v20 w' => ∃ (x18_5 : Int) (x20_5 : Int), v18 = .int .i64 x18_5 ∧ v20 = .int .i64 x20_5 ∧ Aside0 (pomadelaw06_PoleListed.l3 kq a2 (wrap64 (1 + (wrap64 (Int.tmod a0 300)))) t352 t353 t357 x17_4 x18_5 x20_5 = some r) ∧ Aside0 (kq ≤ k4) ∧ Aside0 (Kd.R (Kd.int .i64) 3 w' w.heap.size (fun k_ => some k_ ≠ (v359 : Value).ownBlock) v355 t353) ∧ Aside0 (Kd.R (Kd.int .i64) 3 w' w.heap.size (fun k_ => some k_ ≠ (v355 : Value).ownBlock) v359 t357) ∧ Aside0 (Below w.heap.size w w'))
                                case atStart => exact ⟨(x18_4), (0), (by first | rfl | (simp; done) | (simp [*]; done)), (by first | rfl | (simp; done) | (simp [*]; done)), H', ⟨Nat.le_refl _⟩, ⟨by (with_reducible repeat (first | apply Kd.R_alloc | apply Kd.R_drewN | apply Kd.R_drew)); exact Kd.R_mono HO_9.out (fun _ hk => hk.1)⟩, ⟨by (with_reducible repeat (first | apply Kd.R_alloc | apply Kd.R_drewN | apply Kd.R_drew)); exact Kd.R_mono HO_11.out (fun _ hk => hk.1)⟩, ⟨by repeat (first | (with_reducible first | exact HB.out | apply below_alloc | apply pw_below_drewN | apply below_drew1) | exact HB.out)⟩⟩
                                case round =>
                                  as_aux_lemma =>
                                    clear H'
                                    try clear c1
                                    try clear c2
                                    try clear p2
                                    try clear c3
                                    try clear p3
                                    try clear q3
                                    try clear hx3
                                    try clear c4
                                    try clear c5
                                    try clear c6
                                    try clear p6
                                    try clear c12
                                    try clear c12b0
                                    try clear c12b1
                                    try clear c13
                                    try clear c13b0
                                    try clear c13b1
                                    try clear c14
                                    try clear c14b0
                                    try clear c14b1
                                    try clear c15
                                    try clear c15b0
                                    try clear c15b1
                                    try clear c19
                                    try clear c20
                                    try clear c20b0
                                    try clear c21
                                    try clear c21b0
                                    try clear c22
                                    try clear c22b0
                                    try clear c23
                                    try clear c23b0
                                    try clear c25
                                    try clear c25b0
                                    try clear c27
                                    try clear c27b0
                                    try clear c28
                                    try clear c28b0
                                    try clear c31
                                    try clear c31b0
                                    try clear c36
                                    try clear c36b0
                                    try clear p36
                                    try clear q36
                                    try clear hx36
                                    try clear c37
                                    try clear c37b0
                                    try clear p37
                                    try clear q37
                                    try clear hx37
                                    try clear c38
                                    try clear c38b0
                                    try clear c39
                                    try clear c39b0
                                    try clear c40
                                    try clear c40b0
                                    try clear c41
                                    try clear c41b0
                                    try clear c41b1
                                    try clear c42
                                    try clear c42b0
                                    try clear c43
                                    try clear c43b0
                                    try clear c44
                                    try clear c44b0
                                    try clear c45
                                    try clear c45b0
                                    try clear c45b1
                                    try clear c52
                                    try clear c52b0
                                    try clear c55
                                    try clear c55b0
                                    try clear c56
                                    try clear c56b0
                                    try clear c57
                                    try clear c57b0
                                    try clear c59
                                    try clear c59b0
                                    try clear c60
                                    try clear c60b0
                                    try clear c61
                                    try clear c62
                                    try clear c62b0
                                    try clear c63
                                    try clear c63b0
                                    try clear c64
                                    try clear c64b0
                                    try clear c64b1
                                    try clear p64
                                    try clear hx365_0
                                    try clear hx366_0
                                    try clear hx367_0
                                    try clear hx368_0
                                    try clear hx369_0
                                    try clear hx370_0
                                    try clear hx371_0
                                    try clear hx372_0
                                    try clear hx373_0
                                    try clear hx374_0
                                    try clear hx375_0
                                    try clear hx376_0
                                    try clear hx377_0
                                    try clear p2
                                    try clear p3
                                    try clear p36
                                    try clear p365
                                    try clear p366
                                    try clear p367
                                    try clear p368
                                    try clear p369
                                    try clear p37
                                    try clear p370
                                    try clear p371
                                    try clear p372
                                    try clear p373
                                    try clear p374
                                    try clear p375
                                    try clear p376
                                    try clear p377
                                    try clear p6
                                    try clear q3
                                    try clear q36
                                    try clear q365
                                    try clear q366
                                    try clear q367
                                    try clear q368
                                    try clear q369
                                    try clear q37
                                    try clear q370
                                    try clear q371
                                    try clear q372
                                    try clear q373
                                    try clear q374
                                    try clear q375
                                    try clear q376
                                    try clear q377
                                    obtain ⟨x18_5, x20_5, rfl, rfl, HA, HK5, HO_9, HO_11, HB⟩ := hrel
                                    cases gk with
                                    | zero => exact absurd HA.out (by simp [pomadelaw06_PoleListed.l3])
                                    | succ k5 =>
                                      have H := HA.out
                                      clear HA
                                      simp only [pomadelaw06_PoleListed.l3] at H
                                      by_cases c66 : x20_5 < (wrap64 (1 + (wrap64 (Int.tmod a0 300))))
                                      · rw [if_pos c66] at H
                                        have c66b0 : decide (x20_5 < (wrap64 (1 + (wrap64 (Int.tmod a0 300))))) = true := decide_eq_true c66
                                        clear c66
                                        by_cases c67 : 0 ≤ x20_5
                                        · rw [if_pos c67] at H
                                          have c67b0 : decide (0 ≤ x20_5) = true := decide_eq_true c67
                                          clear c67
                                          by_cases c68 : x20_5 < (t353.length : Int)
                                          · rw [if_pos c68] at H
                                            have c68b0 : decide (x20_5 < (t353.length : Int)) = true := decide_eq_true c68
                                            clear c68
                                            by_cases c69 : (rd t353 x20_5) = x20_5
                                            · rw [if_pos c69] at H
                                              have c69b0 : ((rd t353 x20_5) == x20_5) = true := beq_iff_eq.mpr c69
                                              have c69b1 : ((rd t353 x20_5) != x20_5) = false := bne_eq_false_iff_eq.mpr c69
                                              clear c69
                                              have H' := Aside0.mk H
                                              clear H
                                              obtain ⟨Ao70, co70, eo70⟩ := Kd.R_slice HO_9.out
                                              subst eo70
                                              have p378 : 0 ≤ (x20_5 : Int) := of_decide_eq_true (by first | (with_reducible assumption) | assumption)
                                              have q378 : x20_5 < (t353.length : Int) := of_decide_eq_true (by first | (with_reducible assumption) | assumption)
                                              obtain ⟨ad378, e378, hx378_0⟩ := Kd.at_int (Kd.R_reads' HO_9.out).2.2 x20_5 p378 q378
                                              cases e378
                                              replace p378 := eq_true p378
                                              replace q378 := eq_true q378
                                              go_wp2
                                              repeat (go_quiet (fail); try go_wp2)
                                              go_roundg k5
                                              case measure => have := HJ7.out; have := HK2.out; have := HK3.out; have := HK4.out; have := HK5.out; omega
                                              case rel => exact ⟨(wrap64 (x18_5 - 1)), (wrap64 (x20_5 + 1)), (by first | rfl | (simp; done) | (simp [*]; done)), (by first | rfl | (simp; done) | (simp [*]; done)), H', ⟨by have := HJ7.out; have := HK2.out; have := HK3.out; have := HK4.out; have := HK5.out; omega⟩, ⟨by (with_reducible repeat (first | apply Kd.R_alloc | apply Kd.R_drewN | apply Kd.R_drew)); exact HO_9.out⟩, ⟨by (with_reducible repeat (first | apply Kd.R_alloc | apply Kd.R_drewN | apply Kd.R_drew)); exact HO_11.out⟩, ⟨by repeat (first | (with_reducible first | exact HB.out | apply below_alloc | apply pw_below_drewN | apply below_drew1) | exact HB.out)⟩⟩
                                            · rw [if_neg c69] at H
                                              have c69b0 : ((rd t353 x20_5) == x20_5) = false := beq_eq_false_iff_ne.mpr c69
                                              have c69b1 : ((rd t353 x20_5) != x20_5) = true := bne_iff_ne.mpr c69
                                              have H' := Aside0.mk H
                                              clear H
                                              obtain ⟨Ao71, co71, eo71⟩ := Kd.R_slice HO_9.out
                                              subst eo71
                                              have p378 : 0 ≤ (x20_5 : Int) := of_decide_eq_true (by first | (with_reducible assumption) | assumption)
                                              have q378 : x20_5 < (t353.length : Int) := of_decide_eq_true (by first | (with_reducible assumption) | assumption)
                                              obtain ⟨ad378, e378, hx378_0⟩ := Kd.at_int (Kd.R_reads' HO_9.out).2.2 x20_5 p378 q378
                                              cases e378
                                              replace p378 := eq_true p378
                                              replace q378 := eq_true q378
                                              go_wp2
                                              repeat (go_quiet (fail); try go_wp2)
                                              go_roundg k5
                                              case measure => have := HJ7.out; have := HK2.out; have := HK3.out; have := HK4.out; have := HK5.out; omega
                                              case rel => exact ⟨(x18_5), (wrap64 (x20_5 + 1)), (by first | rfl | (simp; done) | (simp [*]; done)), (by first | rfl | (simp; done) | (simp [*]; done)), H', ⟨by have := HJ7.out; have := HK2.out; have := HK3.out; have := HK4.out; have := HK5.out; omega⟩, ⟨by (with_reducible repeat (first | apply Kd.R_alloc | apply Kd.R_drewN | apply Kd.R_drew)); exact HO_9.out⟩, ⟨by (with_reducible repeat (first | apply Kd.R_alloc | apply Kd.R_drewN | apply Kd.R_drew)); exact HO_11.out⟩, ⟨by repeat (first | (with_reducible first | exact HB.out | apply below_alloc | apply pw_below_drewN | apply below_drew1) | exact HB.out)⟩⟩
                                          · rw [if_neg c68] at H
                                            exact absurd H (by simp)
                                        · rw [if_neg c67] at H
                                          exact absurd H (by simp)
                                      · rw [if_neg c66] at H
                                        have c66b0 : decide (x20_5 < (wrap64 (1 + (wrap64 (Int.tmod a0 300))))) = false := decide_eq_false c66
                                        clear c66
                                        by_cases c72 : (wrap64 (1 + (wrap64 (Int.tmod a0 300)))) = 0
                                        · rw [if_pos c72] at H
                                          exact absurd H (by simp)
                                        · rw [if_neg c72] at H
                                          have c72b0 : ((wrap64 (1 + (wrap64 (Int.tmod a0 300)))) == 0) = false := beq_eq_false_iff_ne.mpr c72
                                          have c72b1 : ((wrap64 (1 + (wrap64 (Int.tmod a0 300)))) != 0) = true := bne_iff_ne.mpr c72
                                          replace H := Option.bind_eq_some_iff.mp H
                                          obtain ⟨⟨t379, t380⟩, A730, H⟩ := H
                                          replace H : ((pole_Turn.f k5 (wrap64 (1 + (wrap64 (Int.tmod a0 300)))) t352 (Int.tmod (wrap64 (a2)) (wrap64 (1 + (wrap64 (Int.tmod a0 300)))))).bind fun bt381 => ((pole_Last.f k5 (wrap64 (1 + (wrap64 (Int.tmod a0 300)))) t352).bind fun bt383 => (if t380 = 0 then (if bt381.2 = 0 then (if bt383.2 = 0 then (if 0 ≤ (Int.tmod (wrap64 (a2)) (wrap64 (1 + (wrap64 (Int.tmod a0 300))))) then (if (Int.tmod (wrap64 (a2)) (wrap64 (1 + (wrap64 (Int.tmod a0 300))))) < (t353.length : Int) then (if t379 = (rd t353 (Int.tmod (wrap64 (a2)) (wrap64 (1 + (wrap64 (Int.tmod a0 300)))))) then (if (Int.tmod (wrap64 (a2)) (wrap64 (1 + (wrap64 (Int.tmod a0 300))))) < (t357.length : Int) then (if bt381.1 = (rd t357 (Int.tmod (wrap64 (a2)) (wrap64 (1 + (wrap64 (Int.tmod a0 300)))))) then (if 0 ≤ (wrap64 ((wrap64 (1 + (wrap64 (Int.tmod a0 300)))) - 1)) then (if (wrap64 ((wrap64 (1 + (wrap64 (Int.tmod a0 300)))) - 1)) < (t353.length : Int) then (if bt383.1 = (rd t353 (wrap64 ((wrap64 (1 + (wrap64 (Int.tmod a0 300)))) - 1))) then (if x17_4 = (wrap64 (1 + (wrap64 (Int.tmod a0 300)))) then (if x18_5 = 0 then ((pomadelaw06_alive.f k5).bind fun t388 => (some t388)) else (some false)) else (some false)) else (some false)) else (none)) else (none)) else (some false)) else (none)) else (some false)) else (none)) else (none)) else (some false)) else (some false)) else (some false)))) = some r := H
                                          have A73 := Aside0.mk A730
                                          clear A730
                                          replace H := Option.bind_eq_some_iff.mp H
                                          obtain ⟨⟨t381, t382⟩, A740, H⟩ := H
                                          replace H : ((pole_Last.f k5 (wrap64 (1 + (wrap64 (Int.tmod a0 300)))) t352).bind fun bt383 => (if t380 = 0 then (if t382 = 0 then (if bt383.2 = 0 then (if 0 ≤ (Int.tmod (wrap64 (a2)) (wrap64 (1 + (wrap64 (Int.tmod a0 300))))) then (if (Int.tmod (wrap64 (a2)) (wrap64 (1 + (wrap64 (Int.tmod a0 300))))) < (t353.length : Int) then (if t379 = (rd t353 (Int.tmod (wrap64 (a2)) (wrap64 (1 + (wrap64 (Int.tmod a0 300)))))) then (if (Int.tmod (wrap64 (a2)) (wrap64 (1 + (wrap64 (Int.tmod a0 300))))) < (t357.length : Int) then (if t381 = (rd t357 (Int.tmod (wrap64 (a2)) (wrap64 (1 + (wrap64 (Int.tmod a0 300)))))) then (if 0 ≤ (wrap64 ((wrap64 (1 + (wrap64 (Int.tmod a0 300)))) - 1)) then (if (wrap64 ((wrap64 (1 + (wrap64 (Int.tmod a0 300)))) - 1)) < (t353.length : Int) then (if bt383.1 = (rd t353 (wrap64 ((wrap64 (1 + (wrap64 (Int.tmod a0 300)))) - 1))) then (if x17_4 = (wrap64 (1 + (wrap64 (Int.tmod a0 300)))) then (if x18_5 = 0 then ((pomadelaw06_alive.f k5).bind fun t388 => (some t388)) else (some false)) else (some false)) else (some false)) else (none)) else (none)) else (some false)) else (none)) else (some false)) else (none)) else (none)) else (some false)) else (some false)) else (some false))) = some r := H
                                          have A74 := Aside0.mk A740
                                          clear A740
                                          replace H := Option.bind_eq_some_iff.mp H
                                          obtain ⟨⟨t383, t384⟩, A750, H⟩ := H
                                          replace H : (if t380 = 0 then (if t382 = 0 then (if t384 = 0 then (if 0 ≤ (Int.tmod (wrap64 (a2)) (wrap64 (1 + (wrap64 (Int.tmod a0 300))))) then (if (Int.tmod (wrap64 (a2)) (wrap64 (1 + (wrap64 (Int.tmod a0 300))))) < (t353.length : Int) then (if t379 = (rd t353 (Int.tmod (wrap64 (a2)) (wrap64 (1 + (wrap64 (Int.tmod a0 300)))))) then (if (Int.tmod (wrap64 (a2)) (wrap64 (1 + (wrap64 (Int.tmod a0 300))))) < (t357.length : Int) then (if t381 = (rd t357 (Int.tmod (wrap64 (a2)) (wrap64 (1 + (wrap64 (Int.tmod a0 300)))))) then (if 0 ≤ (wrap64 ((wrap64 (1 + (wrap64 (Int.tmod a0 300)))) - 1)) then (if (wrap64 ((wrap64 (1 + (wrap64 (Int.tmod a0 300)))) - 1)) < (t353.length : Int) then (if t383 = (rd t353 (wrap64 ((wrap64 (1 + (wrap64 (Int.tmod a0 300)))) - 1))) then (if x17_4 = (wrap64 (1 + (wrap64 (Int.tmod a0 300)))) then (if x18_5 = 0 then ((pomadelaw06_alive.f k5).bind fun t388 => (some t388)) else (some false)) else (some false)) else (some false)) else (none)) else (none)) else (some false)) else (none)) else (some false)) else (none)) else (none)) else (some false)) else (some false)) else (some false)) = some r := H
                                          have A75 := Aside0.mk A750
                                          clear A750
                                          by_cases c76 : t380 = 0
                                          · rw [if_pos c76] at H
                                            have c76b0 : (t380 == 0) = true := beq_iff_eq.mpr c76
                                            have c76b1 : (t380 != 0) = false := bne_eq_false_iff_eq.mpr c76
                                            clear c76
                                            by_cases c77 : t382 = 0
                                            · rw [if_pos c77] at H
                                              have c77b0 : (t382 == 0) = true := beq_iff_eq.mpr c77
                                              have c77b1 : (t382 != 0) = false := bne_eq_false_iff_eq.mpr c77
                                              clear c77
                                              by_cases c78 : t384 = 0
                                              · rw [if_pos c78] at H
                                                have c78b0 : (t384 == 0) = true := beq_iff_eq.mpr c78
                                                have c78b1 : (t384 != 0) = false := bne_eq_false_iff_eq.mpr c78
                                                clear c78
                                                obtain ⟨ji79, hji79⟩ : ∃ j_ : Int, (Int.tmod (wrap64 (a2)) (wrap64 (1 + (wrap64 (Int.tmod a0 300))))) = j_ := ⟨_, rfl⟩
                                                replace H : (if 0 ≤ (ji79) then (if (ji79) < (t353.length : Int) then (if t379 = (rd t353 (ji79)) then (if (ji79) < (t357.length : Int) then (if t381 = (rd t357 (ji79)) then (if 0 ≤ (wrap64 ((wrap64 (1 + (wrap64 (Int.tmod a0 300)))) - 1)) then (if (wrap64 ((wrap64 (1 + (wrap64 (Int.tmod a0 300)))) - 1)) < (t353.length : Int) then (if t383 = (rd t353 (wrap64 ((wrap64 (1 + (wrap64 (Int.tmod a0 300)))) - 1))) then (if x17_4 = (wrap64 (1 + (wrap64 (Int.tmod a0 300)))) then (if x18_5 = 0 then ((pomadelaw06_alive.f k5).bind fun t388 => (some t388)) else (some false)) else (some false)) else (some false)) else (none)) else (none)) else (some false)) else (none)) else (some false)) else (none)) else (none)) = some r := by first | (rw [hji79] at H; exact H) | (simp only [hji79] at H ⊢; exact H)
                                                (try rw [hji79] at A73)
                                                (try rw [hji79] at A74)
                                                (try rw [hji79] at A75)
                                                by_cases c80 : 0 ≤ (ji79)
                                                · rw [if_pos c80] at H
                                                  have c80b0 : decide (0 ≤ (ji79)) = true := decide_eq_true c80
                                                  clear c80
                                                  by_cases c81 : (ji79) < (t353.length : Int)
                                                  · rw [if_pos c81] at H
                                                    have c81b0 : decide ((ji79) < (t353.length : Int)) = true := decide_eq_true c81
                                                    clear c81
                                                    by_cases c82 : t379 = (rd t353 (ji79))
                                                    · rw [if_pos c82] at H
                                                      have c82b0 : (t379 == (rd t353 (ji79))) = true := beq_iff_eq.mpr c82
                                                      have c82b1 : (t379 != (rd t353 (ji79))) = false := bne_eq_false_iff_eq.mpr c82
                                                      clear c82
                                                      by_cases c83 : (ji79) < (t357.length : Int)
                                                      · rw [if_pos c83] at H
                                                        have c83b0 : decide ((ji79) < (t357.length : Int)) = true := decide_eq_true c83
                                                        clear c83
                                                        by_cases c84 : t381 = (rd t357 (ji79))
                                                        · rw [if_pos c84] at H
                                                          have c84b0 : (t381 == (rd t357 (ji79))) = true := beq_iff_eq.mpr c84
                                                          have c84b1 : (t381 != (rd t357 (ji79))) = false := bne_eq_false_iff_eq.mpr c84
                                                          clear c84
                                                          obtain ⟨ji85, hji85⟩ : ∃ j_ : Int, (wrap64 ((wrap64 (1 + (wrap64 (Int.tmod a0 300)))) - 1)) = j_ := ⟨_, rfl⟩
                                                          replace H : (if 0 ≤ (ji85) then (if (ji85) < (t353.length : Int) then (if t383 = (rd t353 (ji85)) then (if x17_4 = (wrap64 (1 + (wrap64 (Int.tmod a0 300)))) then (if x18_5 = 0 then ((pomadelaw06_alive.f k5).bind fun t388 => (some t388)) else (some false)) else (some false)) else (some false)) else (none)) else (none)) = some r := by first | (rw [hji85] at H; exact H) | (simp only [hji85] at H ⊢; exact H)
                                                          (try rw [hji85] at A73)
                                                          (try rw [hji85] at A74)
                                                          (try rw [hji85] at A75)
                                                          have hji85w : (IntKind.i64.wrap ((wrap64 (1 + (wrap64 (Int.tmod a0 300)))) - 1)) = ji85 := (i64_w _).trans hji85
                                                          by_cases c86 : 0 ≤ (ji85)
                                                          · rw [if_pos c86] at H
                                                            have c86b0 : decide (0 ≤ (ji85)) = true := decide_eq_true c86
                                                            clear c86
                                                            by_cases c87 : (ji85) < (t353.length : Int)
                                                            · rw [if_pos c87] at H
                                                              have c87b0 : decide ((ji85) < (t353.length : Int)) = true := decide_eq_true c87
                                                              clear c87
                                                              by_cases c88 : t383 = (rd t353 (ji85))
                                                              · rw [if_pos c88] at H
                                                                have c88b0 : (t383 == (rd t353 (ji85))) = true := beq_iff_eq.mpr c88
                                                                have c88b1 : (t383 != (rd t353 (ji85))) = false := bne_eq_false_iff_eq.mpr c88
                                                                clear c88
                                                                by_cases c89 : x17_4 = (wrap64 (1 + (wrap64 (Int.tmod a0 300))))
                                                                · rw [if_pos c89] at H
                                                                  have c89b0 : (x17_4 == (wrap64 (1 + (wrap64 (Int.tmod a0 300))))) = true := beq_iff_eq.mpr c89
                                                                  have c89b1 : (x17_4 != (wrap64 (1 + (wrap64 (Int.tmod a0 300))))) = false := bne_eq_false_iff_eq.mpr c89
                                                                  clear c89
                                                                  by_cases c90 : x18_5 = 0
                                                                  · rw [if_pos c90] at H
                                                                    have c90b0 : (x18_5 == 0) = true := beq_iff_eq.mpr c90
                                                                    have c90b1 : (x18_5 != 0) = false := bne_eq_false_iff_eq.mpr c90
                                                                    clear c90
                                                                    replace H := Option.bind_eq_some_iff.mp H
                                                                    obtain ⟨t388, A910, H⟩ := H
                                                                    replace H : (some t388) = some r := H
                                                                    have A91 := Aside0.mk A910
                                                                    clear A910
                                                                    obtain rfl := Option.some.inj H
                                                                    go_wp2_with (first | (go_at_call 18; (with_reducible refine (pole_At.calls k5 (wrap64 (1 + (wrap64 (Int.tmod a0 300)))) t352 ji79 t379 t380 _ A73.out).mono ?_); rintro e w92 ⟨rfl, hb⟩; have n0_ := Aside0.mk (Kd.R_below (by (with_reducible repeat (first | apply Kd.R_alloc | apply Kd.R_drewN | apply Kd.R_drew)); exact HO_9.out) hb); have n1_ := Aside0.mk (Kd.R_below (by (with_reducible repeat (first | apply Kd.R_alloc | apply Kd.R_drewN | apply Kd.R_drew)); exact HO_11.out) hb); have n2_ := Aside0.mk (below_step (by repeat (first | (with_reducible first | exact HB.out | apply below_alloc | apply pw_below_drewN | apply below_drew1) | exact HB.out)) hb); clear HO_9; clear HO_11; clear HB; have HO_9 := n0_; have HO_11 := n1_; have HB := n2_; clear n0_ n1_ n2_; (try clear hb); (try clear hb2); (try clear hk); (try clear hi)) | (go_at_call 29; (with_reducible refine (pole_Turn.calls k5 (wrap64 (1 + (wrap64 (Int.tmod a0 300)))) t352 ji79 t381 t382 _ A74.out).mono ?_); rintro e w' ⟨rfl, ⟨nd, rfl⟩⟩; (try first | exact ⟨rfl, _, World.drewN_drewN _ _ _⟩ | exact ⟨rfl, _, Eq.trans (World.drewN_drewN _ _ _) (congrArg (World.drewN _) (Nat.add_assoc _ _ _))⟩)) | (go_at_call 16; (with_reducible refine (pole_Last.calls k5 (wrap64 (1 + (wrap64 (Int.tmod a0 300)))) t352 t383 t384 _ A75.out).mono ?_); rintro e w93 ⟨rfl, hb⟩; have n0_ := Aside0.mk (Kd.R_below (by (with_reducible repeat (first | apply Kd.R_alloc | apply Kd.R_drewN | apply Kd.R_drew)); exact HO_9.out) hb); have n1_ := Aside0.mk (Kd.R_below (by (with_reducible repeat (first | apply Kd.R_alloc | apply Kd.R_drewN | apply Kd.R_drew)); exact HO_11.out) hb); have n2_ := Aside0.mk (below_step (by repeat (first | (with_reducible first | exact HB.out | apply below_alloc | apply pw_below_drewN | apply below_drew1) | exact HB.out)) hb); clear HO_9; clear HO_11; clear HB; have HO_9 := n0_; have HO_11 := n1_; have HB := n2_; clear n0_ n1_ n2_; (try clear hb); (try clear hb2); (try clear hk); (try clear hi); obtain ⟨Ao94, co94, eo94⟩ := Kd.R_slice HO_9.out; subst eo94; have p385 : 0 ≤ ((ji79) : Int) := of_decide_eq_true (by first | (with_reducible assumption) | assumption); have q385 : (ji79) < (t353.length : Int) := of_decide_eq_true (by first | (with_reducible assumption) | assumption); obtain ⟨ad385, e385, hx385_0⟩ := Kd.at_int (Kd.R_reads' HO_9.out).2.2 (ji79) p385 q385; cases e385; replace p385 := eq_true p385; replace q385 := eq_true q385; obtain ⟨Ao95, co95, eo95⟩ := Kd.R_slice HO_11.out; subst eo95; have p386 : 0 ≤ ((ji79) : Int) := of_decide_eq_true (by first | (with_reducible assumption) | assumption); have q386 : (ji79) < (t357.length : Int) := of_decide_eq_true (by first | (with_reducible assumption) | assumption); obtain ⟨ad386, e386, hx386_0⟩ := Kd.at_int (Kd.R_reads' HO_11.out).2.2 (ji79) p386 q386; cases e386; replace p386 := eq_true p386; replace q386 := eq_true q386; have p387 : 0 ≤ ((ji85) : Int) := of_decide_eq_true (by first | (with_reducible assumption) | assumption); have q387 : (ji85) < (t353.length : Int) := of_decide_eq_true (by first | (with_reducible assumption) | assumption); obtain ⟨ad387, e387, hx387_0⟩ := Kd.at_int (Kd.R_reads' HO_9.out).2.2 (ji85) p387 q387; obtain rfl : ad385 = ad387 := (by injection e387); replace p387 := eq_true p387; replace q387 := eq_true q387) | (go_at_call 20; (with_reducible refine (pomadelaw06_alive.calls k5  t388 _ A91.out).mono ?_); rintro e w96 ⟨rfl, hb⟩; have n0_ := Aside0.mk (Kd.R_below (by (with_reducible repeat (first | apply Kd.R_alloc | apply Kd.R_drewN | apply Kd.R_drew)); exact HO_9.out) hb); have n1_ := Aside0.mk (Kd.R_below (by (with_reducible repeat (first | apply Kd.R_alloc | apply Kd.R_drewN | apply Kd.R_drew)); exact HO_11.out) hb); have n2_ := Aside0.mk (below_step (by repeat (first | (with_reducible first | exact HB.out | apply below_alloc | apply pw_below_drewN | apply below_drew1) | exact HB.out)) hb); clear HO_9; clear HO_11; clear HB; have HO_9 := n0_; have HO_11 := n1_; have HB := n2_; clear n0_ n1_ n2_; (try clear hb); (try clear hb2); (try clear hk); (try clear hi)))
                                                                    repeat (go_quiet (first | (go_at_call 18; (with_reducible refine (pole_At.calls k5 (wrap64 (1 + (wrap64 (Int.tmod a0 300)))) t352 ji79 t379 t380 _ A73.out).mono ?_); rintro e w92 ⟨rfl, hb⟩; have n0_ := Aside0.mk (Kd.R_below (by (with_reducible repeat (first | apply Kd.R_alloc | apply Kd.R_drewN | apply Kd.R_drew)); exact HO_9.out) hb); have n1_ := Aside0.mk (Kd.R_below (by (with_reducible repeat (first | apply Kd.R_alloc | apply Kd.R_drewN | apply Kd.R_drew)); exact HO_11.out) hb); have n2_ := Aside0.mk (below_step (by repeat (first | (with_reducible first | exact HB.out | apply below_alloc | apply pw_below_drewN | apply below_drew1) | exact HB.out)) hb); clear HO_9; clear HO_11; clear HB; have HO_9 := n0_; have HO_11 := n1_; have HB := n2_; clear n0_ n1_ n2_; (try clear hb); (try clear hb2); (try clear hk); (try clear hi)) | (go_at_call 29; (with_reducible refine (pole_Turn.calls k5 (wrap64 (1 + (wrap64 (Int.tmod a0 300)))) t352 ji79 t381 t382 _ A74.out).mono ?_); rintro e w' ⟨rfl, ⟨nd, rfl⟩⟩; (try first | exact ⟨rfl, _, World.drewN_drewN _ _ _⟩ | exact ⟨rfl, _, Eq.trans (World.drewN_drewN _ _ _) (congrArg (World.drewN _) (Nat.add_assoc _ _ _))⟩)) | (go_at_call 16; (with_reducible refine (pole_Last.calls k5 (wrap64 (1 + (wrap64 (Int.tmod a0 300)))) t352 t383 t384 _ A75.out).mono ?_); rintro e w93 ⟨rfl, hb⟩; have n0_ := Aside0.mk (Kd.R_below (by (with_reducible repeat (first | apply Kd.R_alloc | apply Kd.R_drewN | apply Kd.R_drew)); exact HO_9.out) hb); have n1_ := Aside0.mk (Kd.R_below (by (with_reducible repeat (first | apply Kd.R_alloc | apply Kd.R_drewN | apply Kd.R_drew)); exact HO_11.out) hb); have n2_ := Aside0.mk (below_step (by repeat (first | (with_reducible first | exact HB.out | apply below_alloc | apply pw_below_drewN | apply below_drew1) | exact HB.out)) hb); clear HO_9; clear HO_11; clear HB; have HO_9 := n0_; have HO_11 := n1_; have HB := n2_; clear n0_ n1_ n2_; (try clear hb); (try clear hb2); (try clear hk); (try clear hi); obtain ⟨Ao94, co94, eo94⟩ := Kd.R_slice HO_9.out; subst eo94; have p385 : 0 ≤ ((ji79) : Int) := of_decide_eq_true (by first | (with_reducible assumption) | assumption); have q385 : (ji79) < (t353.length : Int) := of_decide_eq_true (by first | (with_reducible assumption) | assumption); obtain ⟨ad385, e385, hx385_0⟩ := Kd.at_int (Kd.R_reads' HO_9.out).2.2 (ji79) p385 q385; cases e385; replace p385 := eq_true p385; replace q385 := eq_true q385; obtain ⟨Ao95, co95, eo95⟩ := Kd.R_slice HO_11.out; subst eo95; have p386 : 0 ≤ ((ji79) : Int) := of_decide_eq_true (by first | (with_reducible assumption) | assumption); have q386 : (ji79) < (t357.length : Int) := of_decide_eq_true (by first | (with_reducible assumption) | assumption); obtain ⟨ad386, e386, hx386_0⟩ := Kd.at_int (Kd.R_reads' HO_11.out).2.2 (ji79) p386 q386; cases e386; replace p386 := eq_true p386; replace q386 := eq_true q386; have p387 : 0 ≤ ((ji85) : Int) := of_decide_eq_true (by first | (with_reducible assumption) | assumption); have q387 : (ji85) < (t353.length : Int) := of_decide_eq_true (by first | (with_reducible assumption) | assumption); obtain ⟨ad387, e387, hx387_0⟩ := Kd.at_int (Kd.R_reads' HO_9.out).2.2 (ji85) p387 q387; obtain rfl : ad385 = ad387 := (by injection e387); replace p387 := eq_true p387; replace q387 := eq_true q387) | (go_at_call 20; (with_reducible refine (pomadelaw06_alive.calls k5  t388 _ A91.out).mono ?_); rintro e w96 ⟨rfl, hb⟩; have n0_ := Aside0.mk (Kd.R_below (by (with_reducible repeat (first | apply Kd.R_alloc | apply Kd.R_drewN | apply Kd.R_drew)); exact HO_9.out) hb); have n1_ := Aside0.mk (Kd.R_below (by (with_reducible repeat (first | apply Kd.R_alloc | apply Kd.R_drewN | apply Kd.R_drew)); exact HO_11.out) hb); have n2_ := Aside0.mk (below_step (by repeat (first | (with_reducible first | exact HB.out | apply below_alloc | apply pw_below_drewN | apply below_drew1) | exact HB.out)) hb); clear HO_9; clear HO_11; clear HB; have HO_9 := n0_; have HO_11 := n1_; have HB := n2_; clear n0_ n1_ n2_; (try clear hb); (try clear hb2); (try clear hk); (try clear hi))); try go_wp2_with (first | (go_at_call 18; (with_reducible refine (pole_At.calls k5 (wrap64 (1 + (wrap64 (Int.tmod a0 300)))) t352 ji79 t379 t380 _ A73.out).mono ?_); rintro e w92 ⟨rfl, hb⟩; have n0_ := Aside0.mk (Kd.R_below (by (with_reducible repeat (first | apply Kd.R_alloc | apply Kd.R_drewN | apply Kd.R_drew)); exact HO_9.out) hb); have n1_ := Aside0.mk (Kd.R_below (by (with_reducible repeat (first | apply Kd.R_alloc | apply Kd.R_drewN | apply Kd.R_drew)); exact HO_11.out) hb); have n2_ := Aside0.mk (below_step (by repeat (first | (with_reducible first | exact HB.out | apply below_alloc | apply pw_below_drewN | apply below_drew1) | exact HB.out)) hb); clear HO_9; clear HO_11; clear HB; have HO_9 := n0_; have HO_11 := n1_; have HB := n2_; clear n0_ n1_ n2_; (try clear hb); (try clear hb2); (try clear hk); (try clear hi)) | (go_at_call 29; (with_reducible refine (pole_Turn.calls k5 (wrap64 (1 + (wrap64 (Int.tmod a0 300)))) t352 ji79 t381 t382 _ A74.out).mono ?_); rintro e w' ⟨rfl, ⟨nd, rfl⟩⟩; (try first | exact ⟨rfl, _, World.drewN_drewN _ _ _⟩ | exact ⟨rfl, _, Eq.trans (World.drewN_drewN _ _ _) (congrArg (World.drewN _) (Nat.add_assoc _ _ _))⟩)) | (go_at_call 16; (with_reducible refine (pole_Last.calls k5 (wrap64 (1 + (wrap64 (Int.tmod a0 300)))) t352 t383 t384 _ A75.out).mono ?_); rintro e w93 ⟨rfl, hb⟩; have n0_ := Aside0.mk (Kd.R_below (by (with_reducible repeat (first | apply Kd.R_alloc | apply Kd.R_drewN | apply Kd.R_drew)); exact HO_9.out) hb); have n1_ := Aside0.mk (Kd.R_below (by (with_reducible repeat (first | apply Kd.R_alloc | apply Kd.R_drewN | apply Kd.R_drew)); exact HO_11.out) hb); have n2_ := Aside0.mk (below_step (by repeat (first | (with_reducible first | exact HB.out | apply below_alloc | apply pw_below_drewN | apply below_drew1) | exact HB.out)) hb); clear HO_9; clear HO_11; clear HB; have HO_9 := n0_; have HO_11 := n1_; have HB := n2_; clear n0_ n1_ n2_; (try clear hb); (try clear hb2); (try clear hk); (try clear hi); obtain ⟨Ao94, co94, eo94⟩ := Kd.R_slice HO_9.out; subst eo94; have p385 : 0 ≤ ((ji79) : Int) := of_decide_eq_true (by first | (with_reducible assumption) | assumption); have q385 : (ji79) < (t353.length : Int) := of_decide_eq_true (by first | (with_reducible assumption) | assumption); obtain ⟨ad385, e385, hx385_0⟩ := Kd.at_int (Kd.R_reads' HO_9.out).2.2 (ji79) p385 q385; cases e385; replace p385 := eq_true p385; replace q385 := eq_true q385; obtain ⟨Ao95, co95, eo95⟩ := Kd.R_slice HO_11.out; subst eo95; have p386 : 0 ≤ ((ji79) : Int) := of_decide_eq_true (by first | (with_reducible assumption) | assumption); have q386 : (ji79) < (t357.length : Int) := of_decide_eq_true (by first | (with_reducible assumption) | assumption); obtain ⟨ad386, e386, hx386_0⟩ := Kd.at_int (Kd.R_reads' HO_11.out).2.2 (ji79) p386 q386; cases e386; replace p386 := eq_true p386; replace q386 := eq_true q386; have p387 : 0 ≤ ((ji85) : Int) := of_decide_eq_true (by first | (with_reducible assumption) | assumption); have q387 : (ji85) < (t353.length : Int) := of_decide_eq_true (by first | (with_reducible assumption) | assumption); obtain ⟨ad387, e387, hx387_0⟩ := Kd.at_int (Kd.R_reads' HO_9.out).2.2 (ji85) p387 q387; obtain rfl : ad385 = ad387 := (by injection e387); replace p387 := eq_true p387; replace q387 := eq_true q387) | (go_at_call 20; (with_reducible refine (pomadelaw06_alive.calls k5  t388 _ A91.out).mono ?_); rintro e w96 ⟨rfl, hb⟩; have n0_ := Aside0.mk (Kd.R_below (by (with_reducible repeat (first | apply Kd.R_alloc | apply Kd.R_drewN | apply Kd.R_drew)); exact HO_9.out) hb); have n1_ := Aside0.mk (Kd.R_below (by (with_reducible repeat (first | apply Kd.R_alloc | apply Kd.R_drewN | apply Kd.R_drew)); exact HO_11.out) hb); have n2_ := Aside0.mk (below_step (by repeat (first | (with_reducible first | exact HB.out | apply below_alloc | apply pw_below_drewN | apply below_drew1) | exact HB.out)) hb); clear HO_9; clear HO_11; clear HB; have HO_9 := n0_; have HO_11 := n1_; have HB := n2_; clear n0_ n1_ n2_; (try clear hb); (try clear hb2); (try clear hk); (try clear hi))))
                                                                    go_ret
                                                                    exact ⟨by first | rfl | (simp [errW_none, errW_some] <;> rfl) | (simp only [← hji79, ← hji85]; first | rfl | (simp [errW_none, errW_some] <;> rfl)) | (simp [*, errW_none, errW_some] <;> rfl), by repeat (first | (with_reducible first | exact HB.out | apply below_alloc | apply pw_below_drewN | apply below_drew1) | exact HB.out)⟩
                                                                  · rw [if_neg c90] at H
                                                                    have c90b0 : (x18_5 == 0) = false := beq_eq_false_iff_ne.mpr c90
                                                                    have c90b1 : (x18_5 != 0) = true := bne_iff_ne.mpr c90
                                                                    obtain rfl := Option.some.inj H
                                                                    go_wp2_with (first | (go_at_call 18; (with_reducible refine (pole_At.calls k5 (wrap64 (1 + (wrap64 (Int.tmod a0 300)))) t352 ji79 t379 t380 _ A73.out).mono ?_); rintro e w97 ⟨rfl, hb⟩; have n0_ := Aside0.mk (Kd.R_below (by (with_reducible repeat (first | apply Kd.R_alloc | apply Kd.R_drewN | apply Kd.R_drew)); exact HO_9.out) hb); have n1_ := Aside0.mk (Kd.R_below (by (with_reducible repeat (first | apply Kd.R_alloc | apply Kd.R_drewN | apply Kd.R_drew)); exact HO_11.out) hb); have n2_ := Aside0.mk (below_step (by repeat (first | (with_reducible first | exact HB.out | apply below_alloc | apply pw_below_drewN | apply below_drew1) | exact HB.out)) hb); clear HO_9; clear HO_11; clear HB; have HO_9 := n0_; have HO_11 := n1_; have HB := n2_; clear n0_ n1_ n2_; (try clear hb); (try clear hb2); (try clear hk); (try clear hi)) | (go_at_call 29; (with_reducible refine (pole_Turn.calls k5 (wrap64 (1 + (wrap64 (Int.tmod a0 300)))) t352 ji79 t381 t382 _ A74.out).mono ?_); rintro e w' ⟨rfl, ⟨nd, rfl⟩⟩; (try first | exact ⟨rfl, _, World.drewN_drewN _ _ _⟩ | exact ⟨rfl, _, Eq.trans (World.drewN_drewN _ _ _) (congrArg (World.drewN _) (Nat.add_assoc _ _ _))⟩)) | (go_at_call 16; (with_reducible refine (pole_Last.calls k5 (wrap64 (1 + (wrap64 (Int.tmod a0 300)))) t352 t383 t384 _ A75.out).mono ?_); rintro e w98 ⟨rfl, hb⟩; have n0_ := Aside0.mk (Kd.R_below (by (with_reducible repeat (first | apply Kd.R_alloc | apply Kd.R_drewN | apply Kd.R_drew)); exact HO_9.out) hb); have n1_ := Aside0.mk (Kd.R_below (by (with_reducible repeat (first | apply Kd.R_alloc | apply Kd.R_drewN | apply Kd.R_drew)); exact HO_11.out) hb); have n2_ := Aside0.mk (below_step (by repeat (first | (with_reducible first | exact HB.out | apply below_alloc | apply pw_below_drewN | apply below_drew1) | exact HB.out)) hb); clear HO_9; clear HO_11; clear HB; have HO_9 := n0_; have HO_11 := n1_; have HB := n2_; clear n0_ n1_ n2_; (try clear hb); (try clear hb2); (try clear hk); (try clear hi); obtain ⟨Ao99, co99, eo99⟩ := Kd.R_slice HO_9.out; subst eo99; have p385 : 0 ≤ ((ji79) : Int) := of_decide_eq_true (by first | (with_reducible assumption) | assumption); have q385 : (ji79) < (t353.length : Int) := of_decide_eq_true (by first | (with_reducible assumption) | assumption); obtain ⟨ad385, e385, hx385_0⟩ := Kd.at_int (Kd.R_reads' HO_9.out).2.2 (ji79) p385 q385; cases e385; replace p385 := eq_true p385; replace q385 := eq_true q385; obtain ⟨Ao100, co100, eo100⟩ := Kd.R_slice HO_11.out; subst eo100; have p386 : 0 ≤ ((ji79) : Int) := of_decide_eq_true (by first | (with_reducible assumption) | assumption); have q386 : (ji79) < (t357.length : Int) := of_decide_eq_true (by first | (with_reducible assumption) | assumption); obtain ⟨ad386, e386, hx386_0⟩ := Kd.at_int (Kd.R_reads' HO_11.out).2.2 (ji79) p386 q386; cases e386; replace p386 := eq_true p386; replace q386 := eq_true q386; have p387 : 0 ≤ ((ji85) : Int) := of_decide_eq_true (by first | (with_reducible assumption) | assumption); have q387 : (ji85) < (t353.length : Int) := of_decide_eq_true (by first | (with_reducible assumption) | assumption); obtain ⟨ad387, e387, hx387_0⟩ := Kd.at_int (Kd.R_reads' HO_9.out).2.2 (ji85) p387 q387; obtain rfl : ad385 = ad387 := (by injection e387); replace p387 := eq_true p387; replace q387 := eq_true q387))
                                                                    repeat (go_quiet (first | (go_at_call 18; (with_reducible refine (pole_At.calls k5 (wrap64 (1 + (wrap64 (Int.tmod a0 300)))) t352 ji79 t379 t380 _ A73.out).mono ?_); rintro e w97 ⟨rfl, hb⟩; have n0_ := Aside0.mk (Kd.R_below (by (with_reducible repeat (first | apply Kd.R_alloc | apply Kd.R_drewN | apply Kd.R_drew)); exact HO_9.out) hb); have n1_ := Aside0.mk (Kd.R_below (by (with_reducible repeat (first | apply Kd.R_alloc | apply Kd.R_drewN | apply Kd.R_drew)); exact HO_11.out) hb); have n2_ := Aside0.mk (below_step (by repeat (first | (with_reducible first | exact HB.out | apply below_alloc | apply pw_below_drewN | apply below_drew1) | exact HB.out)) hb); clear HO_9; clear HO_11; clear HB; have HO_9 := n0_; have HO_11 := n1_; have HB := n2_; clear n0_ n1_ n2_; (try clear hb); (try clear hb2); (try clear hk); (try clear hi)) | (go_at_call 29; (with_reducible refine (pole_Turn.calls k5 (wrap64 (1 + (wrap64 (Int.tmod a0 300)))) t352 ji79 t381 t382 _ A74.out).mono ?_); rintro e w' ⟨rfl, ⟨nd, rfl⟩⟩; (try first | exact ⟨rfl, _, World.drewN_drewN _ _ _⟩ | exact ⟨rfl, _, Eq.trans (World.drewN_drewN _ _ _) (congrArg (World.drewN _) (Nat.add_assoc _ _ _))⟩)) | (go_at_call 16; (with_reducible refine (pole_Last.calls k5 (wrap64 (1 + (wrap64 (Int.tmod a0 300)))) t352 t383 t384 _ A75.out).mono ?_); rintro e w98 ⟨rfl, hb⟩; have n0_ := Aside0.mk (Kd.R_below (by (with_reducible repeat (first | apply Kd.R_alloc | apply Kd.R_drewN | apply Kd.R_drew)); exact HO_9.out) hb); have n1_ := Aside0.mk (Kd.R_below (by (with_reducible repeat (first | apply Kd.R_alloc | apply Kd.R_drewN | apply Kd.R_drew)); exact HO_11.out) hb); have n2_ := Aside0.mk (below_step (by repeat (first | (with_reducible first | exact HB.out | apply below_alloc | apply pw_below_drewN | apply below_drew1) | exact HB.out)) hb); clear HO_9; clear HO_11; clear HB; have HO_9 := n0_; have HO_11 := n1_; have HB := n2_; clear n0_ n1_ n2_; (try clear hb); (try clear hb2); (try clear hk); (try clear hi); obtain ⟨Ao99, co99, eo99⟩ := Kd.R_slice HO_9.out; subst eo99; have p385 : 0 ≤ ((ji79) : Int) := of_decide_eq_true (by first | (with_reducible assumption) | assumption); have q385 : (ji79) < (t353.length : Int) := of_decide_eq_true (by first | (with_reducible assumption) | assumption); obtain ⟨ad385, e385, hx385_0⟩ := Kd.at_int (Kd.R_reads' HO_9.out).2.2 (ji79) p385 q385; cases e385; replace p385 := eq_true p385; replace q385 := eq_true q385; obtain ⟨Ao100, co100, eo100⟩ := Kd.R_slice HO_11.out; subst eo100; have p386 : 0 ≤ ((ji79) : Int) := of_decide_eq_true (by first | (with_reducible assumption) | assumption); have q386 : (ji79) < (t357.length : Int) := of_decide_eq_true (by first | (with_reducible assumption) | assumption); obtain ⟨ad386, e386, hx386_0⟩ := Kd.at_int (Kd.R_reads' HO_11.out).2.2 (ji79) p386 q386; cases e386; replace p386 := eq_true p386; replace q386 := eq_true q386; have p387 : 0 ≤ ((ji85) : Int) := of_decide_eq_true (by first | (with_reducible assumption) | assumption); have q387 : (ji85) < (t353.length : Int) := of_decide_eq_true (by first | (with_reducible assumption) | assumption); obtain ⟨ad387, e387, hx387_0⟩ := Kd.at_int (Kd.R_reads' HO_9.out).2.2 (ji85) p387 q387; obtain rfl : ad385 = ad387 := (by injection e387); replace p387 := eq_true p387; replace q387 := eq_true q387)); try go_wp2_with (first | (go_at_call 18; (with_reducible refine (pole_At.calls k5 (wrap64 (1 + (wrap64 (Int.tmod a0 300)))) t352 ji79 t379 t380 _ A73.out).mono ?_); rintro e w97 ⟨rfl, hb⟩; have n0_ := Aside0.mk (Kd.R_below (by (with_reducible repeat (first | apply Kd.R_alloc | apply Kd.R_drewN | apply Kd.R_drew)); exact HO_9.out) hb); have n1_ := Aside0.mk (Kd.R_below (by (with_reducible repeat (first | apply Kd.R_alloc | apply Kd.R_drewN | apply Kd.R_drew)); exact HO_11.out) hb); have n2_ := Aside0.mk (below_step (by repeat (first | (with_reducible first | exact HB.out | apply below_alloc | apply pw_below_drewN | apply below_drew1) | exact HB.out)) hb); clear HO_9; clear HO_11; clear HB; have HO_9 := n0_; have HO_11 := n1_; have HB := n2_; clear n0_ n1_ n2_; (try clear hb); (try clear hb2); (try clear hk); (try clear hi)) | (go_at_call 29; (with_reducible refine (pole_Turn.calls k5 (wrap64 (1 + (wrap64 (Int.tmod a0 300)))) t352 ji79 t381 t382 _ A74.out).mono ?_); rintro e w' ⟨rfl, ⟨nd, rfl⟩⟩; (try first | exact ⟨rfl, _, World.drewN_drewN _ _ _⟩ | exact ⟨rfl, _, Eq.trans (World.drewN_drewN _ _ _) (congrArg (World.drewN _) (Nat.add_assoc _ _ _))⟩)) | (go_at_call 16; (with_reducible refine (pole_Last.calls k5 (wrap64 (1 + (wrap64 (Int.tmod a0 300)))) t352 t383 t384 _ A75.out).mono ?_); rintro e w98 ⟨rfl, hb⟩; have n0_ := Aside0.mk (Kd.R_below (by (with_reducible repeat (first | apply Kd.R_alloc | apply Kd.R_drewN | apply Kd.R_drew)); exact HO_9.out) hb); have n1_ := Aside0.mk (Kd.R_below (by (with_reducible repeat (first | apply Kd.R_alloc | apply Kd.R_drewN | apply Kd.R_drew)); exact HO_11.out) hb); have n2_ := Aside0.mk (below_step (by repeat (first | (with_reducible first | exact HB.out | apply below_alloc | apply pw_below_drewN | apply below_drew1) | exact HB.out)) hb); clear HO_9; clear HO_11; clear HB; have HO_9 := n0_; have HO_11 := n1_; have HB := n2_; clear n0_ n1_ n2_; (try clear hb); (try clear hb2); (try clear hk); (try clear hi); obtain ⟨Ao99, co99, eo99⟩ := Kd.R_slice HO_9.out; subst eo99; have p385 : 0 ≤ ((ji79) : Int) := of_decide_eq_true (by first | (with_reducible assumption) | assumption); have q385 : (ji79) < (t353.length : Int) := of_decide_eq_true (by first | (with_reducible assumption) | assumption); obtain ⟨ad385, e385, hx385_0⟩ := Kd.at_int (Kd.R_reads' HO_9.out).2.2 (ji79) p385 q385; cases e385; replace p385 := eq_true p385; replace q385 := eq_true q385; obtain ⟨Ao100, co100, eo100⟩ := Kd.R_slice HO_11.out; subst eo100; have p386 : 0 ≤ ((ji79) : Int) := of_decide_eq_true (by first | (with_reducible assumption) | assumption); have q386 : (ji79) < (t357.length : Int) := of_decide_eq_true (by first | (with_reducible assumption) | assumption); obtain ⟨ad386, e386, hx386_0⟩ := Kd.at_int (Kd.R_reads' HO_11.out).2.2 (ji79) p386 q386; cases e386; replace p386 := eq_true p386; replace q386 := eq_true q386; have p387 : 0 ≤ ((ji85) : Int) := of_decide_eq_true (by first | (with_reducible assumption) | assumption); have q387 : (ji85) < (t353.length : Int) := of_decide_eq_true (by first | (with_reducible assumption) | assumption); obtain ⟨ad387, e387, hx387_0⟩ := Kd.at_int (Kd.R_reads' HO_9.out).2.2 (ji85) p387 q387; obtain rfl : ad385 = ad387 := (by injection e387); replace p387 := eq_true p387; replace q387 := eq_true q387)))
                                                                    go_ret
                                                                    exact ⟨by first | rfl | (simp [errW_none, errW_some] <;> rfl) | (simp only [← hji79, ← hji85]; first | rfl | (simp [errW_none, errW_some] <;> rfl)) | (simp [*, errW_none, errW_some] <;> rfl), by repeat (first | (with_reducible first | exact HB.out | apply below_alloc | apply pw_below_drewN | apply below_drew1) | exact HB.out)⟩
                                                                · rw [if_neg c89] at H
                                                                  have c89b0 : (x17_4 == (wrap64 (1 + (wrap64 (Int.tmod a0 300))))) = false := beq_eq_false_iff_ne.mpr c89
                                                                  have c89b1 : (x17_4 != (wrap64 (1 + (wrap64 (Int.tmod a0 300))))) = true := bne_iff_ne.mpr c89
                                                                  obtain rfl := Option.some.inj H
                                                                  go_wp2_with (first | (go_at_call 18; (with_reducible refine (pole_At.calls k5 (wrap64 (1 + (wrap64 (Int.tmod a0 300)))) t352 ji79 t379 t380 _ A73.out).mono ?_); rintro e w101 ⟨rfl, hb⟩; have n0_ := Aside0.mk (Kd.R_below (by (with_reducible repeat (first | apply Kd.R_alloc | apply Kd.R_drewN | apply Kd.R_drew)); exact HO_9.out) hb); have n1_ := Aside0.mk (Kd.R_below (by (with_reducible repeat (first | apply Kd.R_alloc | apply Kd.R_drewN | apply Kd.R_drew)); exact HO_11.out) hb); have n2_ := Aside0.mk (below_step (by repeat (first | (with_reducible first | exact HB.out | apply below_alloc | apply pw_below_drewN | apply below_drew1) | exact HB.out)) hb); clear HO_9; clear HO_11; clear HB; have HO_9 := n0_; have HO_11 := n1_; have HB := n2_; clear n0_ n1_ n2_; (try clear hb); (try clear hb2); (try clear hk); (try clear hi)) | (go_at_call 29; (with_reducible refine (pole_Turn.calls k5 (wrap64 (1 + (wrap64 (Int.tmod a0 300)))) t352 ji79 t381 t382 _ A74.out).mono ?_); rintro e w' ⟨rfl, ⟨nd, rfl⟩⟩; (try first | exact ⟨rfl, _, World.drewN_drewN _ _ _⟩ | exact ⟨rfl, _, Eq.trans (World.drewN_drewN _ _ _) (congrArg (World.drewN _) (Nat.add_assoc _ _ _))⟩)) | (go_at_call 16; (with_reducible refine (pole_Last.calls k5 (wrap64 (1 + (wrap64 (Int.tmod a0 300)))) t352 t383 t384 _ A75.out).mono ?_); rintro e w102 ⟨rfl, hb⟩; have n0_ := Aside0.mk (Kd.R_below (by (with_reducible repeat (first | apply Kd.R_alloc | apply Kd.R_drewN | apply Kd.R_drew)); exact HO_9.out) hb); have n1_ := Aside0.mk (Kd.R_below (by (with_reducible repeat (first | apply Kd.R_alloc | apply Kd.R_drewN | apply Kd.R_drew)); exact HO_11.out) hb); have n2_ := Aside0.mk (below_step (by repeat (first | (with_reducible first | exact HB.out | apply below_alloc | apply pw_below_drewN | apply below_drew1) | exact HB.out)) hb); clear HO_9; clear HO_11; clear HB; have HO_9 := n0_; have HO_11 := n1_; have HB := n2_; clear n0_ n1_ n2_; (try clear hb); (try clear hb2); (try clear hk); (try clear hi); obtain ⟨Ao103, co103, eo103⟩ := Kd.R_slice HO_9.out; subst eo103; have p385 : 0 ≤ ((ji79) : Int) := of_decide_eq_true (by first | (with_reducible assumption) | assumption); have q385 : (ji79) < (t353.length : Int) := of_decide_eq_true (by first | (with_reducible assumption) | assumption); obtain ⟨ad385, e385, hx385_0⟩ := Kd.at_int (Kd.R_reads' HO_9.out).2.2 (ji79) p385 q385; cases e385; replace p385 := eq_true p385; replace q385 := eq_true q385; obtain ⟨Ao104, co104, eo104⟩ := Kd.R_slice HO_11.out; subst eo104; have p386 : 0 ≤ ((ji79) : Int) := of_decide_eq_true (by first | (with_reducible assumption) | assumption); have q386 : (ji79) < (t357.length : Int) := of_decide_eq_true (by first | (with_reducible assumption) | assumption); obtain ⟨ad386, e386, hx386_0⟩ := Kd.at_int (Kd.R_reads' HO_11.out).2.2 (ji79) p386 q386; cases e386; replace p386 := eq_true p386; replace q386 := eq_true q386; have p387 : 0 ≤ ((ji85) : Int) := of_decide_eq_true (by first | (with_reducible assumption) | assumption); have q387 : (ji85) < (t353.length : Int) := of_decide_eq_true (by first | (with_reducible assumption) | assumption); obtain ⟨ad387, e387, hx387_0⟩ := Kd.at_int (Kd.R_reads' HO_9.out).2.2 (ji85) p387 q387; obtain rfl : ad385 = ad387 := (by injection e387); replace p387 := eq_true p387; replace q387 := eq_true q387))
                                                                  repeat (go_quiet (first | (go_at_call 18; (with_reducible refine (pole_At.calls k5 (wrap64 (1 + (wrap64 (Int.tmod a0 300)))) t352 ji79 t379 t380 _ A73.out).mono ?_); rintro e w101 ⟨rfl, hb⟩; have n0_ := Aside0.mk (Kd.R_below (by (with_reducible repeat (first | apply Kd.R_alloc | apply Kd.R_drewN | apply Kd.R_drew)); exact HO_9.out) hb); have n1_ := Aside0.mk (Kd.R_below (by (with_reducible repeat (first | apply Kd.R_alloc | apply Kd.R_drewN | apply Kd.R_drew)); exact HO_11.out) hb); have n2_ := Aside0.mk (below_step (by repeat (first | (with_reducible first | exact HB.out | apply below_alloc | apply pw_below_drewN | apply below_drew1) | exact HB.out)) hb); clear HO_9; clear HO_11; clear HB; have HO_9 := n0_; have HO_11 := n1_; have HB := n2_; clear n0_ n1_ n2_; (try clear hb); (try clear hb2); (try clear hk); (try clear hi)) | (go_at_call 29; (with_reducible refine (pole_Turn.calls k5 (wrap64 (1 + (wrap64 (Int.tmod a0 300)))) t352 ji79 t381 t382 _ A74.out).mono ?_); rintro e w' ⟨rfl, ⟨nd, rfl⟩⟩; (try first | exact ⟨rfl, _, World.drewN_drewN _ _ _⟩ | exact ⟨rfl, _, Eq.trans (World.drewN_drewN _ _ _) (congrArg (World.drewN _) (Nat.add_assoc _ _ _))⟩)) | (go_at_call 16; (with_reducible refine (pole_Last.calls k5 (wrap64 (1 + (wrap64 (Int.tmod a0 300)))) t352 t383 t384 _ A75.out).mono ?_); rintro e w102 ⟨rfl, hb⟩; have n0_ := Aside0.mk (Kd.R_below (by (with_reducible repeat (first | apply Kd.R_alloc | apply Kd.R_drewN | apply Kd.R_drew)); exact HO_9.out) hb); have n1_ := Aside0.mk (Kd.R_below (by (with_reducible repeat (first | apply Kd.R_alloc | apply Kd.R_drewN | apply Kd.R_drew)); exact HO_11.out) hb); have n2_ := Aside0.mk (below_step (by repeat (first | (with_reducible first | exact HB.out | apply below_alloc | apply pw_below_drewN | apply below_drew1) | exact HB.out)) hb); clear HO_9; clear HO_11; clear HB; have HO_9 := n0_; have HO_11 := n1_; have HB := n2_; clear n0_ n1_ n2_; (try clear hb); (try clear hb2); (try clear hk); (try clear hi); obtain ⟨Ao103, co103, eo103⟩ := Kd.R_slice HO_9.out; subst eo103; have p385 : 0 ≤ ((ji79) : Int) := of_decide_eq_true (by first | (with_reducible assumption) | assumption); have q385 : (ji79) < (t353.length : Int) := of_decide_eq_true (by first | (with_reducible assumption) | assumption); obtain ⟨ad385, e385, hx385_0⟩ := Kd.at_int (Kd.R_reads' HO_9.out).2.2 (ji79) p385 q385; cases e385; replace p385 := eq_true p385; replace q385 := eq_true q385; obtain ⟨Ao104, co104, eo104⟩ := Kd.R_slice HO_11.out; subst eo104; have p386 : 0 ≤ ((ji79) : Int) := of_decide_eq_true (by first | (with_reducible assumption) | assumption); have q386 : (ji79) < (t357.length : Int) := of_decide_eq_true (by first | (with_reducible assumption) | assumption); obtain ⟨ad386, e386, hx386_0⟩ := Kd.at_int (Kd.R_reads' HO_11.out).2.2 (ji79) p386 q386; cases e386; replace p386 := eq_true p386; replace q386 := eq_true q386; have p387 : 0 ≤ ((ji85) : Int) := of_decide_eq_true (by first | (with_reducible assumption) | assumption); have q387 : (ji85) < (t353.length : Int) := of_decide_eq_true (by first | (with_reducible assumption) | assumption); obtain ⟨ad387, e387, hx387_0⟩ := Kd.at_int (Kd.R_reads' HO_9.out).2.2 (ji85) p387 q387; obtain rfl : ad385 = ad387 := (by injection e387); replace p387 := eq_true p387; replace q387 := eq_true q387)); try go_wp2_with (first | (go_at_call 18; (with_reducible refine (pole_At.calls k5 (wrap64 (1 + (wrap64 (Int.tmod a0 300)))) t352 ji79 t379 t380 _ A73.out).mono ?_); rintro e w101 ⟨rfl, hb⟩; have n0_ := Aside0.mk (Kd.R_below (by (with_reducible repeat (first | apply Kd.R_alloc | apply Kd.R_drewN | apply Kd.R_drew)); exact HO_9.out) hb); have n1_ := Aside0.mk (Kd.R_below (by (with_reducible repeat (first | apply Kd.R_alloc | apply Kd.R_drewN | apply Kd.R_drew)); exact HO_11.out) hb); have n2_ := Aside0.mk (below_step (by repeat (first | (with_reducible first | exact HB.out | apply below_alloc | apply pw_below_drewN | apply below_drew1) | exact HB.out)) hb); clear HO_9; clear HO_11; clear HB; have HO_9 := n0_; have HO_11 := n1_; have HB := n2_; clear n0_ n1_ n2_; (try clear hb); (try clear hb2); (try clear hk); (try clear hi)) | (go_at_call 29; (with_reducible refine (pole_Turn.calls k5 (wrap64 (1 + (wrap64 (Int.tmod a0 300)))) t352 ji79 t381 t382 _ A74.out).mono ?_); rintro e w' ⟨rfl, ⟨nd, rfl⟩⟩; (try first | exact ⟨rfl, _, World.drewN_drewN _ _ _⟩ | exact ⟨rfl, _, Eq.trans (World.drewN_drewN _ _ _) (congrArg (World.drewN _) (Nat.add_assoc _ _ _))⟩)) | (go_at_call 16; (with_reducible refine (pole_Last.calls k5 (wrap64 (1 + (wrap64 (Int.tmod a0 300)))) t352 t383 t384 _ A75.out).mono ?_); rintro e w102 ⟨rfl, hb⟩; have n0_ := Aside0.mk (Kd.R_below (by (with_reducible repeat (first | apply Kd.R_alloc | apply Kd.R_drewN | apply Kd.R_drew)); exact HO_9.out) hb); have n1_ := Aside0.mk (Kd.R_below (by (with_reducible repeat (first | apply Kd.R_alloc | apply Kd.R_drewN | apply Kd.R_drew)); exact HO_11.out) hb); have n2_ := Aside0.mk (below_step (by repeat (first | (with_reducible first | exact HB.out | apply below_alloc | apply pw_below_drewN | apply below_drew1) | exact HB.out)) hb); clear HO_9; clear HO_11; clear HB; have HO_9 := n0_; have HO_11 := n1_; have HB := n2_; clear n0_ n1_ n2_; (try clear hb); (try clear hb2); (try clear hk); (try clear hi); obtain ⟨Ao103, co103, eo103⟩ := Kd.R_slice HO_9.out; subst eo103; have p385 : 0 ≤ ((ji79) : Int) := of_decide_eq_true (by first | (with_reducible assumption) | assumption); have q385 : (ji79) < (t353.length : Int) := of_decide_eq_true (by first | (with_reducible assumption) | assumption); obtain ⟨ad385, e385, hx385_0⟩ := Kd.at_int (Kd.R_reads' HO_9.out).2.2 (ji79) p385 q385; cases e385; replace p385 := eq_true p385; replace q385 := eq_true q385; obtain ⟨Ao104, co104, eo104⟩ := Kd.R_slice HO_11.out; subst eo104; have p386 : 0 ≤ ((ji79) : Int) := of_decide_eq_true (by first | (with_reducible assumption) | assumption); have q386 : (ji79) < (t357.length : Int) := of_decide_eq_true (by first | (with_reducible assumption) | assumption); obtain ⟨ad386, e386, hx386_0⟩ := Kd.at_int (Kd.R_reads' HO_11.out).2.2 (ji79) p386 q386; cases e386; replace p386 := eq_true p386; replace q386 := eq_true q386; have p387 : 0 ≤ ((ji85) : Int) := of_decide_eq_true (by first | (with_reducible assumption) | assumption); have q387 : (ji85) < (t353.length : Int) := of_decide_eq_true (by first | (with_reducible assumption) | assumption); obtain ⟨ad387, e387, hx387_0⟩ := Kd.at_int (Kd.R_reads' HO_9.out).2.2 (ji85) p387 q387; obtain rfl : ad385 = ad387 := (by injection e387); replace p387 := eq_true p387; replace q387 := eq_true q387)))
                                                                  go_ret
                                                                  exact ⟨by first | rfl | (simp [errW_none, errW_some] <;> rfl) | (simp only [← hji79, ← hji85]; first | rfl | (simp [errW_none, errW_some] <;> rfl)) | (simp [*, errW_none, errW_some] <;> rfl), by repeat (first | (with_reducible first | exact HB.out | apply below_alloc | apply pw_below_drewN | apply below_drew1) | exact HB.out)⟩
                                                              · rw [if_neg c88] at H
                                                                have c88b0 : (t383 == (rd t353 (ji85))) = false := beq_eq_false_iff_ne.mpr c88
                                                                have c88b1 : (t383 != (rd t353 (ji85))) = true := bne_iff_ne.mpr c88
                                                                obtain rfl := Option.some.inj H
                                                                go_wp2_with (first | (go_at_call 18; (with_reducible refine (pole_At.calls k5 (wrap64 (1 + (wrap64 (Int.tmod a0 300)))) t352 ji79 t379 t380 _ A73.out).mono ?_); rintro e w105 ⟨rfl, hb⟩; have n0_ := Aside0.mk (Kd.R_below (by (with_reducible repeat (first | apply Kd.R_alloc | apply Kd.R_drewN | apply Kd.R_drew)); exact HO_9.out) hb); have n1_ := Aside0.mk (Kd.R_below (by (with_reducible repeat (first | apply Kd.R_alloc | apply Kd.R_drewN | apply Kd.R_drew)); exact HO_11.out) hb); have n2_ := Aside0.mk (below_step (by repeat (first | (with_reducible first | exact HB.out | apply below_alloc | apply pw_below_drewN | apply below_drew1) | exact HB.out)) hb); clear HO_9; clear HO_11; clear HB; have HO_9 := n0_; have HO_11 := n1_; have HB := n2_; clear n0_ n1_ n2_; (try clear hb); (try clear hb2); (try clear hk); (try clear hi)) | (go_at_call 29; (with_reducible refine (pole_Turn.calls k5 (wrap64 (1 + (wrap64 (Int.tmod a0 300)))) t352 ji79 t381 t382 _ A74.out).mono ?_); rintro e w' ⟨rfl, ⟨nd, rfl⟩⟩; (try first | exact ⟨rfl, _, World.drewN_drewN _ _ _⟩ | exact ⟨rfl, _, Eq.trans (World.drewN_drewN _ _ _) (congrArg (World.drewN _) (Nat.add_assoc _ _ _))⟩)) | (go_at_call 16; (with_reducible refine (pole_Last.calls k5 (wrap64 (1 + (wrap64 (Int.tmod a0 300)))) t352 t383 t384 _ A75.out).mono ?_); rintro e w106 ⟨rfl, hb⟩; have n0_ := Aside0.mk (Kd.R_below (by (with_reducible repeat (first | apply Kd.R_alloc | apply Kd.R_drewN | apply Kd.R_drew)); exact HO_9.out) hb); have n1_ := Aside0.mk (Kd.R_below (by (with_reducible repeat (first | apply Kd.R_alloc | apply Kd.R_drewN | apply Kd.R_drew)); exact HO_11.out) hb); have n2_ := Aside0.mk (below_step (by repeat (first | (with_reducible first | exact HB.out | apply below_alloc | apply pw_below_drewN | apply below_drew1) | exact HB.out)) hb); clear HO_9; clear HO_11; clear HB; have HO_9 := n0_; have HO_11 := n1_; have HB := n2_; clear n0_ n1_ n2_; (try clear hb); (try clear hb2); (try clear hk); (try clear hi); obtain ⟨Ao107, co107, eo107⟩ := Kd.R_slice HO_9.out; subst eo107; have p385 : 0 ≤ ((ji79) : Int) := of_decide_eq_true (by first | (with_reducible assumption) | assumption); have q385 : (ji79) < (t353.length : Int) := of_decide_eq_true (by first | (with_reducible assumption) | assumption); obtain ⟨ad385, e385, hx385_0⟩ := Kd.at_int (Kd.R_reads' HO_9.out).2.2 (ji79) p385 q385; cases e385; replace p385 := eq_true p385; replace q385 := eq_true q385; obtain ⟨Ao108, co108, eo108⟩ := Kd.R_slice HO_11.out; subst eo108; have p386 : 0 ≤ ((ji79) : Int) := of_decide_eq_true (by first | (with_reducible assumption) | assumption); have q386 : (ji79) < (t357.length : Int) := of_decide_eq_true (by first | (with_reducible assumption) | assumption); obtain ⟨ad386, e386, hx386_0⟩ := Kd.at_int (Kd.R_reads' HO_11.out).2.2 (ji79) p386 q386; cases e386; replace p386 := eq_true p386; replace q386 := eq_true q386; have p387 : 0 ≤ ((ji85) : Int) := of_decide_eq_true (by first | (with_reducible assumption) | assumption); have q387 : (ji85) < (t353.length : Int) := of_decide_eq_true (by first | (with_reducible assumption) | assumption); obtain ⟨ad387, e387, hx387_0⟩ := Kd.at_int (Kd.R_reads' HO_9.out).2.2 (ji85) p387 q387; obtain rfl : ad385 = ad387 := (by injection e387); replace p387 := eq_true p387; replace q387 := eq_true q387))
                                                                repeat (go_quiet (first | (go_at_call 18; (with_reducible refine (pole_At.calls k5 (wrap64 (1 + (wrap64 (Int.tmod a0 300)))) t352 ji79 t379 t380 _ A73.out).mono ?_); rintro e w105 ⟨rfl, hb⟩; have n0_ := Aside0.mk (Kd.R_below (by (with_reducible repeat (first | apply Kd.R_alloc | apply Kd.R_drewN | apply Kd.R_drew)); exact HO_9.out) hb); have n1_ := Aside0.mk (Kd.R_below (by (with_reducible repeat (first | apply Kd.R_alloc | apply Kd.R_drewN | apply Kd.R_drew)); exact HO_11.out) hb); have n2_ := Aside0.mk (below_step (by repeat (first | (with_reducible first | exact HB.out | apply below_alloc | apply pw_below_drewN | apply below_drew1) | exact HB.out)) hb); clear HO_9; clear HO_11; clear HB; have HO_9 := n0_; have HO_11 := n1_; have HB := n2_; clear n0_ n1_ n2_; (try clear hb); (try clear hb2); (try clear hk); (try clear hi)) | (go_at_call 29; (with_reducible refine (pole_Turn.calls k5 (wrap64 (1 + (wrap64 (Int.tmod a0 300)))) t352 ji79 t381 t382 _ A74.out).mono ?_); rintro e w' ⟨rfl, ⟨nd, rfl⟩⟩; (try first | exact ⟨rfl, _, World.drewN_drewN _ _ _⟩ | exact ⟨rfl, _, Eq.trans (World.drewN_drewN _ _ _) (congrArg (World.drewN _) (Nat.add_assoc _ _ _))⟩)) | (go_at_call 16; (with_reducible refine (pole_Last.calls k5 (wrap64 (1 + (wrap64 (Int.tmod a0 300)))) t352 t383 t384 _ A75.out).mono ?_); rintro e w106 ⟨rfl, hb⟩; have n0_ := Aside0.mk (Kd.R_below (by (with_reducible repeat (first | apply Kd.R_alloc | apply Kd.R_drewN | apply Kd.R_drew)); exact HO_9.out) hb); have n1_ := Aside0.mk (Kd.R_below (by (with_reducible repeat (first | apply Kd.R_alloc | apply Kd.R_drewN | apply Kd.R_drew)); exact HO_11.out) hb); have n2_ := Aside0.mk (below_step (by repeat (first | (with_reducible first | exact HB.out | apply below_alloc | apply pw_below_drewN | apply below_drew1) | exact HB.out)) hb); clear HO_9; clear HO_11; clear HB; have HO_9 := n0_; have HO_11 := n1_; have HB := n2_; clear n0_ n1_ n2_; (try clear hb); (try clear hb2); (try clear hk); (try clear hi); obtain ⟨Ao107, co107, eo107⟩ := Kd.R_slice HO_9.out; subst eo107; have p385 : 0 ≤ ((ji79) : Int) := of_decide_eq_true (by first | (with_reducible assumption) | assumption); have q385 : (ji79) < (t353.length : Int) := of_decide_eq_true (by first | (with_reducible assumption) | assumption); obtain ⟨ad385, e385, hx385_0⟩ := Kd.at_int (Kd.R_reads' HO_9.out).2.2 (ji79) p385 q385; cases e385; replace p385 := eq_true p385; replace q385 := eq_true q385; obtain ⟨Ao108, co108, eo108⟩ := Kd.R_slice HO_11.out; subst eo108; have p386 : 0 ≤ ((ji79) : Int) := of_decide_eq_true (by first | (with_reducible assumption) | assumption); have q386 : (ji79) < (t357.length : Int) := of_decide_eq_true (by first | (with_reducible assumption) | assumption); obtain ⟨ad386, e386, hx386_0⟩ := Kd.at_int (Kd.R_reads' HO_11.out).2.2 (ji79) p386 q386; cases e386; replace p386 := eq_true p386; replace q386 := eq_true q386; have p387 : 0 ≤ ((ji85) : Int) := of_decide_eq_true (by first | (with_reducible assumption) | assumption); have q387 : (ji85) < (t353.length : Int) := of_decide_eq_true (by first | (with_reducible assumption) | assumption); obtain ⟨ad387, e387, hx387_0⟩ := Kd.at_int (Kd.R_reads' HO_9.out).2.2 (ji85) p387 q387; obtain rfl : ad385 = ad387 := (by injection e387); replace p387 := eq_true p387; replace q387 := eq_true q387)); try go_wp2_with (first | (go_at_call 18; (with_reducible refine (pole_At.calls k5 (wrap64 (1 + (wrap64 (Int.tmod a0 300)))) t352 ji79 t379 t380 _ A73.out).mono ?_); rintro e w105 ⟨rfl, hb⟩; have n0_ := Aside0.mk (Kd.R_below (by (with_reducible repeat (first | apply Kd.R_alloc | apply Kd.R_drewN | apply Kd.R_drew)); exact HO_9.out) hb); have n1_ := Aside0.mk (Kd.R_below (by (with_reducible repeat (first | apply Kd.R_alloc | apply Kd.R_drewN | apply Kd.R_drew)); exact HO_11.out) hb); have n2_ := Aside0.mk (below_step (by repeat (first | (with_reducible first | exact HB.out | apply below_alloc | apply pw_below_drewN | apply below_drew1) | exact HB.out)) hb); clear HO_9; clear HO_11; clear HB; have HO_9 := n0_; have HO_11 := n1_; have HB := n2_; clear n0_ n1_ n2_; (try clear hb); (try clear hb2); (try clear hk); (try clear hi)) | (go_at_call 29; (with_reducible refine (pole_Turn.calls k5 (wrap64 (1 + (wrap64 (Int.tmod a0 300)))) t352 ji79 t381 t382 _ A74.out).mono ?_); rintro e w' ⟨rfl, ⟨nd, rfl⟩⟩; (try first | exact ⟨rfl, _, World.drewN_drewN _ _ _⟩ | exact ⟨rfl, _, Eq.trans (World.drewN_drewN _ _ _) (congrArg (World.drewN _) (Nat.add_assoc _ _ _))⟩)) | (go_at_call 16; (with_reducible refine (pole_Last.calls k5 (wrap64 (1 + (wrap64 (Int.tmod a0 300)))) t352 t383 t384 _ A75.out).mono ?_); rintro e w106 ⟨rfl, hb⟩; have n0_ := Aside0.mk (Kd.R_below (by (with_reducible repeat (first | apply Kd.R_alloc | apply Kd.R_drewN | apply Kd.R_drew)); exact HO_9.out) hb); have n1_ := Aside0.mk (Kd.R_below (by (with_reducible repeat (first | apply Kd.R_alloc | apply Kd.R_drewN | apply Kd.R_drew)); exact HO_11.out) hb); have n2_ := Aside0.mk (below_step (by repeat (first | (with_reducible first | exact HB.out | apply below_alloc | apply pw_below_drewN | apply below_drew1) | exact HB.out)) hb); clear HO_9; clear HO_11; clear HB; have HO_9 := n0_; have HO_11 := n1_; have HB := n2_; clear n0_ n1_ n2_; (try clear hb); (try clear hb2); (try clear hk); (try clear hi); obtain ⟨Ao107, co107, eo107⟩ := Kd.R_slice HO_9.out; subst eo107; have p385 : 0 ≤ ((ji79) : Int) := of_decide_eq_true (by first | (with_reducible assumption) | assumption); have q385 : (ji79) < (t353.length : Int) := of_decide_eq_true (by first | (with_reducible assumption) | assumption); obtain ⟨ad385, e385, hx385_0⟩ := Kd.at_int (Kd.R_reads' HO_9.out).2.2 (ji79) p385 q385; cases e385; replace p385 := eq_true p385; replace q385 := eq_true q385; obtain ⟨Ao108, co108, eo108⟩ := Kd.R_slice HO_11.out; subst eo108; have p386 : 0 ≤ ((ji79) : Int) := of_decide_eq_true (by first | (with_reducible assumption) | assumption); have q386 : (ji79) < (t357.length : Int) := of_decide_eq_true (by first | (with_reducible assumption) | assumption); obtain ⟨ad386, e386, hx386_0⟩ := Kd.at_int (Kd.R_reads' HO_11.out).2.2 (ji79) p386 q386; cases e386; replace p386 := eq_true p386; replace q386 := eq_true q386; have p387 : 0 ≤ ((ji85) : Int) := of_decide_eq_true (by first | (with_reducible assumption) | assumption); have q387 : (ji85) < (t353.length : Int) := of_decide_eq_true (by first | (with_reducible assumption) | assumption); obtain ⟨ad387, e387, hx387_0⟩ := Kd.at_int (Kd.R_reads' HO_9.out).2.2 (ji85) p387 q387; obtain rfl : ad385 = ad387 := (by injection e387); replace p387 := eq_true p387; replace q387 := eq_true q387)))
                                                                go_ret
                                                                exact ⟨by first | rfl | (simp [errW_none, errW_some] <;> rfl) | (simp only [← hji79, ← hji85]; first | rfl | (simp [errW_none, errW_some] <;> rfl)) | (simp [*, errW_none, errW_some] <;> rfl), by repeat (first | (with_reducible first | exact HB.out | apply below_alloc | apply pw_below_drewN | apply below_drew1) | exact HB.out)⟩
                                                            · rw [if_neg c87] at H
                                                              exact absurd H (by simp)
                                                          · rw [if_neg c86] at H
                                                            exact absurd H (by simp)
                                                        · rw [if_neg c84] at H
                                                          have c84b0 : (t381 == (rd t357 (ji79))) = false := beq_eq_false_iff_ne.mpr c84
                                                          have c84b1 : (t381 != (rd t357 (ji79))) = true := bne_iff_ne.mpr c84
                                                          obtain rfl := Option.some.inj H
                                                          go_wp2_with (first | (go_at_call 18; (with_reducible refine (pole_At.calls k5 (wrap64 (1 + (wrap64 (Int.tmod a0 300)))) t352 ji79 t379 t380 _ A73.out).mono ?_); rintro e w109 ⟨rfl, hb⟩; have n0_ := Aside0.mk (Kd.R_below (by (with_reducible repeat (first | apply Kd.R_alloc | apply Kd.R_drewN | apply Kd.R_drew)); exact HO_9.out) hb); have n1_ := Aside0.mk (Kd.R_below (by (with_reducible repeat (first | apply Kd.R_alloc | apply Kd.R_drewN | apply Kd.R_drew)); exact HO_11.out) hb); have n2_ := Aside0.mk (below_step (by repeat (first | (with_reducible first | exact HB.out | apply below_alloc | apply pw_below_drewN | apply below_drew1) | exact HB.out)) hb); clear HO_9; clear HO_11; clear HB; have HO_9 := n0_; have HO_11 := n1_; have HB := n2_; clear n0_ n1_ n2_; (try clear hb); (try clear hb2); (try clear hk); (try clear hi)) | (go_at_call 29; (with_reducible refine (pole_Turn.calls k5 (wrap64 (1 + (wrap64 (Int.tmod a0 300)))) t352 ji79 t381 t382 _ A74.out).mono ?_); rintro e w' ⟨rfl, ⟨nd, rfl⟩⟩; (try first | exact ⟨rfl, _, World.drewN_drewN _ _ _⟩ | exact ⟨rfl, _, Eq.trans (World.drewN_drewN _ _ _) (congrArg (World.drewN _) (Nat.add_assoc _ _ _))⟩)) | (go_at_call 16; (with_reducible refine (pole_Last.calls k5 (wrap64 (1 + (wrap64 (Int.tmod a0 300)))) t352 t383 t384 _ A75.out).mono ?_); rintro e w110 ⟨rfl, hb⟩; have n0_ := Aside0.mk (Kd.R_below (by (with_reducible repeat (first | apply Kd.R_alloc | apply Kd.R_drewN | apply Kd.R_drew)); exact HO_9.out) hb); have n1_ := Aside0.mk (Kd.R_below (by (with_reducible repeat (first | apply Kd.R_alloc | apply Kd.R_drewN | apply Kd.R_drew)); exact HO_11.out) hb); have n2_ := Aside0.mk (below_step (by repeat (first | (with_reducible first | exact HB.out | apply below_alloc | apply pw_below_drewN | apply below_drew1) | exact HB.out)) hb); clear HO_9; clear HO_11; clear HB; have HO_9 := n0_; have HO_11 := n1_; have HB := n2_; clear n0_ n1_ n2_; (try clear hb); (try clear hb2); (try clear hk); (try clear hi); obtain ⟨Ao111, co111, eo111⟩ := Kd.R_slice HO_9.out; subst eo111; have p385 : 0 ≤ ((ji79) : Int) := of_decide_eq_true (by first | (with_reducible assumption) | assumption); have q385 : (ji79) < (t353.length : Int) := of_decide_eq_true (by first | (with_reducible assumption) | assumption); obtain ⟨ad385, e385, hx385_0⟩ := Kd.at_int (Kd.R_reads' HO_9.out).2.2 (ji79) p385 q385; cases e385; replace p385 := eq_true p385; replace q385 := eq_true q385; obtain ⟨Ao112, co112, eo112⟩ := Kd.R_slice HO_11.out; subst eo112; have p386 : 0 ≤ ((ji79) : Int) := of_decide_eq_true (by first | (with_reducible assumption) | assumption); have q386 : (ji79) < (t357.length : Int) := of_decide_eq_true (by first | (with_reducible assumption) | assumption); obtain ⟨ad386, e386, hx386_0⟩ := Kd.at_int (Kd.R_reads' HO_11.out).2.2 (ji79) p386 q386; cases e386; replace p386 := eq_true p386; replace q386 := eq_true q386))
                                                          repeat (go_quiet (first | (go_at_call 18; (with_reducible refine (pole_At.calls k5 (wrap64 (1 + (wrap64 (Int.tmod a0 300)))) t352 ji79 t379 t380 _ A73.out).mono ?_); rintro e w109 ⟨rfl, hb⟩; have n0_ := Aside0.mk (Kd.R_below (by (with_reducible repeat (first | apply Kd.R_alloc | apply Kd.R_drewN | apply Kd.R_drew)); exact HO_9.out) hb); have n1_ := Aside0.mk (Kd.R_below (by (with_reducible repeat (first | apply Kd.R_alloc | apply Kd.R_drewN | apply Kd.R_drew)); exact HO_11.out) hb); have n2_ := Aside0.mk (below_step (by repeat (first | (with_reducible first | exact HB.out | apply below_alloc | apply pw_below_drewN | apply below_drew1) | exact HB.out)) hb); clear HO_9; clear HO_11; clear HB; have HO_9 := n0_; have HO_11 := n1_; have HB := n2_; clear n0_ n1_ n2_; (try clear hb); (try clear hb2); (try clear hk); (try clear hi)) | (go_at_call 29; (with_reducible refine (pole_Turn.calls k5 (wrap64 (1 + (wrap64 (Int.tmod a0 300)))) t352 ji79 t381 t382 _ A74.out).mono ?_); rintro e w' ⟨rfl, ⟨nd, rfl⟩⟩; (try first | exact ⟨rfl, _, World.drewN_drewN _ _ _⟩ | exact ⟨rfl, _, Eq.trans (World.drewN_drewN _ _ _) (congrArg (World.drewN _) (Nat.add_assoc _ _ _))⟩)) | (go_at_call 16; (with_reducible refine (pole_Last.calls k5 (wrap64 (1 + (wrap64 (Int.tmod a0 300)))) t352 t383 t384 _ A75.out).mono ?_); rintro e w110 ⟨rfl, hb⟩; have n0_ := Aside0.mk (Kd.R_below (by (with_reducible repeat (first | apply Kd.R_alloc | apply Kd.R_drewN | apply Kd.R_drew)); exact HO_9.out) hb); have n1_ := Aside0.mk (Kd.R_below (by (with_reducible repeat (first | apply Kd.R_alloc | apply Kd.R_drewN | apply Kd.R_drew)); exact HO_11.out) hb); have n2_ := Aside0.mk (below_step (by repeat (first | (with_reducible first | exact HB.out | apply below_alloc | apply pw_below_drewN | apply below_drew1) | exact HB.out)) hb); clear HO_9; clear HO_11; clear HB; have HO_9 := n0_; have HO_11 := n1_; have HB := n2_; clear n0_ n1_ n2_; (try clear hb); (try clear hb2); (try clear hk); (try clear hi); obtain ⟨Ao111, co111, eo111⟩ := Kd.R_slice HO_9.out; subst eo111; have p385 : 0 ≤ ((ji79) : Int) := of_decide_eq_true (by first | (with_reducible assumption) | assumption); have q385 : (ji79) < (t353.length : Int) := of_decide_eq_true (by first | (with_reducible assumption) | assumption); obtain ⟨ad385, e385, hx385_0⟩ := Kd.at_int (Kd.R_reads' HO_9.out).2.2 (ji79) p385 q385; cases e385; replace p385 := eq_true p385; replace q385 := eq_true q385; obtain ⟨Ao112, co112, eo112⟩ := Kd.R_slice HO_11.out; subst eo112; have p386 : 0 ≤ ((ji79) : Int) := of_decide_eq_true (by first | (with_reducible assumption) | assumption); have q386 : (ji79) < (t357.length : Int) := of_decide_eq_true (by first | (with_reducible assumption) | assumption); obtain ⟨ad386, e386, hx386_0⟩ := Kd.at_int (Kd.R_reads' HO_11.out).2.2 (ji79) p386 q386; cases e386; replace p386 := eq_true p386; replace q386 := eq_true q386)); try go_wp2_with (first | (go_at_call 18; (with_reducible refine (pole_At.calls k5 (wrap64 (1 + (wrap64 (Int.tmod a0 300)))) t352 ji79 t379 t380 _ A73.out).mono ?_); rintro e w109 ⟨rfl, hb⟩; have n0_ := Aside0.mk (Kd.R_below (by (with_reducible repeat (first | apply Kd.R_alloc | apply Kd.R_drewN | apply Kd.R_drew)); exact HO_9.out) hb); have n1_ := Aside0.mk (Kd.R_below (by (with_reducible repeat (first | apply Kd.R_alloc | apply Kd.R_drewN | apply Kd.R_drew)); exact HO_11.out) hb); have n2_ := Aside0.mk (below_step (by repeat (first | (with_reducible first | exact HB.out | apply below_alloc | apply pw_below_drewN | apply below_drew1) | exact HB.out)) hb); clear HO_9; clear HO_11; clear HB; have HO_9 := n0_; have HO_11 := n1_; have HB := n2_; clear n0_ n1_ n2_; (try clear hb); (try clear hb2); (try clear hk); (try clear hi)) | (go_at_call 29; (with_reducible refine (pole_Turn.calls k5 (wrap64 (1 + (wrap64 (Int.tmod a0 300)))) t352 ji79 t381 t382 _ A74.out).mono ?_); rintro e w' ⟨rfl, ⟨nd, rfl⟩⟩; (try first | exact ⟨rfl, _, World.drewN_drewN _ _ _⟩ | exact ⟨rfl, _, Eq.trans (World.drewN_drewN _ _ _) (congrArg (World.drewN _) (Nat.add_assoc _ _ _))⟩)) | (go_at_call 16; (with_reducible refine (pole_Last.calls k5 (wrap64 (1 + (wrap64 (Int.tmod a0 300)))) t352 t383 t384 _ A75.out).mono ?_); rintro e w110 ⟨rfl, hb⟩; have n0_ := Aside0.mk (Kd.R_below (by (with_reducible repeat (first | apply Kd.R_alloc | apply Kd.R_drewN | apply Kd.R_drew)); exact HO_9.out) hb); have n1_ := Aside0.mk (Kd.R_below (by (with_reducible repeat (first | apply Kd.R_alloc | apply Kd.R_drewN | apply Kd.R_drew)); exact HO_11.out) hb); have n2_ := Aside0.mk (below_step (by repeat (first | (with_reducible first | exact HB.out | apply below_alloc | apply pw_below_drewN | apply below_drew1) | exact HB.out)) hb); clear HO_9; clear HO_11; clear HB; have HO_9 := n0_; have HO_11 := n1_; have HB := n2_; clear n0_ n1_ n2_; (try clear hb); (try clear hb2); (try clear hk); (try clear hi); obtain ⟨Ao111, co111, eo111⟩ := Kd.R_slice HO_9.out; subst eo111; have p385 : 0 ≤ ((ji79) : Int) := of_decide_eq_true (by first | (with_reducible assumption) | assumption); have q385 : (ji79) < (t353.length : Int) := of_decide_eq_true (by first | (with_reducible assumption) | assumption); obtain ⟨ad385, e385, hx385_0⟩ := Kd.at_int (Kd.R_reads' HO_9.out).2.2 (ji79) p385 q385; cases e385; replace p385 := eq_true p385; replace q385 := eq_true q385; obtain ⟨Ao112, co112, eo112⟩ := Kd.R_slice HO_11.out; subst eo112; have p386 : 0 ≤ ((ji79) : Int) := of_decide_eq_true (by first | (with_reducible assumption) | assumption); have q386 : (ji79) < (t357.length : Int) := of_decide_eq_true (by first | (with_reducible assumption) | assumption); obtain ⟨ad386, e386, hx386_0⟩ := Kd.at_int (Kd.R_reads' HO_11.out).2.2 (ji79) p386 q386; cases e386; replace p386 := eq_true p386; replace q386 := eq_true q386)))
                                                          go_ret
                                                          exact ⟨by first | rfl | (simp [errW_none, errW_some] <;> rfl) | (simp only [← hji79]; first | rfl | (simp [errW_none, errW_some] <;> rfl)) | (simp [*, errW_none, errW_some] <;> rfl), by repeat (first | (with_reducible first | exact HB.out | apply below_alloc | apply pw_below_drewN | apply below_drew1) | exact HB.out)⟩
                                                      · rw [if_neg c83] at H
                                                        exact absurd H (by simp)
                                                    · rw [if_neg c82] at H
                                                      have c82b0 : (t379 == (rd t353 (ji79))) = false := beq_eq_false_iff_ne.mpr c82
                                                      have c82b1 : (t379 != (rd t353 (ji79))) = true := bne_iff_ne.mpr c82
                                                      obtain rfl := Option.some.inj H
                                                      go_wp2_with (first | (go_at_call 18; (with_reducible refine (pole_At.calls k5 (wrap64 (1 + (wrap64 (Int.tmod a0 300)))) t352 ji79 t379 t380 _ A73.out).mono ?_); rintro e w113 ⟨rfl, hb⟩; have n0_ := Aside0.mk (Kd.R_below (by (with_reducible repeat (first | apply Kd.R_alloc | apply Kd.R_drewN | apply Kd.R_drew)); exact HO_9.out) hb); have n1_ := Aside0.mk (Kd.R_below (by (with_reducible repeat (first | apply Kd.R_alloc | apply Kd.R_drewN | apply Kd.R_drew)); exact HO_11.out) hb); have n2_ := Aside0.mk (below_step (by repeat (first | (with_reducible first | exact HB.out | apply below_alloc | apply pw_below_drewN | apply below_drew1) | exact HB.out)) hb); clear HO_9; clear HO_11; clear HB; have HO_9 := n0_; have HO_11 := n1_; have HB := n2_; clear n0_ n1_ n2_; (try clear hb); (try clear hb2); (try clear hk); (try clear hi)) | (go_at_call 29; (with_reducible refine (pole_Turn.calls k5 (wrap64 (1 + (wrap64 (Int.tmod a0 300)))) t352 ji79 t381 t382 _ A74.out).mono ?_); rintro e w' ⟨rfl, ⟨nd, rfl⟩⟩; (try first | exact ⟨rfl, _, World.drewN_drewN _ _ _⟩ | exact ⟨rfl, _, Eq.trans (World.drewN_drewN _ _ _) (congrArg (World.drewN _) (Nat.add_assoc _ _ _))⟩)) | (go_at_call 16; (with_reducible refine (pole_Last.calls k5 (wrap64 (1 + (wrap64 (Int.tmod a0 300)))) t352 t383 t384 _ A75.out).mono ?_); rintro e w114 ⟨rfl, hb⟩; have n0_ := Aside0.mk (Kd.R_below (by (with_reducible repeat (first | apply Kd.R_alloc | apply Kd.R_drewN | apply Kd.R_drew)); exact HO_9.out) hb); have n1_ := Aside0.mk (Kd.R_below (by (with_reducible repeat (first | apply Kd.R_alloc | apply Kd.R_drewN | apply Kd.R_drew)); exact HO_11.out) hb); have n2_ := Aside0.mk (below_step (by repeat (first | (with_reducible first | exact HB.out | apply below_alloc | apply pw_below_drewN | apply below_drew1) | exact HB.out)) hb); clear HO_9; clear HO_11; clear HB; have HO_9 := n0_; have HO_11 := n1_; have HB := n2_; clear n0_ n1_ n2_; (try clear hb); (try clear hb2); (try clear hk); (try clear hi); obtain ⟨Ao115, co115, eo115⟩ := Kd.R_slice HO_9.out; subst eo115; have p385 : 0 ≤ ((ji79) : Int) := of_decide_eq_true (by first | (with_reducible assumption) | assumption); have q385 : (ji79) < (t353.length : Int) := of_decide_eq_true (by first | (with_reducible assumption) | assumption); obtain ⟨ad385, e385, hx385_0⟩ := Kd.at_int (Kd.R_reads' HO_9.out).2.2 (ji79) p385 q385; cases e385; replace p385 := eq_true p385; replace q385 := eq_true q385))
                                                      repeat (go_quiet (first | (go_at_call 18; (with_reducible refine (pole_At.calls k5 (wrap64 (1 + (wrap64 (Int.tmod a0 300)))) t352 ji79 t379 t380 _ A73.out).mono ?_); rintro e w113 ⟨rfl, hb⟩; have n0_ := Aside0.mk (Kd.R_below (by (with_reducible repeat (first | apply Kd.R_alloc | apply Kd.R_drewN | apply Kd.R_drew)); exact HO_9.out) hb); have n1_ := Aside0.mk (Kd.R_below (by (with_reducible repeat (first | apply Kd.R_alloc | apply Kd.R_drewN | apply Kd.R_drew)); exact HO_11.out) hb); have n2_ := Aside0.mk (below_step (by repeat (first | (with_reducible first | exact HB.out | apply below_alloc | apply pw_below_drewN | apply below_drew1) | exact HB.out)) hb); clear HO_9; clear HO_11; clear HB; have HO_9 := n0_; have HO_11 := n1_; have HB := n2_; clear n0_ n1_ n2_; (try clear hb); (try clear hb2); (try clear hk); (try clear hi)) | (go_at_call 29; (with_reducible refine (pole_Turn.calls k5 (wrap64 (1 + (wrap64 (Int.tmod a0 300)))) t352 ji79 t381 t382 _ A74.out).mono ?_); rintro e w' ⟨rfl, ⟨nd, rfl⟩⟩; (try first | exact ⟨rfl, _, World.drewN_drewN _ _ _⟩ | exact ⟨rfl, _, Eq.trans (World.drewN_drewN _ _ _) (congrArg (World.drewN _) (Nat.add_assoc _ _ _))⟩)) | (go_at_call 16; (with_reducible refine (pole_Last.calls k5 (wrap64 (1 + (wrap64 (Int.tmod a0 300)))) t352 t383 t384 _ A75.out).mono ?_); rintro e w114 ⟨rfl, hb⟩; have n0_ := Aside0.mk (Kd.R_below (by (with_reducible repeat (first | apply Kd.R_alloc | apply Kd.R_drewN | apply Kd.R_drew)); exact HO_9.out) hb); have n1_ := Aside0.mk (Kd.R_below (by (with_reducible repeat (first | apply Kd.R_alloc | apply Kd.R_drewN | apply Kd.R_drew)); exact HO_11.out) hb); have n2_ := Aside0.mk (below_step (by repeat (first | (with_reducible first | exact HB.out | apply below_alloc | apply pw_below_drewN | apply below_drew1) | exact HB.out)) hb); clear HO_9; clear HO_11; clear HB; have HO_9 := n0_; have HO_11 := n1_; have HB := n2_; clear n0_ n1_ n2_; (try clear hb); (try clear hb2); (try clear hk); (try clear hi); obtain ⟨Ao115, co115, eo115⟩ := Kd.R_slice HO_9.out; subst eo115; have p385 : 0 ≤ ((ji79) : Int) := of_decide_eq_true (by first | (with_reducible assumption) | assumption); have q385 : (ji79) < (t353.length : Int) := of_decide_eq_true (by first | (with_reducible assumption) | assumption); obtain ⟨ad385, e385, hx385_0⟩ := Kd.at_int (Kd.R_reads' HO_9.out).2.2 (ji79) p385 q385; cases e385; replace p385 := eq_true p385; replace q385 := eq_true q385)); try go_wp2_with (first | (go_at_call 18; (with_reducible refine (pole_At.calls k5 (wrap64 (1 + (wrap64 (Int.tmod a0 300)))) t352 ji79 t379 t380 _ A73.out).mono ?_); rintro e w113 ⟨rfl, hb⟩; have n0_ := Aside0.mk (Kd.R_below (by (with_reducible repeat (first | apply Kd.R_alloc | apply Kd.R_drewN | apply Kd.R_drew)); exact HO_9.out) hb); have n1_ := Aside0.mk (Kd.R_below (by (with_reducible repeat (first | apply Kd.R_alloc | apply Kd.R_drewN | apply Kd.R_drew)); exact HO_11.out) hb); have n2_ := Aside0.mk (below_step (by repeat (first | (with_reducible first | exact HB.out | apply below_alloc | apply pw_below_drewN | apply below_drew1) | exact HB.out)) hb); clear HO_9; clear HO_11; clear HB; have HO_9 := n0_; have HO_11 := n1_; have HB := n2_; clear n0_ n1_ n2_; (try clear hb); (try clear hb2); (try clear hk); (try clear hi)) | (go_at_call 29; (with_reducible refine (pole_Turn.calls k5 (wrap64 (1 + (wrap64 (Int.tmod a0 300)))) t352 ji79 t381 t382 _ A74.out).mono ?_); rintro e w' ⟨rfl, ⟨nd, rfl⟩⟩; (try first | exact ⟨rfl, _, World.drewN_drewN _ _ _⟩ | exact ⟨rfl, _, Eq.trans (World.drewN_drewN _ _ _) (congrArg (World.drewN _) (Nat.add_assoc _ _ _))⟩)) | (go_at_call 16; (with_reducible refine (pole_Last.calls k5 (wrap64 (1 + (wrap64 (Int.tmod a0 300)))) t352 t383 t384 _ A75.out).mono ?_); rintro e w114 ⟨rfl, hb⟩; have n0_ := Aside0.mk (Kd.R_below (by (with_reducible repeat (first | apply Kd.R_alloc | apply Kd.R_drewN | apply Kd.R_drew)); exact HO_9.out) hb); have n1_ := Aside0.mk (Kd.R_below (by (with_reducible repeat (first | apply Kd.R_alloc | apply Kd.R_drewN | apply Kd.R_drew)); exact HO_11.out) hb); have n2_ := Aside0.mk (below_step (by repeat (first | (with_reducible first | exact HB.out | apply below_alloc | apply pw_below_drewN | apply below_drew1) | exact HB.out)) hb); clear HO_9; clear HO_11; clear HB; have HO_9 := n0_; have HO_11 := n1_; have HB := n2_; clear n0_ n1_ n2_; (try clear hb); (try clear hb2); (try clear hk); (try clear hi); obtain ⟨Ao115, co115, eo115⟩ := Kd.R_slice HO_9.out; subst eo115; have p385 : 0 ≤ ((ji79) : Int) := of_decide_eq_true (by first | (with_reducible assumption) | assumption); have q385 : (ji79) < (t353.length : Int) := of_decide_eq_true (by first | (with_reducible assumption) | assumption); obtain ⟨ad385, e385, hx385_0⟩ := Kd.at_int (Kd.R_reads' HO_9.out).2.2 (ji79) p385 q385; cases e385; replace p385 := eq_true p385; replace q385 := eq_true q385)))
                                                      go_ret
                                                      exact ⟨by first | rfl | (simp [errW_none, errW_some] <;> rfl) | (simp only [← hji79]; first | rfl | (simp [errW_none, errW_some] <;> rfl)) | (simp [*, errW_none, errW_some] <;> rfl), by repeat (first | (with_reducible first | exact HB.out | apply below_alloc | apply pw_below_drewN | apply below_drew1) | exact HB.out)⟩
                                                  · rw [if_neg c81] at H
                                                    exact absurd H (by simp)
                                                · rw [if_neg c80] at H
                                                  exact absurd H (by simp)
                                              · rw [if_neg c78] at H
                                                have c78b0 : (t384 == 0) = false := beq_eq_false_iff_ne.mpr c78
                                                have c78b1 : (t384 != 0) = true := bne_iff_ne.mpr c78
                                                obtain rfl := Option.some.inj H
                                                go_wp2_with (first | (go_at_call 18; (with_reducible refine (pole_At.calls k5 (wrap64 (1 + (wrap64 (Int.tmod a0 300)))) t352 (Int.tmod (wrap64 (a2)) (wrap64 (1 + (wrap64 (Int.tmod a0 300))))) t379 t380 _ A73.out).mono ?_); rintro e w116 ⟨rfl, hb⟩; have n0_ := Aside0.mk (Kd.R_below (by (with_reducible repeat (first | apply Kd.R_alloc | apply Kd.R_drewN | apply Kd.R_drew)); exact HO_9.out) hb); have n1_ := Aside0.mk (Kd.R_below (by (with_reducible repeat (first | apply Kd.R_alloc | apply Kd.R_drewN | apply Kd.R_drew)); exact HO_11.out) hb); have n2_ := Aside0.mk (below_step (by repeat (first | (with_reducible first | exact HB.out | apply below_alloc | apply pw_below_drewN | apply below_drew1) | exact HB.out)) hb); clear HO_9; clear HO_11; clear HB; have HO_9 := n0_; have HO_11 := n1_; have HB := n2_; clear n0_ n1_ n2_; (try clear hb); (try clear hb2); (try clear hk); (try clear hi)) | (go_at_call 29; (with_reducible refine (pole_Turn.calls k5 (wrap64 (1 + (wrap64 (Int.tmod a0 300)))) t352 (Int.tmod (wrap64 (a2)) (wrap64 (1 + (wrap64 (Int.tmod a0 300))))) t381 t382 _ A74.out).mono ?_); rintro e w' ⟨rfl, ⟨nd, rfl⟩⟩; (try first | exact ⟨rfl, _, World.drewN_drewN _ _ _⟩ | exact ⟨rfl, _, Eq.trans (World.drewN_drewN _ _ _) (congrArg (World.drewN _) (Nat.add_assoc _ _ _))⟩)) | (go_at_call 16; (with_reducible refine (pole_Last.calls k5 (wrap64 (1 + (wrap64 (Int.tmod a0 300)))) t352 t383 t384 _ A75.out).mono ?_); rintro e w117 ⟨rfl, hb⟩; have n0_ := Aside0.mk (Kd.R_below (by (with_reducible repeat (first | apply Kd.R_alloc | apply Kd.R_drewN | apply Kd.R_drew)); exact HO_9.out) hb); have n1_ := Aside0.mk (Kd.R_below (by (with_reducible repeat (first | apply Kd.R_alloc | apply Kd.R_drewN | apply Kd.R_drew)); exact HO_11.out) hb); have n2_ := Aside0.mk (below_step (by repeat (first | (with_reducible first | exact HB.out | apply below_alloc | apply pw_below_drewN | apply below_drew1) | exact HB.out)) hb); clear HO_9; clear HO_11; clear HB; have HO_9 := n0_; have HO_11 := n1_; have HB := n2_; clear n0_ n1_ n2_; (try clear hb); (try clear hb2); (try clear hk); (try clear hi)))
                                                repeat (go_quiet (first | (go_at_call 18; (with_reducible refine (pole_At.calls k5 (wrap64 (1 + (wrap64 (Int.tmod a0 300)))) t352 (Int.tmod (wrap64 (a2)) (wrap64 (1 + (wrap64 (Int.tmod a0 300))))) t379 t380 _ A73.out).mono ?_); rintro e w116 ⟨rfl, hb⟩; have n0_ := Aside0.mk (Kd.R_below (by (with_reducible repeat (first | apply Kd.R_alloc | apply Kd.R_drewN | apply Kd.R_drew)); exact HO_9.out) hb); have n1_ := Aside0.mk (Kd.R_below (by (with_reducible repeat (first | apply Kd.R_alloc | apply Kd.R_drewN | apply Kd.R_drew)); exact HO_11.out) hb); have n2_ := Aside0.mk (below_step (by repeat (first | (with_reducible first | exact HB.out | apply below_alloc | apply pw_below_drewN | apply below_drew1) | exact HB.out)) hb); clear HO_9; clear HO_11; clear HB; have HO_9 := n0_; have HO_11 := n1_; have HB := n2_; clear n0_ n1_ n2_; (try clear hb); (try clear hb2); (try clear hk); (try clear hi)) | (go_at_call 29; (with_reducible refine (pole_Turn.calls k5 (wrap64 (1 + (wrap64 (Int.tmod a0 300)))) t352 (Int.tmod (wrap64 (a2)) (wrap64 (1 + (wrap64 (Int.tmod a0 300))))) t381 t382 _ A74.out).mono ?_); rintro e w' ⟨rfl, ⟨nd, rfl⟩⟩; (try first | exact ⟨rfl, _, World.drewN_drewN _ _ _⟩ | exact ⟨rfl, _, Eq.trans (World.drewN_drewN _ _ _) (congrArg (World.drewN _) (Nat.add_assoc _ _ _))⟩)) | (go_at_call 16; (with_reducible refine (pole_Last.calls k5 (wrap64 (1 + (wrap64 (Int.tmod a0 300)))) t352 t383 t384 _ A75.out).mono ?_); rintro e w117 ⟨rfl, hb⟩; have n0_ := Aside0.mk (Kd.R_below (by (with_reducible repeat (first | apply Kd.R_alloc | apply Kd.R_drewN | apply Kd.R_drew)); exact HO_9.out) hb); have n1_ := Aside0.mk (Kd.R_below (by (with_reducible repeat (first | apply Kd.R_alloc | apply Kd.R_drewN | apply Kd.R_drew)); exact HO_11.out) hb); have n2_ := Aside0.mk (below_step (by repeat (first | (with_reducible first | exact HB.out | apply below_alloc | apply pw_below_drewN | apply below_drew1) | exact HB.out)) hb); clear HO_9; clear HO_11; clear HB; have HO_9 := n0_; have HO_11 := n1_; have HB := n2_; clear n0_ n1_ n2_; (try clear hb); (try clear hb2); (try clear hk); (try clear hi))); try go_wp2_with (first | (go_at_call 18; (with_reducible refine (pole_At.calls k5 (wrap64 (1 + (wrap64 (Int.tmod a0 300)))) t352 (Int.tmod (wrap64 (a2)) (wrap64 (1 + (wrap64 (Int.tmod a0 300))))) t379 t380 _ A73.out).mono ?_); rintro e w116 ⟨rfl, hb⟩; have n0_ := Aside0.mk (Kd.R_below (by (with_reducible repeat (first | apply Kd.R_alloc | apply Kd.R_drewN | apply Kd.R_drew)); exact HO_9.out) hb); have n1_ := Aside0.mk (Kd.R_below (by (with_reducible repeat (first | apply Kd.R_alloc | apply Kd.R_drewN | apply Kd.R_drew)); exact HO_11.out) hb); have n2_ := Aside0.mk (below_step (by repeat (first | (with_reducible first | exact HB.out | apply below_alloc | apply pw_below_drewN | apply below_drew1) | exact HB.out)) hb); clear HO_9; clear HO_11; clear HB; have HO_9 := n0_; have HO_11 := n1_; have HB := n2_; clear n0_ n1_ n2_; (try clear hb); (try clear hb2); (try clear hk); (try clear hi)) | (go_at_call 29; (with_reducible refine (pole_Turn.calls k5 (wrap64 (1 + (wrap64 (Int.tmod a0 300)))) t352 (Int.tmod (wrap64 (a2)) (wrap64 (1 + (wrap64 (Int.tmod a0 300))))) t381 t382 _ A74.out).mono ?_); rintro e w' ⟨rfl, ⟨nd, rfl⟩⟩; (try first | exact ⟨rfl, _, World.drewN_drewN _ _ _⟩ | exact ⟨rfl, _, Eq.trans (World.drewN_drewN _ _ _) (congrArg (World.drewN _) (Nat.add_assoc _ _ _))⟩)) | (go_at_call 16; (with_reducible refine (pole_Last.calls k5 (wrap64 (1 + (wrap64 (Int.tmod a0 300)))) t352 t383 t384 _ A75.out).mono ?_); rintro e w117 ⟨rfl, hb⟩; have n0_ := Aside0.mk (Kd.R_below (by (with_reducible repeat (first | apply Kd.R_alloc | apply Kd.R_drewN | apply Kd.R_drew)); exact HO_9.out) hb); have n1_ := Aside0.mk (Kd.R_below (by (with_reducible repeat (first | apply Kd.R_alloc | apply Kd.R_drewN | apply Kd.R_drew)); exact HO_11.out) hb); have n2_ := Aside0.mk (below_step (by repeat (first | (with_reducible first | exact HB.out | apply below_alloc | apply pw_below_drewN | apply below_drew1) | exact HB.out)) hb); clear HO_9; clear HO_11; clear HB; have HO_9 := n0_; have HO_11 := n1_; have HB := n2_; clear n0_ n1_ n2_; (try clear hb); (try clear hb2); (try clear hk); (try clear hi))))
                                                go_ret
                                                exact ⟨by first | rfl | (simp [errW_none, errW_some] <;> rfl) | (simp [*, errW_none, errW_some] <;> rfl), by repeat (first | (with_reducible first | exact HB.out | apply below_alloc | apply pw_below_drewN | apply below_drew1) | exact HB.out)⟩
                                            · rw [if_neg c77] at H
                                              have c77b0 : (t382 == 0) = false := beq_eq_false_iff_ne.mpr c77
                                              have c77b1 : (t382 != 0) = true := bne_iff_ne.mpr c77
                                              obtain rfl := Option.some.inj H
                                              go_wp2_with (first | (go_at_call 18; (with_reducible refine (pole_At.calls k5 (wrap64 (1 + (wrap64 (Int.tmod a0 300)))) t352 (Int.tmod (wrap64 (a2)) (wrap64 (1 + (wrap64 (Int.tmod a0 300))))) t379 t380 _ A73.out).mono ?_); rintro e w118 ⟨rfl, hb⟩; have n0_ := Aside0.mk (Kd.R_below (by (with_reducible repeat (first | apply Kd.R_alloc | apply Kd.R_drewN | apply Kd.R_drew)); exact HO_9.out) hb); have n1_ := Aside0.mk (Kd.R_below (by (with_reducible repeat (first | apply Kd.R_alloc | apply Kd.R_drewN | apply Kd.R_drew)); exact HO_11.out) hb); have n2_ := Aside0.mk (below_step (by repeat (first | (with_reducible first | exact HB.out | apply below_alloc | apply pw_below_drewN | apply below_drew1) | exact HB.out)) hb); clear HO_9; clear HO_11; clear HB; have HO_9 := n0_; have HO_11 := n1_; have HB := n2_; clear n0_ n1_ n2_; (try clear hb); (try clear hb2); (try clear hk); (try clear hi)) | (go_at_call 29; (with_reducible refine (pole_Turn.calls k5 (wrap64 (1 + (wrap64 (Int.tmod a0 300)))) t352 (Int.tmod (wrap64 (a2)) (wrap64 (1 + (wrap64 (Int.tmod a0 300))))) t381 t382 _ A74.out).mono ?_); rintro e w' ⟨rfl, ⟨nd, rfl⟩⟩; (try first | exact ⟨rfl, _, World.drewN_drewN _ _ _⟩ | exact ⟨rfl, _, Eq.trans (World.drewN_drewN _ _ _) (congrArg (World.drewN _) (Nat.add_assoc _ _ _))⟩)) | (go_at_call 16; (with_reducible refine (pole_Last.calls k5 (wrap64 (1 + (wrap64 (Int.tmod a0 300)))) t352 t383 t384 _ A75.out).mono ?_); rintro e w119 ⟨rfl, hb⟩; have n0_ := Aside0.mk (Kd.R_below (by (with_reducible repeat (first | apply Kd.R_alloc | apply Kd.R_drewN | apply Kd.R_drew)); exact HO_9.out) hb); have n1_ := Aside0.mk (Kd.R_below (by (with_reducible repeat (first | apply Kd.R_alloc | apply Kd.R_drewN | apply Kd.R_drew)); exact HO_11.out) hb); have n2_ := Aside0.mk (below_step (by repeat (first | (with_reducible first | exact HB.out | apply below_alloc | apply pw_below_drewN | apply below_drew1) | exact HB.out)) hb); clear HO_9; clear HO_11; clear HB; have HO_9 := n0_; have HO_11 := n1_; have HB := n2_; clear n0_ n1_ n2_; (try clear hb); (try clear hb2); (try clear hk); (try clear hi)))
                                              repeat (go_quiet (first | (go_at_call 18; (with_reducible refine (pole_At.calls k5 (wrap64 (1 + (wrap64 (Int.tmod a0 300)))) t352 (Int.tmod (wrap64 (a2)) (wrap64 (1 + (wrap64 (Int.tmod a0 300))))) t379 t380 _ A73.out).mono ?_); rintro e w118 ⟨rfl, hb⟩; have n0_ := Aside0.mk (Kd.R_below (by (with_reducible repeat (first | apply Kd.R_alloc | apply Kd.R_drewN | apply Kd.R_drew)); exact HO_9.out) hb); have n1_ := Aside0.mk (Kd.R_below (by (with_reducible repeat (first | apply Kd.R_alloc | apply Kd.R_drewN | apply Kd.R_drew)); exact HO_11.out) hb); have n2_ := Aside0.mk (below_step (by repeat (first | (with_reducible first | exact HB.out | apply below_alloc | apply pw_below_drewN | apply below_drew1) | exact HB.out)) hb); clear HO_9; clear HO_11; clear HB; have HO_9 := n0_; have HO_11 := n1_; have HB := n2_; clear n0_ n1_ n2_; (try clear hb); (try clear hb2); (try clear hk); (try clear hi)) | (go_at_call 29; (with_reducible refine (pole_Turn.calls k5 (wrap64 (1 + (wrap64 (Int.tmod a0 300)))) t352 (Int.tmod (wrap64 (a2)) (wrap64 (1 + (wrap64 (Int.tmod a0 300))))) t381 t382 _ A74.out).mono ?_); rintro e w' ⟨rfl, ⟨nd, rfl⟩⟩; (try first | exact ⟨rfl, _, World.drewN_drewN _ _ _⟩ | exact ⟨rfl, _, Eq.trans (World.drewN_drewN _ _ _) (congrArg (World.drewN _) (Nat.add_assoc _ _ _))⟩)) | (go_at_call 16; (with_reducible refine (pole_Last.calls k5 (wrap64 (1 + (wrap64 (Int.tmod a0 300)))) t352 t383 t384 _ A75.out).mono ?_); rintro e w119 ⟨rfl, hb⟩; have n0_ := Aside0.mk (Kd.R_below (by (with_reducible repeat (first | apply Kd.R_alloc | apply Kd.R_drewN | apply Kd.R_drew)); exact HO_9.out) hb); have n1_ := Aside0.mk (Kd.R_below (by (with_reducible repeat (first | apply Kd.R_alloc | apply Kd.R_drewN | apply Kd.R_drew)); exact HO_11.out) hb); have n2_ := Aside0.mk (below_step (by repeat (first | (with_reducible first | exact HB.out | apply below_alloc | apply pw_below_drewN | apply below_drew1) | exact HB.out)) hb); clear HO_9; clear HO_11; clear HB; have HO_9 := n0_; have HO_11 := n1_; have HB := n2_; clear n0_ n1_ n2_; (try clear hb); (try clear hb2); (try clear hk); (try clear hi))); try go_wp2_with (first | (go_at_call 18; (with_reducible refine (pole_At.calls k5 (wrap64 (1 + (wrap64 (Int.tmod a0 300)))) t352 (Int.tmod (wrap64 (a2)) (wrap64 (1 + (wrap64 (Int.tmod a0 300))))) t379 t380 _ A73.out).mono ?_); rintro e w118 ⟨rfl, hb⟩; have n0_ := Aside0.mk (Kd.R_below (by (with_reducible repeat (first | apply Kd.R_alloc | apply Kd.R_drewN | apply Kd.R_drew)); exact HO_9.out) hb); have n1_ := Aside0.mk (Kd.R_below (by (with_reducible repeat (first | apply Kd.R_alloc | apply Kd.R_drewN | apply Kd.R_drew)); exact HO_11.out) hb); have n2_ := Aside0.mk (below_step (by repeat (first | (with_reducible first | exact HB.out | apply below_alloc | apply pw_below_drewN | apply below_drew1) | exact HB.out)) hb); clear HO_9; clear HO_11; clear HB; have HO_9 := n0_; have HO_11 := n1_; have HB := n2_; clear n0_ n1_ n2_; (try clear hb); (try clear hb2); (try clear hk); (try clear hi)) | (go_at_call 29; (with_reducible refine (pole_Turn.calls k5 (wrap64 (1 + (wrap64 (Int.tmod a0 300)))) t352 (Int.tmod (wrap64 (a2)) (wrap64 (1 + (wrap64 (Int.tmod a0 300))))) t381 t382 _ A74.out).mono ?_); rintro e w' ⟨rfl, ⟨nd, rfl⟩⟩; (try first | exact ⟨rfl, _, World.drewN_drewN _ _ _⟩ | exact ⟨rfl, _, Eq.trans (World.drewN_drewN _ _ _) (congrArg (World.drewN _) (Nat.add_assoc _ _ _))⟩)) | (go_at_call 16; (with_reducible refine (pole_Last.calls k5 (wrap64 (1 + (wrap64 (Int.tmod a0 300)))) t352 t383 t384 _ A75.out).mono ?_); rintro e w119 ⟨rfl, hb⟩; have n0_ := Aside0.mk (Kd.R_below (by (with_reducible repeat (first | apply Kd.R_alloc | apply Kd.R_drewN | apply Kd.R_drew)); exact HO_9.out) hb); have n1_ := Aside0.mk (Kd.R_below (by (with_reducible repeat (first | apply Kd.R_alloc | apply Kd.R_drewN | apply Kd.R_drew)); exact HO_11.out) hb); have n2_ := Aside0.mk (below_step (by repeat (first | (with_reducible first | exact HB.out | apply below_alloc | apply pw_below_drewN | apply below_drew1) | exact HB.out)) hb); clear HO_9; clear HO_11; clear HB; have HO_9 := n0_; have HO_11 := n1_; have HB := n2_; clear n0_ n1_ n2_; (try clear hb); (try clear hb2); (try clear hk); (try clear hi))))
                                              go_ret
                                              exact ⟨by first | rfl | (simp [errW_none, errW_some] <;> rfl) | (simp [*, errW_none, errW_some] <;> rfl), by repeat (first | (with_reducible first | exact HB.out | apply below_alloc | apply pw_below_drewN | apply below_drew1) | exact HB.out)⟩
                                          · rw [if_neg c76] at H
                                            have c76b0 : (t380 == 0) = false := beq_eq_false_iff_ne.mpr c76
                                            have c76b1 : (t380 != 0) = true := bne_iff_ne.mpr c76
                                            obtain rfl := Option.some.inj H
                                            go_wp2_with (first | (go_at_call 18; (with_reducible refine (pole_At.calls k5 (wrap64 (1 + (wrap64 (Int.tmod a0 300)))) t352 (Int.tmod (wrap64 (a2)) (wrap64 (1 + (wrap64 (Int.tmod a0 300))))) t379 t380 _ A73.out).mono ?_); rintro e w120 ⟨rfl, hb⟩; have n0_ := Aside0.mk (Kd.R_below (by (with_reducible repeat (first | apply Kd.R_alloc | apply Kd.R_drewN | apply Kd.R_drew)); exact HO_9.out) hb); have n1_ := Aside0.mk (Kd.R_below (by (with_reducible repeat (first | apply Kd.R_alloc | apply Kd.R_drewN | apply Kd.R_drew)); exact HO_11.out) hb); have n2_ := Aside0.mk (below_step (by repeat (first | (with_reducible first | exact HB.out | apply below_alloc | apply pw_below_drewN | apply below_drew1) | exact HB.out)) hb); clear HO_9; clear HO_11; clear HB; have HO_9 := n0_; have HO_11 := n1_; have HB := n2_; clear n0_ n1_ n2_; (try clear hb); (try clear hb2); (try clear hk); (try clear hi)) | (go_at_call 29; (with_reducible refine (pole_Turn.calls k5 (wrap64 (1 + (wrap64 (Int.tmod a0 300)))) t352 (Int.tmod (wrap64 (a2)) (wrap64 (1 + (wrap64 (Int.tmod a0 300))))) t381 t382 _ A74.out).mono ?_); rintro e w' ⟨rfl, ⟨nd, rfl⟩⟩; (try first | exact ⟨rfl, _, World.drewN_drewN _ _ _⟩ | exact ⟨rfl, _, Eq.trans (World.drewN_drewN _ _ _) (congrArg (World.drewN _) (Nat.add_assoc _ _ _))⟩)) | (go_at_call 16; (with_reducible refine (pole_Last.calls k5 (wrap64 (1 + (wrap64 (Int.tmod a0 300)))) t352 t383 t384 _ A75.out).mono ?_); rintro e w121 ⟨rfl, hb⟩; have n0_ := Aside0.mk (Kd.R_below (by (with_reducible repeat (first | apply Kd.R_alloc | apply Kd.R_drewN | apply Kd.R_drew)); exact HO_9.out) hb); have n1_ := Aside0.mk (Kd.R_below (by (with_reducible repeat (first | apply Kd.R_alloc | apply Kd.R_drewN | apply Kd.R_drew)); exact HO_11.out) hb); have n2_ := Aside0.mk (below_step (by repeat (first | (with_reducible first | exact HB.out | apply below_alloc | apply pw_below_drewN | apply below_drew1) | exact HB.out)) hb); clear HO_9; clear HO_11; clear HB; have HO_9 := n0_; have HO_11 := n1_; have HB := n2_; clear n0_ n1_ n2_; (try clear hb); (try clear hb2); (try clear hk); (try clear hi)))
                                            repeat (go_quiet (first | (go_at_call 18; (with_reducible refine (pole_At.calls k5 (wrap64 (1 + (wrap64 (Int.tmod a0 300)))) t352 (Int.tmod (wrap64 (a2)) (wrap64 (1 + (wrap64 (Int.tmod a0 300))))) t379 t380 _ A73.out).mono ?_); rintro e w120 ⟨rfl, hb⟩; have n0_ := Aside0.mk (Kd.R_below (by (with_reducible repeat (first | apply Kd.R_alloc | apply Kd.R_drewN | apply Kd.R_drew)); exact HO_9.out) hb); have n1_ := Aside0.mk (Kd.R_below (by (with_reducible repeat (first | apply Kd.R_alloc | apply Kd.R_drewN | apply Kd.R_drew)); exact HO_11.out) hb); have n2_ := Aside0.mk (below_step (by repeat (first | (with_reducible first | exact HB.out | apply below_alloc | apply pw_below_drewN | apply below_drew1) | exact HB.out)) hb); clear HO_9; clear HO_11; clear HB; have HO_9 := n0_; have HO_11 := n1_; have HB := n2_; clear n0_ n1_ n2_; (try clear hb); (try clear hb2); (try clear hk); (try clear hi)) | (go_at_call 29; (with_reducible refine (pole_Turn.calls k5 (wrap64 (1 + (wrap64 (Int.tmod a0 300)))) t352 (Int.tmod (wrap64 (a2)) (wrap64 (1 + (wrap64 (Int.tmod a0 300))))) t381 t382 _ A74.out).mono ?_); rintro e w' ⟨rfl, ⟨nd, rfl⟩⟩; (try first | exact ⟨rfl, _, World.drewN_drewN _ _ _⟩ | exact ⟨rfl, _, Eq.trans (World.drewN_drewN _ _ _) (congrArg (World.drewN _) (Nat.add_assoc _ _ _))⟩)) | (go_at_call 16; (with_reducible refine (pole_Last.calls k5 (wrap64 (1 + (wrap64 (Int.tmod a0 300)))) t352 t383 t384 _ A75.out).mono ?_); rintro e w121 ⟨rfl, hb⟩; have n0_ := Aside0.mk (Kd.R_below (by (with_reducible repeat (first | apply Kd.R_alloc | apply Kd.R_drewN | apply Kd.R_drew)); exact HO_9.out) hb); have n1_ := Aside0.mk (Kd.R_below (by (with_reducible repeat (first | apply Kd.R_alloc | apply Kd.R_drewN | apply Kd.R_drew)); exact HO_11.out) hb); have n2_ := Aside0.mk (below_step (by repeat (first | (with_reducible first | exact HB.out | apply below_alloc | apply pw_below_drewN | apply below_drew1) | exact HB.out)) hb); clear HO_9; clear HO_11; clear HB; have HO_9 := n0_; have HO_11 := n1_; have HB := n2_; clear n0_ n1_ n2_; (try clear hb); (try clear hb2); (try clear hk); (try clear hi))); try go_wp2_with (first | (go_at_call 18; (with_reducible refine (pole_At.calls k5 (wrap64 (1 + (wrap64 (Int.tmod a0 300)))) t352 (Int.tmod (wrap64 (a2)) (wrap64 (1 + (wrap64 (Int.tmod a0 300))))) t379 t380 _ A73.out).mono ?_); rintro e w120 ⟨rfl, hb⟩; have n0_ := Aside0.mk (Kd.R_below (by (with_reducible repeat (first | apply Kd.R_alloc | apply Kd.R_drewN | apply Kd.R_drew)); exact HO_9.out) hb); have n1_ := Aside0.mk (Kd.R_below (by (with_reducible repeat (first | apply Kd.R_alloc | apply Kd.R_drewN | apply Kd.R_drew)); exact HO_11.out) hb); have n2_ := Aside0.mk (below_step (by repeat (first | (with_reducible first | exact HB.out | apply below_alloc | apply pw_below_drewN | apply below_drew1) | exact HB.out)) hb); clear HO_9; clear HO_11; clear HB; have HO_9 := n0_; have HO_11 := n1_; have HB := n2_; clear n0_ n1_ n2_; (try clear hb); (try clear hb2); (try clear hk); (try clear hi)) | (go_at_call 29; (with_reducible refine (pole_Turn.calls k5 (wrap64 (1 + (wrap64 (Int.tmod a0 300)))) t352 (Int.tmod (wrap64 (a2)) (wrap64 (1 + (wrap64 (Int.tmod a0 300))))) t381 t382 _ A74.out).mono ?_); rintro e w' ⟨rfl, ⟨nd, rfl⟩⟩; (try first | exact ⟨rfl, _, World.drewN_drewN _ _ _⟩ | exact ⟨rfl, _, Eq.trans (World.drewN_drewN _ _ _) (congrArg (World.drewN _) (Nat.add_assoc _ _ _))⟩)) | (go_at_call 16; (with_reducible refine (pole_Last.calls k5 (wrap64 (1 + (wrap64 (Int.tmod a0 300)))) t352 t383 t384 _ A75.out).mono ?_); rintro e w121 ⟨rfl, hb⟩; have n0_ := Aside0.mk (Kd.R_below (by (with_reducible repeat (first | apply Kd.R_alloc | apply Kd.R_drewN | apply Kd.R_drew)); exact HO_9.out) hb); have n1_ := Aside0.mk (Kd.R_below (by (with_reducible repeat (first | apply Kd.R_alloc | apply Kd.R_drewN | apply Kd.R_drew)); exact HO_11.out) hb); have n2_ := Aside0.mk (below_step (by repeat (first | (with_reducible first | exact HB.out | apply below_alloc | apply pw_below_drewN | apply below_drew1) | exact HB.out)) hb); clear HO_9; clear HO_11; clear HB; have HO_9 := n0_; have HO_11 := n1_; have HB := n2_; clear n0_ n1_ n2_; (try clear hb); (try clear hb2); (try clear hk); (try clear hi))))
                                            go_ret
                                            exact ⟨by first | rfl | (simp [errW_none, errW_some] <;> rfl) | (simp [*, errW_none, errW_some] <;> rfl), by repeat (first | (with_reducible first | exact HB.out | apply below_alloc | apply pw_below_drewN | apply below_drew1) | exact HB.out)⟩
        
/-- THE ONE PURE STATEMENT of pomadelaw06_PoleListed: yours. -/
def pomadelaw06_PoleListed.Pure : Prop := ∀ (a0 : Int) (a1 : Int) (a2 : Int), (Lit.int .u16 a0).wf = true → (Lit.int .u16 a1).wf = true → (Lit.int .u16 a2).wf = true → ∃ k, pomadelaw06_PoleListed.f k a0 a1 a2 = some true
theorem pomadelaw06_PoleListed.walk (P : pomadelaw06_PoleListed.Pure) (a0 : Int) (a1 : Int) (a2 : Int) (w : World) (w0 : (Lit.int .u16 a0).wf = true) (w1 : (Lit.int .u16 a1).wf = true) (w2 : (Lit.int .u16 a2).wf = true) :
    Calls Try.prog 15 #[.int .u16 a0, .int .u16 a1, .int .u16 a2] w fun e w' => e = .returned (.bool true) ∧ Below w.heap.size w w' := by
  obtain ⟨k, h⟩ := P a0 a1 a2 w0 w1 w2
  refine (pomadelaw06_PoleListed.calls k a0 a1 a2 true w h).mono ?_
  rintro e w' ⟨rfl, hd⟩
  exact ⟨rfl, hd⟩

end Go.Proofs.Ytndpnlpidphflaa.Print
