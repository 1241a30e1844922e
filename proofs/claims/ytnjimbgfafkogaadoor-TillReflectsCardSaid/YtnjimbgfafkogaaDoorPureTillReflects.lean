/- Within is the number of walks, less those reflected at a lower bound; turned upside down and read backwards it is the same: for all numbers: no condition. -/
import Derived.Test.YtnjimbgfafkogaaDoorEvC
import Derived.Test.YtnjimbgfafkogaaDoorMathD
import Derived.Test.YtnjimbgfafkogaaDoorFie1
namespace Go.Proofs.YtnjimbgfafkogaaDoor.Pure
open Go.RowKit Go.Proofs.YtnjimbgfafkogaaDoor.Hand Go.Proofs.YtnjimbgfafkogaaDoor.Pre Go.Proofs.YtnjimbgfafkogaaDoor.Bal Go.Proofs.YtnjimbgfafkogaaDoor.Base Go.Proofs.YtnjimbgfafkogaaDoor.Print Go.Proofs.YtnjimbgfafkogaaDoor.Math Go.Proofs.YtnjimbgfafkogaaDoorW.PrintWords Go.Proofs.YtnjimbgfafkogaaDoorW.PrintLast Go.Proofs.YtnjimbgfafkogaaDoorW.PrintMore
set_option linter.unusedVariables false
set_option linter.unusedSimpArgs false

open Go.Proofs.YtnjimbgfafkogaaDoor.Fie
theorem W_unbound (lo hi f : Int) (s : Nat) (hlo : lo + s ≤ f) (hhi : f + s ≤ hi) (t : Int) (ht : lo - 1 ≤ t) : W lo hi f s t = V s (t - f) := by
  have h := W_reflect lo hi f (by omega) s hhi t ht
  rw [V_far s (2 * (lo - 1) - t - f) (by omega)] at h
  omega
def far60 (x : Int) : Prop := x < -60 ∨ x > 60
instance (x : Int) : Decidable (far60 x) := by unfold far60; exact inferInstance
def withinR (a0 a1 a2 a3 a4 : Int) : Int × Int := if a0 < 0 ∨ a0 > 60 ∨ far60 a1 ∨ far60 a2 ∨ far60 a3 ∨ far60 a4 then (0, 2) else (((W a3 a4 a1 a0.toNat a2 : Nat) : Int), 0)
theorem withinR_ok (n : Nat) (a1 a2 a3 a4 : Int) (hn : n ≤ 60) (f1 : ¬ far60 a1) (f2 : ¬ far60 a2) (f3 : ¬ far60 a3) (f4 : ¬ far60 a4) : withinR n a1 a2 a3 a4 = (((W a3 a4 a1 n a2 : Nat) : Int), 0) := by
  unfold withinR
  rw [if_neg (by rintro (h1 | h1 | h1 | h1 | h1 | h1) <;> first | omega | contradiction), Int.toNat_natCast]
theorem far_is (x : Int) : farW x = true ↔ far60 x := by unfold farW far60; exact decide_eq_true_iff
theorem twR_is (a0 a1 a2 a3 a4 : Int) : twR a0 a1 a2 a3 a4 = withinR a0 a1 a2 a3 a4 := by
  unfold twR withinR
  by_cases h : a0 < 0 ∨ a0 > 60 ∨ far60 a1 ∨ far60 a2 ∨ far60 a3 ∨ far60 a4
  · rw [if_pos h, if_pos]
    rcases h with h | h | h | h | h | h
    · exact .inl h
    · exact .inr (.inl h)
    · exact .inr (.inr (by rw [(far_is a1).2 h]; rfl))
    · exact .inr (.inr (by rw [(far_is a2).2 h]; simp))
    · exact .inr (.inr (by rw [(far_is a3).2 h]; simp))
    · exact .inr (.inr (by rw [(far_is a4).2 h]; simp))
  · rw [if_neg h, if_neg]
    rintro (h1 | h1 | h1)
    · exact h (.inl h1)
    · exact h (.inr (.inl h1))
    · rw [Bool.or_eq_true, Bool.or_eq_true, Bool.or_eq_true, far_is, far_is, far_is, far_is] at h1
      rcases h1 with ((h1 | h1) | h1) | h1
      · exact h (.inr (.inr (.inl h1)))
      · exact h (.inr (.inr (.inr (.inl h1))))
      · exact h (.inr (.inr (.inr (.inr (.inl h1)))))
      · exact h (.inr (.inr (.inr (.inr (.inr h1)))))
theorem ev_ways (s : Nat) (d : Int) (hs : s ≤ 60) (hd : -400 ≤ d ∧ d ≤ 400) : Ev (fun k => pomadelaw09_ways.f k s d) ((V s d : Nat) : Int) := by
  have e1 : wrap64 ((s : Int) + d) = (s : Int) + d := by rw [w64 (by omega)]
  have e2 : wrap64 (-(s : Int)) = -(s : Int) := by rw [w64 (by omega)]
  have hmod : Int.tmod ((s : Int) + d) 2 = 0 ↔ ((s : Int) + d) % 2 = 0 := by rw [← Int.dvd_iff_tmod_eq_zero, Int.dvd_iff_emod_eq_zero]
  by_cases h : ((s : Int) + d) % 2 = 0
  · by_cases h1 : d > s
    · refine Ev.congr (f := fun _ => some 0) (fun k => ?_) (by rw [V_far s d (.inl h1)]; exact Ev.now _)
      unfold pomadelaw09_ways.f
      rw [e1, if_pos (hmod.2 h), if_pos h1]
    · by_cases h2 : d < -(s : Int)
      · refine Ev.congr (f := fun _ => some 0) (fun k => ?_) (by rw [V_far s d (.inr h2)]; exact Ev.now _)
        unfold pomadelaw09_ways.f
        rw [e1, e2, if_pos (hmod.2 h), if_neg h1, if_pos h2]
      · obtain ⟨j, hj⟩ : ∃ j : Nat, (s : Int) + d = 2 * (j : Int) := ⟨(((s : Int) + d) / 2).toNat, by omega⟩
        have hV := V_choose s j
        rw [show 2 * (j : Int) - s = d by omega] at hV
        rw [hV]
        have e3 : wrap64 (Int.tdiv ((s : Int) + d) 2) = (j : Int) := by
          rw [Int.tdiv_eq_ediv_of_nonneg (by omega), show ((s : Int) + d) / 2 = (j : Int) by omega, w64 (by omega)]
        refine Ev.congr (fun k => ?_) (Ev.bind (ev_choose s j hs (by omega)) (f := fun _ t => some t) (Ev.now _))
        unfold pomadelaw09_ways.f
        rw [e1, e2, if_pos (hmod.2 h), if_neg h1, if_neg h2, e3]
  · refine Ev.congr (f := fun _ => some 0) (fun k => ?_) (by rw [V_odd s d h]; exact Ev.now _)
    unfold pomadelaw09_ways.f
    rw [e1, if_neg (fun e => h (hmod.1 e))]
theorem far_neg {x : Int} (h : ¬ far60 x) : ¬ far60 (-x) := by unfold far60 at *; omega
theorem TillReflects (a0 a1 a2 a3 a4 : Int) : ∃ k, pomadelaw09_TillReflects.f k a0 a1 a2 a3 a4 = some true := by
  refine Ev.rounds (g := fun k => pomadelaw09_TillReflects.f k a0 a1 a2 a3 a4) ?_
  have hal : Ev (fun k => (pomadelaw09_alive.f k).bind fun t => some t) true := Ev.bind alive_true (Ev.now _)
  unfold pomadelaw09_TillReflects.f till_Within.f
  simp only [Option.bind_some, twR_is]
  by_cases h : a0 < 0 ∨ a0 > 60 ∨ far60 a1 ∨ far60 a2 ∨ far60 a3 ∨ far60 a4
  · have e : withinR a0 a1 a2 a3 a4 = (0, 2) := by unfold withinR; rw [if_pos h]
    rw [e]
    simp only [show ¬ ((2 : Int) = 0) by decide, if_false, if_true]
    exact hal
  · have h0 : ¬ (a0 < 0 ∨ a0 > 60) := fun q => h (q.elim .inl (fun q => .inr (.inl q)))
    have f1 : ¬ far60 a1 := fun q => h (.inr (.inr (.inl q)))
    have f2 : ¬ far60 a2 := fun q => h (.inr (.inr (.inr (.inl q))))
    have f3 : ¬ far60 a3 := fun q => h (.inr (.inr (.inr (.inr (.inl q)))))
    have f4 : ¬ far60 a4 := fun q => h (.inr (.inr (.inr (.inr (.inr q)))))
    clear h
    obtain ⟨s, rfl⟩ : ∃ s : Nat, a0 = (s : Int) := ⟨a0.toNat, by omega⟩
    have hs : s ≤ 60 := by omega
    rw [withinR_ok s a1 a2 a3 a4 hs f1 f2 f3 f4]
    have g1 := f1
    have g2 := f2
    have g3 := f3
    have g4 := f4
    unfold far60 at g1 g2 g3 g4
    have n1 : wrap64 (-a1) = -a1 := by rw [w64 (by omega)]
    have n2 : wrap64 (-a2) = -a2 := by rw [w64 (by omega)]
    have n3 : wrap64 (-a3) = -a3 := by rw [w64 (by omega)]
    have n4 : wrap64 (-a4) = -a4 := by rw [w64 (by omega)]
    have hmx : ¬ mx (mx (mx a1 a2) a3) a4 > 60 := by unfold mx; split <;> split <;> split <;> omega
    have hmn : ¬ mn (mn (mn a1 a2) a3) a4 < -60 := by unfold mn; split <;> split <;> split <;> omega
    obtain ⟨n, hn⟩ : ∃ n, W a3 a4 a1 s a2 = n := ⟨_, rfl⟩
    have hneg : W (-a4) (-a3) (-a1) s (-a2) = n := by rw [W_neg, hn]
    have hback : W a3 a4 a2 s a1 = n := by rw [W_back, hn]
    have hj2T : n = 0 → Ev (fun k => pomadelaw09_TillReflects.j2 k n true s a1 a2 a3 a4) true := by
      intro e
      subst e
      refine Ev.step (fun k => ?_) hal
      simp only [pomadelaw09_TillReflects.j2]
      rw [if_pos trivial, if_pos (by rfl)]
    have hj2F : a3 ≤ a1 → a3 ≤ a2 → Ev (fun k => pomadelaw09_TillReflects.j2 k n false s a1 a2 a3 a4) true := by
      intro l1 l2
      have e1 : wrap64 (a1 + (s : Int)) = a1 + s := by rw [w64 (by omega)]
      by_cases c : a1 + (s : Int) > a4
      · refine Ev.step (fun k => ?_) hal
        simp only [pomadelaw09_TillReflects.j2]
        rw [if_neg (by decide), e1, if_pos c]
      · have hr := W_reflect a3 a4 a1 l1 s (by omega) a2 (by omega)
        rw [hn] at hr
        have e2 : wrap64 (a2 - a1) = a2 - a1 := by rw [w64 (by omega)]
        have e3 : wrap64 (wrap64 (wrap64 (2 * wrap64 (a3 - 1)) - a2) - a1) = 2 * (a3 - 1) - a2 - a1 := by
          rw [w64 (n := a3 - 1) (by omega), w64 (n := 2 * (a3 - 1)) (by omega), w64 (n := 2 * (a3 - 1) - a2) (by omega), w64 (by omega)]
        have v1 := V_small s (a2 - a1) hs
        have hw1 := ev_ways s (a2 - a1) hs (by omega)
        have hw2 := ev_ways s (2 * (a3 - 1) - a2 - a1) hs (by omega)
        have he : Ev (fun k => (pomadelaw09_ways.f k s (a2 - a1)).bind fun t => (pomadelaw09_ways.f k s (2 * (a3 - 1) - a2 - a1)).bind fun u => if (n : Int) = wrap64 (t - u) then ((pomadelaw09_alive.f k).bind fun v => some v) else some false) true := by
          refine Ev.bind hw1 (Ev.bind hw2 ?_)
          have : (n : Int) = wrap64 (((V s (a2 - a1) : Nat) : Int) - ((V s (2 * (a3 - 1) - a2 - a1) : Nat) : Int)) := by rw [w64 (by omega)]; omega
          simp only [if_pos this]
          exact hal
        refine Ev.step (fun k => ?_) he
        simp only [pomadelaw09_TillReflects.j2]
        rw [if_neg (by decide), e1, if_neg c, e2, e3]
    have hj1 : Ev (fun k => pomadelaw09_TillReflects.j1 k n false s a1 a2 a3 a4) true := by
      by_cases c1 : a1 < a3
      · refine Ev.step (fun k => ?_) (hj2T (by rw [← hn]; exact W_from_out _ _ _ (by omega) _ _))
        simp only [pomadelaw09_TillReflects.j1]
        rw [if_neg (by decide), if_pos c1]
      · by_cases c2 : a2 < a3
        · refine Ev.step (fun k => ?_) (hj2T (by rw [← hn]; exact W_out _ _ _ _ _ (by omega)))
          simp only [pomadelaw09_TillReflects.j1]
          rw [if_neg (by decide), if_neg c1, if_pos c2]
        · by_cases c3 : a1 > a4
          · refine Ev.step (fun k => ?_) (hj2T (by rw [← hn]; exact W_from_out _ _ _ (by omega) _ _))
            simp only [pomadelaw09_TillReflects.j1]
            rw [if_neg (by decide), if_neg c1, if_neg c2, if_pos c3]
          · by_cases c4 : a2 > a4
            · refine Ev.step (fun k => ?_) (hj2T (by rw [← hn]; exact W_out _ _ _ _ _ (by omega)))
              simp only [pomadelaw09_TillReflects.j1]
              rw [if_neg (by decide), if_neg c1, if_neg c2, if_neg c3, decide_eq_true c4]
            · refine Ev.step (fun k => ?_) (hj2F (by omega) (by omega))
              simp only [pomadelaw09_TillReflects.j1]
              rw [if_neg (by decide), if_neg c1, if_neg c2, if_neg c3, decide_eq_false c4]
    have hj0 : Ev (fun k => pomadelaw09_TillReflects.j0 k n false s a1 a2 a3 a4) true := by
      refine Ev.step (fun k => ?_) hj1
      simp only [pomadelaw09_TillReflects.j0]
      unfold till_Within.f
      rw [if_neg (by decide), n1, n2, n3, n4]
      simp only [Option.bind_some, twR_is]
      rw [withinR_ok s (-a1) (-a2) (-a4) (-a3) hs (far_neg f1) (far_neg f2) (far_neg f4) (far_neg f3), withinR_ok s a2 a1 a3 a4 hs f2 f1 f3 f4, hneg, hback]
      simp only [if_true, bne_self_eq_false]
    rw [hn]
    simp only [if_true, if_neg (show ¬ ((s : Int) < 0) by omega), if_neg (show ¬ ((s : Int) > 60) by omega), if_neg hmx, decide_eq_false hmn]
    exact hj0

end Go.Proofs.YtnjimbgfafkogaaDoor.Pure
