/- The word that After returns makes the prefix and itself; of the words of Pair each makes its prefix and the other: for all strings: no condition. -/
import Derived.Test.YtcjbnonjhahakaaDoorEvB
import Derived.Test.YtcjbnonjhahakaaDoorPrint16
namespace Go.Proofs.YtcjbnonjhahakaaDoor.Pure
open Go.RowKit Go.Proofs.YtcjbnonjhahakaaDoor.Hand Go.Proofs.YtcjbnonjhahakaaDoor.Print Go.Proofs.YtcjbnonjhahakaaDoor.Math Go.Proofs.YtcjbnonjhahakaaDoorW.PrintWords Go.Proofs.YtcjbnonjhahakaaDoorW.PrintLast Go.Proofs.YtcjbnonjhahakaaDoorW.PrintMore
set_option linter.unusedVariables false
set_option linter.unusedSimpArgs false

theorem alive_b : (pomadelaw08_alive.f.bind fun t => some t) = some true := by rw [alive_true]; rfl
theorem tnil : (⟨#[]⟩ : ByteArray).toList = ([] : List UInt8) := by rw [toL]; rfl
theorem after_cases (o : List UInt8) : (∃ e, e ≠ 0 ∧ after o = ([], e)) ∨ (digE o = 0 ∧ ¬ ([51, 50] ++ o ++ [51]).length > 200 ∧ after o = ([51, 50] ++ o ++ [51], 0)) := by
  unfold after bounded
  by_cases h : digE o = 0
  · rw [if_neg (show ¬ (digE o ≠ 0) from fun hh => hh h)]
    by_cases h2 : ([51, 50] ++ o ++ [51]).length > 200
    · rw [if_pos h2]; exact .inl ⟨8, by decide, rfl⟩
    · rw [if_neg h2]; exact .inr ⟨h, h2, rfl⟩
  · rw [if_pos h]; exact .inl ⟨_, h, rfl⟩
theorem ParrotAfter : pomadelaw08_ParrotAfter.Pure := by
  intro a0 a1 w0 w1
  refine Ev.rounds ?_
  have h1 : a0.size ≤ 300 → a1.size ≤ 300 → Ev (fun k => pomadelaw08_ParrotAfter.j1 k a0 a1) true := by
    intro l0 l1
    refine Ev.step (fun k => by simp only [pomadelaw08_ParrotAfter.j1]; rfl) (Ev.bind (ev_Pair a0 a1 l0 l1) ?_)
    refine Ev.congr (f := fun _ => some true) (fun k => ?_) (Ev.now _)
    by_cases e1 : digE (L a0) = 0
    · by_cases e2 : digE (L a1) = 0
      · by_cases h3 : (((⟨#[50]⟩ : ByteArray) ++ a1) ++ pairX a0 a1).size > 200
        · rw [pairB_big e1 e2 h3]
          dsimp only
          rw [if_neg (by decide), if_pos tnil, if_pos tnil, alive_b]
        · rw [pairB_ok e1 e2 h3]
          dsimp only
          have hx := pairX_size a0 a1
          have hy := pairY_size a0 a1
          have hl : ([50] ++ L a1 ++ ([51, 50] ++ L a0 ++ [50] ++ L a1 ++ [51])).length ≤ 200 := by rw [← pairX_L, ← pairY_L, L_length]; omega
          have hm := make_pair e1 e2 hl
          rw [if_pos rfl, Make_is, Option.bind_some, Make_is, Option.bind_some, pairY_L, pairX_L, hm.1, hm.2]
          dsimp only
          rw [if_pos rfl, if_pos rfl, if_pos (by omega), if_pos (by rw [toL, toL, L_B, L_append, pairY_L, pairX_L]), if_pos (by omega), if_pos (by rw [toL, toL, L_B, L_append, pairX_L]), alive_b]
      · rw [pairB_err2 e1 e2]
        dsimp only
        rw [if_neg e2, if_pos tnil, if_pos tnil, alive_b]
    · rw [pairB_err1 e1]
      dsimp only
      rw [if_neg e1, if_pos tnil, if_pos tnil, alive_b]
  have hT : Ev (fun k => pomadelaw08_ParrotAfter.j0 k a0 a1 true) true :=
    Ev.step (f := fun _ => some true) (fun k => by simp only [pomadelaw08_ParrotAfter.j0, if_true]; exact alive_b) (Ev.now _)
  have h0 : a0.size ≤ 300 → a1.size ≤ 300 → Ev (fun k => pomadelaw08_ParrotAfter.j0 k a0 a1 false) true := by
    intro l0 l1
    refine Ev.step (fun k => ?_) (h1 l0 l1)
    simp only [pomadelaw08_ParrotAfter.j0]
    rw [if_neg (by decide), After_is, Option.bind_some]
    rcases after_cases (L a0) with ⟨e, he, hh⟩ | ⟨h, h2, hh⟩
    · rw [hh, if_neg he]
    · have hm := make_after h (by omega)
      rw [hh]
      dsimp only
      have hsz : (B ([51, 50] ++ L a0 ++ [51])).size ≤ 200 := by rw [B_size]; omega
      rw [if_pos rfl, Make_is, Option.bind_some, L_B, hm]
      dsimp only
      rw [if_pos rfl, if_pos (by omega), if_pos (by rw [toL, toL, L_B, L_append, L_B])]
  unfold pomadelaw08_ParrotAfter.f
  by_cases c1 : (a0.size : Int) > 300
  · simp only [if_pos c1]; exact hT
  · simp only [if_neg c1]
    by_cases c2 : (a1.size : Int) > 300
    · rw [decide_eq_true c2]; exact hT
    · rw [decide_eq_false c2]; exact h0 (by omega) (by omega)

end Go.Proofs.YtcjbnonjhahakaaDoor.Pure
