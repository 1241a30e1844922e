/- Within of the program returns what that of the reference returns, for all numbers: no condition. -/
import Derived.Test.YtnjimbgfafkogaaDoorEvJ
import Derived.Test.YtnjimbgfafkogaaDoorFid1
namespace Go.Proofs.YtnjimbgfafkogaaDoor.Pure
open Go.RowKit Go.Proofs.YtnjimbgfafkogaaDoor.Hand Go.Proofs.YtnjimbgfafkogaaDoor.Pre Go.Proofs.YtnjimbgfafkogaaDoor.Bal Go.Proofs.YtnjimbgfafkogaaDoor.Base Go.Proofs.YtnjimbgfafkogaaDoor.Print Go.Proofs.YtnjimbgfafkogaaDoor.Math Go.Proofs.YtnjimbgfafkogaaDoorW.PrintWords Go.Proofs.YtnjimbgfafkogaaDoorW.PrintLast Go.Proofs.YtnjimbgfafkogaaDoorW.PrintMore
set_option linter.unusedVariables false
set_option linter.unusedSimpArgs false

open Go.Proofs.YtnjimbgfafkogaaDoor.Fid
theorem far_is (x : Int) : farW x = true ↔ far60 x := by unfold farW far60; exact decide_eq_true_iff
theorem twR_is (a0 a1 a2 a3 a4 : Int) : twR a0 a1 a2 a3 a4 = withinR a0 a1 a2 a3 a4 := by
  unfold twR withinR
  by_cases h : a0 < 0 ∨ a0 > 60 ∨ far60 a1 ∨ far60 a2 ∨ far60 a3 ∨ far60 a4
  · rw [if_pos h, if_pos]
    rcases h with h | h | h | h | h | h
    · exact .inl h
    · exact .inr (.inl h)
    · exact .inr (.inr (by rw [(far_is a1).2 h]; rfl))
    · exact .inr (.inr (by rw [(far_is a2).2 h]; simp))
    · exact .inr (.inr (by rw [(far_is a3).2 h]; simp))
    · exact .inr (.inr (by rw [(far_is a4).2 h]; simp))
  · rw [if_neg h, if_neg]
    rintro (h1 | h1 | h1)
    · exact h (.inl h1)
    · exact h (.inr (.inl h1))
    · rw [Bool.or_eq_true, Bool.or_eq_true, Bool.or_eq_true, far_is, far_is, far_is, far_is] at h1
      rcases h1 with ((h1 | h1) | h1) | h1
      · exact h (.inr (.inr (.inl h1)))
      · exact h (.inr (.inr (.inr (.inl h1))))
      · exact h (.inr (.inr (.inr (.inr (.inl h1)))))
      · exact h (.inr (.inr (.inr (.inr (.inr h1)))))
theorem TillWithin (a0 a1 a2 a3 a4 : Int) : ∃ k, pomadelaw09_TillWithin.f k a0 a1 a2 a3 a4 = some true := by
  refine Ev.rounds (g := fun k => pomadelaw09_TillWithin.f k a0 a1 a2 a3 a4) ?_
  have he : Ev (fun k => (pomaderef09_Within.f k a0 a1 a2 a3 a4).bind fun q => if (twR a0 a1 a2 a3 a4).1 = q.1 then (if (twR a0 a1 a2 a3 a4).2 = q.2 then ((pomadelaw09_alive.f k).bind fun t => some t) else some false) else some false) true := by
    refine Ev.bind (ev_Within a0 a1 a2 a3 a4) ?_
    simp only [twR_is, if_true]
    exact Ev.bind alive_true (Ev.now _)
  refine Ev.congr (fun k => ?_) he
  unfold pomadelaw09_TillWithin.f till_Within.f
  rw [Option.bind_some]

end Go.Proofs.YtnjimbgfafkogaaDoor.Pure
