/- Above, More and Less of the program return what those of the reference return, for all strings: no condition. -/
import Derived.Test.YtnjimbgfafkogaaDoorEvF
import Derived.Test.YtnjimbgfafkogaaDoorFin1
namespace Go.Proofs.YtnjimbgfafkogaaDoor.Pure
open Go.RowKit Go.Proofs.YtnjimbgfafkogaaDoor.Hand Go.Proofs.YtnjimbgfafkogaaDoor.Pre Go.Proofs.YtnjimbgfafkogaaDoor.Bal Go.Proofs.YtnjimbgfafkogaaDoor.Base Go.Proofs.YtnjimbgfafkogaaDoor.Print Go.Proofs.YtnjimbgfafkogaaDoor.Math Go.Proofs.YtnjimbgfafkogaaDoorW.PrintWords Go.Proofs.YtnjimbgfafkogaaDoorW.PrintLast Go.Proofs.YtnjimbgfafkogaaDoorW.PrintMore
set_option linter.unusedVariables false
set_option linter.unusedSimpArgs false

open Go.Proofs.YtnjimbgfafkogaaDoor.Fin
theorem TillWalks : pomadelaw09_TillWalks.Pure := by
  intro s _
  obtain ⟨K0, h0⟩ := alive_true
  dsimp only at h0
  by_cases hl : s.size > 100
  · refine ⟨K0, ?_⟩
    unfold pomadelaw09_TillWalks.f
    rw [if_pos (by omega), h0 _ (by omega)]; rfl
  · obtain ⟨K1, h1⟩ := ev_tAbove s
    obtain ⟨K2, h2⟩ := ev_refAbove s
    obtain ⟨K3, h3⟩ := ev_tMore s
    obtain ⟨K4, h4⟩ := ev_rMore s
    obtain ⟨K5, h5⟩ := ev_tLess s
    obtain ⟨K6, h6⟩ := ev_rLess s
    dsimp only at h1 h2 h3 h4 h5 h6
    obtain ⟨f, hf⟩ : ∃ f, f = max K0 (max K1 (max K2 (max K3 (max K4 (max K5 K6))))) := ⟨_, rfl⟩
    refine ⟨f + 2, ?_⟩
    unfold pomadelaw09_TillWalks.f
    rw [if_neg (by omega), h1 _ (by omega), h2 _ (by omega), Option.bind_some, Option.bind_some, if_pos rfl, bne_self_eq_false]
    simp only [pomadelaw09_TillWalks.j0]
    rw [if_neg (by decide), h3 _ (by omega), h4 _ (by omega), Option.bind_some, Option.bind_some, if_pos rfl, bne_self_eq_false]
    simp only [pomadelaw09_TillWalks.j1]
    rw [if_neg (by decide), h5 _ (by omega), h6 _ (by omega), Option.bind_some, Option.bind_some, if_pos rfl, if_pos rfl, h0 _ (by omega)]; rfl

end Go.Proofs.YtnjimbgfafkogaaDoor.Pure
