/- Sides and Zeros of the program return the lists, or the error, of the reference, which counts walks step by step: for every number: no condition. -/
import Derived.Test.YtnjimbgfafkogaaDoorEvJ
import Derived.Test.YtnjimbgfafkogaaDoorFic1
namespace Go.Proofs.YtnjimbgfafkogaaDoor.Pure
open Go.RowKit Go.Proofs.YtnjimbgfafkogaaDoor.Hand Go.Proofs.YtnjimbgfafkogaaDoor.Pre Go.Proofs.YtnjimbgfafkogaaDoor.Bal Go.Proofs.YtnjimbgfafkogaaDoor.Base Go.Proofs.YtnjimbgfafkogaaDoor.Print Go.Proofs.YtnjimbgfafkogaaDoor.Math Go.Proofs.YtnjimbgfafkogaaDoorW.PrintWords Go.Proofs.YtnjimbgfafkogaaDoorW.PrintLast Go.Proofs.YtnjimbgfafkogaaDoorW.PrintMore
set_option linter.unusedVariables false
set_option linter.unusedSimpArgs false

open Go.Proofs.YtnjimbgfafkogaaDoor.Fic
theorem TillSides : pomadelaw09_TillSides.Pure := by
  intro a0 w0
  obtain ⟨K1, h1⟩ := ev_Sides a0
  obtain ⟨K2, h2⟩ := ev_Zeros a0
  obtain ⟨K3, h3⟩ := ev_RZeros a0
  have hlen : (arcsR a0).1.length ≤ 31 := by
    unfold arcsR
    by_cases h : a0 < 0 ∨ a0 > 30
    · rw [if_pos h]; simp
    · rw [if_neg h, arcsI_length]; omega
  obtain ⟨K4, h4⟩ := ev_same (arcsR a0).1 (arcsR a0).1 (by omega)
  obtain ⟨K5, h5⟩ := alive_true
  dsimp only at h1 h2 h3 h4 h5
  obtain ⟨f, hf⟩ : ∃ f, f = max K1 (max K2 (max K3 (max K4 K5))) := ⟨_, rfl⟩
  refine ⟨f + 1, ?_⟩
  unfold pomadelaw09_TillSides.f
  rw [h1 _ (by omega), Option.bind_some]
  unfold pomaderef09_Sides.f
  rw [Option.bind_some, h4 _ (by omega), Option.bind_some]
  simp only [decide_true, bne_self_eq_false, if_true, pomadelaw09_TillSides.j0]
  rw [h2 _ (by omega), h3 _ (by omega)]
  simp only [Option.bind_some]
  rw [h4 _ (by omega)]
  simp only [Option.bind_some, decide_true, if_true]
  rw [if_neg (by decide), h5 _ (by omega)]; rfl

end Go.Proofs.YtnjimbgfafkogaaDoor.Pure
