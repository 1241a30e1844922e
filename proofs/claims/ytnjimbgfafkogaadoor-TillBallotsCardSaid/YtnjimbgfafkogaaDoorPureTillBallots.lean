/- Ballot of the program returns what that of the reference returns, for all numbers: no condition. -/
import Derived.Test.YtnjimbgfafkogaaDoorEvC
import Derived.Test.YtnjimbgfafkogaaDoorFib2
namespace Go.Proofs.YtnjimbgfafkogaaDoor.Pure
open Go.RowKit Go.Proofs.YtnjimbgfafkogaaDoor.Hand Go.Proofs.YtnjimbgfafkogaaDoor.Pre Go.Proofs.YtnjimbgfafkogaaDoor.Bal Go.Proofs.YtnjimbgfafkogaaDoor.Base Go.Proofs.YtnjimbgfafkogaaDoor.Print Go.Proofs.YtnjimbgfafkogaaDoor.Math Go.Proofs.YtnjimbgfafkogaaDoorW.PrintWords Go.Proofs.YtnjimbgfafkogaaDoorW.PrintLast Go.Proofs.YtnjimbgfafkogaaDoorW.PrintMore
set_option linter.unusedVariables false
set_option linter.unusedSimpArgs false

open Go.Proofs.YtnjimbgfafkogaaDoor.Fib
theorem TillBallots : pomadelaw09_TillBallots.Pure := by
  intro a b t _ _ _
  obtain ⟨K0, h0⟩ := alive_true
  obtain ⟨K1, h1⟩ := ev_Ballot a b t
  dsimp only at h0 h1
  refine ⟨max K0 K1, ?_⟩
  have h2 : pomaderef09_Ballot.f a b t = some (ballotR a b t) := rfl
  unfold pomadelaw09_TillBallots.f
  rw [h1 _ (by omega), h2, Option.bind_some, Option.bind_some, if_pos rfl, if_pos rfl, h0 _ (by omega)]; rfl

end Go.Proofs.YtnjimbgfafkogaaDoor.Pure
