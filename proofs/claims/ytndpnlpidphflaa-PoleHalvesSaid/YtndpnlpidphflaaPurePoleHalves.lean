/- Halves of the program returns what that of the reference returns, for every number: no condition. -/
import Derived.Test.YtndpnlpidphflaaPrint3
import Derived.Test.YtndpnlpidphflaaEvB
namespace Go.Proofs.Ytndpnlpidphflaa.Pure
open Go.RowKit Go.Proofs.Ytndpnlpidphflaa.Print Go.Proofs.Ytndpnlpidphflaa.Math Go.Proofs.YtndpnlpidphflaaW.PrintWords Go.Proofs.YtndpnlpidphflaaW.PrintLast Go.Proofs.YtndpnlpidphflaaW.PrintMore
set_option linter.unusedVariables false

theorem PoleHalves : pomadelaw06_PoleHalves.Pure := by
  intro n _
  obtain ⟨K5, h5⟩ := alive_true
  dsimp only at h5
  have main : ∃ r, Ev (fun f => pole_Halves.f f n) r ∧ Ev (fun f => pomaderef06_Halves.f f n) r := by
    by_cases h : 1 ≤ n ∧ n ≤ 1152921504606846976
    · obtain ⟨p, _, e1, e2⟩ := ev_Halves n h.1 h.2
      exact ⟨_, e1, e2⟩
    · exact ⟨_, no_Halves n h⟩
  obtain ⟨r, ⟨K1, h1⟩, ⟨K2, h2⟩⟩ := main
  dsimp only at h1 h2
  obtain ⟨f, hf⟩ : ∃ f, f = max K1 (max K2 K5) := ⟨_, rfl⟩
  refine ⟨f, ?_⟩
  unfold pomadelaw06_PoleHalves.f
  rw [h1 f (by omega), h2 f (by omega)]
  simp only [Option.bind_some, if_true]
  rw [h5 f (by omega)]
  rfl

end Go.Proofs.Ytndpnlpidphflaa.Pure
