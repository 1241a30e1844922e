/- Last and At of the program return what those of the reference return, for all circles, steps and turns: no condition. -/
import Derived.Test.YtndpnlpidphflaaPrint3
import Derived.Test.YtndpnlpidphflaaEvA
namespace Go.Proofs.Ytndpnlpidphflaa.Pure
open Go.RowKit Go.Proofs.Ytndpnlpidphflaa.Print Go.Proofs.YtndpnlpidphflaaW.PrintWords Go.Proofs.YtndpnlpidphflaaW.PrintLast

theorem PoleAt : pomadelaw06_PoleAt.Pure := by
  intro n k t _ _ _
  obtain ⟨K1, h1⟩ := ev_Last n k
  obtain ⟨K2, h2⟩ := ev_refLast n k
  obtain ⟨K3, h3⟩ := ev_At n k t
  obtain ⟨K4, h4⟩ := ev_refAt n k t
  obtain ⟨K5, h5⟩ := alive_true
  dsimp only at h1 h2 h3 h4 h5
  obtain ⟨f, hf⟩ : ∃ f, f = max K1 (max K2 (max K3 (max K4 K5))) := ⟨_, rfl⟩
  refine ⟨f + 1, ?_⟩
  unfold pomadelaw06_PoleAt.f
  rw [h1 (f + 1) (by omega), h2 (f + 1) (by omega)]
  simp only [Option.bind_some, if_true, bne_self_eq_false, pomadelaw06_PoleAt.j0]
  rw [h3 f (by omega), h4 f (by omega), h5 f (by omega)]
  simp
end Go.Proofs.Ytndpnlpidphflaa.Pure
