/- Rotations and Raney of the program return what those of the reference return, for every list of amounts: no condition. -/
import Derived.Test.YtnjimbgfafkogaaDoorEvB
namespace Go.Proofs.YtnjimbgfafkogaaDoor.Pure
open Go.RowKit Go.Proofs.YtnjimbgfafkogaaDoor.Hand Go.Proofs.YtnjimbgfafkogaaDoor.Pre Go.Proofs.YtnjimbgfafkogaaDoor.Bal Go.Proofs.YtnjimbgfafkogaaDoor.Print Go.Proofs.YtnjimbgfafkogaaDoor.Math Go.Proofs.YtnjimbgfafkogaaDoorW.PrintWords Go.Proofs.YtnjimbgfafkogaaDoorW.PrintLast Go.Proofs.YtnjimbgfafkogaaDoorW.PrintMore
set_option linter.unusedVariables false
set_option linter.unusedSimpArgs false

theorem TillRotations : pomadelaw09_TillRotations.Pure := by
  intro l _ _ _
  obtain ⟨K0, h0⟩ := alive_true
  dsimp only at h0
  by_cases hl : l.length > 100
  · refine ⟨K0, ?_⟩
    unfold pomadelaw09_TillRotations.f
    rw [if_pos (by omega), h0 _ (by omega)]; rfl
  · obtain ⟨K1, h1⟩ := ev_Rotations l (by omega)
    obtain ⟨K2, h2⟩ := ev_refRotations l (by omega)
    obtain ⟨R, hR⟩ : ∃ R, (if amountsE l = 0 then (goodsI l l.length, 0) else (([] : List Int), amountsE l)) = R := ⟨_, rfl⟩
    rw [hR] at h1 h2
    have hRl : R.1.length ≤ 1000000 := by
      rw [← hR]
      have := goodsI_length l l.length
      split
      · show (goodsI l l.length).length ≤ _; omega
      · simp
    obtain ⟨K3, h3⟩ := ev_same R.1 R.1 hRl
    obtain ⟨K4, h4⟩ := ev_Raney l (by omega)
    obtain ⟨K5, h5⟩ := ev_refRaney l (by omega)
    obtain ⟨K6, h6⟩ := ev_same l l (by omega)
    dsimp only at h1 h2 h3 h4 h5 h6
    obtain ⟨f, hf⟩ : ∃ f, f = max K0 (max K1 (max K2 (max K3 (max K4 (max K5 K6))))) := ⟨_, rfl⟩
    refine ⟨f + 1, ?_⟩
    unfold pomadelaw09_TillRotations.f
    rw [if_neg (by omega)]
    simp only [Option.bind_some, List.nil_append, List.length_nil]
    rw [if_pos (by omega), h1 _ (by omega), h2 _ (by omega)]
    simp only [Option.bind_some]
    rw [h3 _ (by omega)]
    simp only [Option.bind_some, decide_true, if_true, bne_self_eq_false, pomadelaw09_TillRotations.j0]
    rw [if_neg (by decide), h4 _ (by omega), h5 _ (by omega)]
    simp only [Option.bind_some, if_true]
    rw [h6 _ (by omega)]
    simp only [Option.bind_some, decide_true, if_true]
    rw [h0 _ (by omega)]; rfl

end Go.Proofs.YtnjimbgfafkogaaDoor.Pure
