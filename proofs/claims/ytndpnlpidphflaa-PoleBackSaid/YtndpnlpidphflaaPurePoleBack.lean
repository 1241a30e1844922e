/- Turn of At is the turn, At of Turn the customer, and different turns have different customers: for all circles and steps that the statement makes; no condition. -/
import Derived.Test.YtndpnlpidphflaaPrint7
import Derived.Test.YtndpnlpidphflaaEvE
namespace Go.Proofs.Ytndpnlpidphflaa.Pure
open Go.RowKit Go.Proofs.Ytndpnlpidphflaa.Print Go.Proofs.Ytndpnlpidphflaa.Math Go.Proofs.YtndpnlpidphflaaW.PrintWords Go.Proofs.YtndpnlpidphflaaW.PrintLast Go.Proofs.YtndpnlpidphflaaW.PrintMore
set_option linter.unusedVariables false

theorem PoleBack : pomadelaw06_PoleBack.Pure := by
  intro a0 a1 a2 a3 w0 w1 w2 w3
  have b0 := wf_u16 w0
  have b1 := wf_u16 w1
  have b2 := wf_u16 w2
  have b3 := wf_u16 w3
  obtain ⟨n, hn⟩ : ∃ n : Nat, 1 + a0 % 3000 = n := ⟨(1 + a0 % 3000).toNat, by omega⟩
  obtain ⟨s, hs⟩ : ∃ s, 1 + a1 % 1000 = s := ⟨_, rfl⟩
  have ht0 := mod_pos (a := a2) (b := (n : Int)) (by omega)
  have hu0 := mod_pos (a := a3) (b := (n : Int)) (by omega)
  obtain ⟨t, ht⟩ : ∃ t : Nat, a2 % (n : Int) = t := ⟨(a2 % (n : Int)).toNat, by omega⟩
  obtain ⟨u, hu⟩ : ∃ u : Nat, a3 % (n : Int) = u := ⟨(a3 % (n : Int)).toNat, by omega⟩
  rw [ht] at ht0
  rw [hu] at hu0
  have hC : Circ n s := by unfold Circ; omega
  have hA : ∀ t : Int, 0 ≤ t → t < n → atA n s t = (atv n s t, 0) := fun t h0 h1 => by
    unfold atA; rw [if_pos (by omega), if_neg (by omega), if_neg (by omega)]
  have ra := atv_range n s t ht0.1 ht0.2
  have ru := turnv_range s n u hu0.1 hu0.2
  have ta := turn_at s t n (by omega)
  have ut := turn_at s u n (by omega)
  have au := at_turn s n u hu0.1 hu0.2
  obtain ⟨K1, e1⟩ := ev_At n s t
  obtain ⟨K2, e2⟩ := ev_Turn n s (atv n s t) hC (by omega) ra.1 ra.2
  obtain ⟨K3, e3⟩ := ev_Turn n s u hC (by omega) hu0.1 hu0.2
  obtain ⟨K4, e4⟩ := ev_At n s (turnv s n u)
  obtain ⟨K5, h5⟩ := alive_true
  obtain ⟨K6, e6⟩ := ev_At n s u
  rw [Int.toNat_natCast] at e2 e3
  rw [hA t ht0.1 ht0.2] at e1
  rw [hA _ ru.1 ru.2, au] at e4
  rw [hA u hu0.1 hu0.2] at e6
  rw [ta] at e2
  dsimp only at e1 e2 e3 e4 h5 e6
  refine ⟨max K1 (max K2 (max K3 (max K4 (max K5 K6)))), ?_⟩
  simp only [pomadelaw06_PoleBack.f]
  rw [step_v b1, hs]
  simp only [Option.bind_some]
  rw [tm b0.1, w64 (n := a0 % 3000) (by omega), hn, w64 (n := (n : Int)) (by omega), if_neg (by omega), w64 (n := a2) (by omega), tm b2.1, ht, w64 (n := a3) (by omega), tm b3.1, hu, e1 _ (by omega)]
  simp only [Option.bind_some]
  rw [e2 _ (by omega), e3 _ (by omega)]
  simp only [Option.bind_some]
  rw [e4 _ (by omega), e6 _ (by omega)]
  simp only [Option.bind_some, if_true]
  have fin : ((atv n s u == atv n s t) == ((t : Int) == (u : Int))) = true := by
    by_cases h : t = u
    · subst h; simp
    · have : atv n s u ≠ atv n s t := fun hh => h (by rw [← hh, ut] at ta; omega)
      rw [beq_eq_false_iff_ne.mpr this, beq_eq_false_iff_ne.mpr (show (t : Int) ≠ u by omega)]; rfl
  rw [if_pos fin, h5 _ (by omega)]
  rfl

end Go.Proofs.Ytndpnlpidphflaa.Pure
