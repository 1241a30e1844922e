/- Last and At of one customer (and one turn) more are those of the smaller circle plus the step, modulo the greater number: for all circles, steps and turns that the statement's helpers make; no condition. -/
import Derived.Test.YtndpnlpidphflaaPrint3
import Derived.Test.YtndpnlpidphflaaEvB
namespace Go.Proofs.Ytndpnlpidphflaa.Pure
open Go.RowKit Go.Proofs.Ytndpnlpidphflaa.Print Go.Proofs.Ytndpnlpidphflaa.Math Go.Proofs.YtndpnlpidphflaaW.PrintWords Go.Proofs.YtndpnlpidphflaaW.PrintLast Go.Proofs.YtndpnlpidphflaaW.PrintMore
set_option linter.unusedVariables false

theorem PoleRecurs : pomadelaw06_PoleRecurs.Pure := by
  intro a0 a1 a2 w0 w1 w2
  have b0 := wf_u64 w0
  have b1 := wf_u16 w1
  have b2 := wf_u64 w2
  obtain ⟨n, hn⟩ : ∃ n, 1 + a0 % 1125899906842623 = n := ⟨_, rfl⟩
  obtain ⟨s, hs⟩ : ∃ s, 1 + a1 % 1000 = s := ⟨_, rfl⟩
  have n0 : 1 ≤ n ∧ n ≤ 1125899906842623 := by omega
  have s0 : 1 ≤ s ∧ s ≤ 1000 := by omega
  have hm := Int.emod_nonneg a2 (b := n) (by omega)
  have hm2 := Int.emod_lt_of_pos a2 (b := n) (by omega)
  obtain ⟨t, ht⟩ : ∃ t, a2 % n = t := ⟨_, rfl⟩
  rw [ht] at hm hm2
  obtain ⟨K1, h1⟩ := ev_Last n s
  obtain ⟨K2, h2⟩ := ev_Last (n + 1) s
  obtain ⟨K3, h3⟩ := ev_At n s t
  obtain ⟨K4, h4⟩ := ev_At (n + 1) s (t + 1)
  obtain ⟨K6, h6⟩ := ev_At n s 0
  obtain ⟨K5, h5⟩ := alive_true
  dsimp only at h1 h2 h3 h4 h5 h6
  obtain ⟨f, hf⟩ : ∃ f, f = max K1 (max K2 (max K3 (max K4 (max K5 K6)))) := ⟨_, rfl⟩
  refine ⟨f, ?_⟩
  have r1 := atv_range n s (n - 1) (by omega) (by omega)
  have r3 := atv_range n s t (by omega) (by omega)
  have e1 := atv_succ n s (n - 1) (by omega) (by omega)
  have e2 := atv_succ n s t (by omega) (by omega)
  have e3 := atv_zero n s
  rw [show n - 1 + 1 = n + 1 - 1 by omega] at e1
  have l1 : lastA n s = (atv n s (n - 1), 0) := by unfold lastA; rw [if_pos (by omega)]
  have l2 : lastA (n + 1) s = (atv (n + 1) s (n + 1 - 1), 0) := by unfold lastA; rw [if_pos (by omega)]
  have l3 : atA n s t = (atv n s t, 0) := by unfold atA; rw [if_pos (by omega), if_neg (by omega), if_neg (by omega)]
  have l4 : atA (n + 1) s (t + 1) = (atv (n + 1) s (t + 1), 0) := by unfold atA; rw [if_pos (by omega), if_neg (by omega), if_neg (by omega)]
  have l6 : atA n s 0 = (atv n s 0, 0) := by unfold atA; rw [if_pos (by omega), if_neg (by omega), if_neg (by omega)]
  unfold pomadelaw06_PoleRecurs.f
  rw [great_v b0, step_v b1, hn, hs]
  simp only [Option.bind_some]
  rw [wrap_u64 (a := n) (by omega), if_neg (by omega), tm (a := a2) (by omega), ht, w64 (n := t) (by omega), w64 (n := n + 1) (by omega), w64 (n := t + 1) (by omega), h1 f (by omega), h2 f (by omega), h3 f (by omega), h4 f (by omega), h6 f (by omega), l1, l2, l3, l4, l6]
  simp only [Option.bind_some, if_true]
  rw [if_neg (by omega), if_neg (by omega), if_neg (by omega), if_neg (by omega), if_neg (by omega), w64 (n := atv n s (n - 1) + s) (by omega), tm (by omega), if_pos e1, w64 (n := atv n s t + s) (by omega), tm (by omega), if_pos e2, if_neg (by omega), w64 (n := s - 1) (by omega), tm (by omega), if_pos e3, h5 f (by omega)]
  rfl

end Go.Proofs.Ytndpnlpidphflaa.Pure
