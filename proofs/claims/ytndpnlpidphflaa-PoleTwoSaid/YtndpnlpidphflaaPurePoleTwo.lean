/- Halves of n is twice the distance to the greatest power of 2, and up to 2^50 it is Last with the step 2: for every number that the statement makes; no condition. -/
import Derived.Test.YtndpnlpidphflaaPrint4
import Derived.Test.YtndpnlpidphflaaEvB
namespace Go.Proofs.Ytndpnlpidphflaa.Pure
open Go.RowKit Go.Proofs.Ytndpnlpidphflaa.Print Go.Proofs.Ytndpnlpidphflaa.Math Go.Proofs.YtndpnlpidphflaaW.PrintWords Go.Proofs.YtndpnlpidphflaaW.PrintLast Go.Proofs.YtndpnlpidphflaaW.PrintMore
set_option linter.unusedVariables false

theorem two_loop (x0 n r p : Int) (h1 : 1 ≤ n) (hn : n ≤ 1152921504606846976) (hp : Pow n p) (hr : r = 2 * (n - p)) (d : Nat) : ∀ j : Nat, (2 : Int) ^ j ≤ n → (n - 2 ^ j).toNat ≤ d → ∀ v, Ev (fun f => pomadelaw06_PoleTwo.j1 f x0 false) v →
    Ev (fun f => pomadelaw06_PoleTwo.l0 f x0 n r 0 (2 ^ j)) v := by
  subst hr
  induction d with
  | zero =>
    intro j hj hd v hv
    have hpp := pow_pos j
    have e : p = 2 ^ j := Pow_one hp ⟨⟨j, rfl⟩, hj, by omega⟩
    refine Ev.step (fun f => ?_) hv
    simp only [pomadelaw06_PoleTwo.l0]
    rw [td (by omega), w64 (n := n / 2) (by omega), if_neg (by omega), if_pos trivial, w64 (n := n - 2 ^ j) (by omega), w64 (by omega), e, bne_self_eq_false]
  | succ d ih =>
    intro j hj hd v hv
    have hpp := pow_pos j
    by_cases hc : 2 * 2 ^ j ≤ n
    · have e : (2 : Int) ^ (j + 1) = 2 ^ j * 2 := by rw [Int.pow_succ]
      have := ih (j + 1) (by omega) (by omega) v hv
      rw [e] at this
      refine Ev.step (fun f => ?_) this
      simp only [pomadelaw06_PoleTwo.l0]
      rw [td (by omega), w64 (n := n / 2) (by omega), if_pos (by omega), w64 (n := 2 ^ j * 2) (by omega)]
    · have e : p = 2 ^ j := Pow_one hp ⟨⟨j, rfl⟩, hj, by omega⟩
      refine Ev.step (fun f => ?_) hv
      simp only [pomadelaw06_PoleTwo.l0]
      rw [td (by omega), w64 (n := n / 2) (by omega), if_neg (by omega), if_pos trivial, w64 (n := n - 2 ^ j) (by omega), w64 (by omega), e, bne_self_eq_false]

theorem PoleTwo : pomadelaw06_PoleTwo.Pure := by
  intro a0 w0
  have b0 := wf_u64 w0
  obtain ⟨n, hn⟩ : ∃ n, 1 + a0 % 1152921504606846976 = n := ⟨_, rfl⟩
  obtain ⟨m, hm⟩ : ∃ m, 1 + a0 % 1125899906842624 = m := ⟨_, rfl⟩
  obtain ⟨p, hp, e1, _⟩ := ev_Halves n (by omega) (by omega)
  obtain ⟨q, hq, e2, _⟩ := ev_Halves m (by omega) (by omega)
  have l : lastA m 2 = (2 * (m - q), 0) := by
    unfold lastA atv
    rw [if_pos (by omega), show m - (m - 1) = 1 by omega]
    have := two_at (m - 1).toNat q (by rw [show (((m - 1).toNat : Nat) : Int) + 1 = m by omega]; exact hq)
    rw [show (2 - 1 : Int) % 1 = 0 by decide, this]
    congr 1; omega
  have j1 : Ev (fun f => pomadelaw06_PoleTwo.j1 f a0 false) true := by
    obtain ⟨K1, h1⟩ := e2
    obtain ⟨K2, h2⟩ := ev_Last m 2
    obtain ⟨K5, h5⟩ := alive_true
    dsimp only at h1 h2 h5
    refine ⟨max K1 (max K2 K5) + 1, fun f hf => ?_⟩
    obtain ⟨g, rfl⟩ : ∃ g, f = g + 1 := ⟨f - 1, by omega⟩
    simp only [pomadelaw06_PoleTwo.j1]
    rw [if_neg (by decide), tm b0.1, w64 (n := a0 % 1125899906842624) (by omega), hm, w64 (n := m) (by omega), h1 g (by omega), h2 g (by omega), l]
    simp only [Option.bind_some, if_true]
    rw [h5 g (by omega)]; rfl
  have l0 := two_loop a0 n (2 * (n - p)) p (by omega) (by omega) hp rfl _ 0 (by simp; omega) (Nat.le_refl _) true j1
  obtain ⟨K1, h1⟩ := e1
  obtain ⟨K2, h2⟩ := l0
  dsimp only at h1 h2
  refine ⟨max K1 K2, ?_⟩
  unfold pomadelaw06_PoleTwo.f
  rw [tm b0.1, w64 (n := a0 % 1152921504606846976) (by omega), hn, w64 (n := n) (by omega), h1 _ (by omega)]
  simp only [Option.bind_some]
  exact h2 _ (by omega)

end Go.Proofs.Ytndpnlpidphflaa.Pure
