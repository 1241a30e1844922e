/- What Turn comes to. -/
import Derived.Test.YtndpnlpidphflaaPrint6
import Derived.Test.YtndpnlpidphflaaEvC
import Derived.Test.YtndpnlpidphflaaEvB
namespace Go.Proofs.Ytndpnlpidphflaa.Pure
open Go.RowKit Go.Proofs.Ytndpnlpidphflaa.Print Go.Proofs.Ytndpnlpidphflaa.Math Go.Proofs.YtndpnlpidphflaaW.PrintWords Go.Proofs.YtndpnlpidphflaaW.PrintLast Go.Proofs.YtndpnlpidphflaaW.PrintMore
set_option linter.unusedVariables false

theorem turn_l0 (k n : Int) (hk : 1 ≤ k ∧ k ≤ 1000) (hn : n ≤ 100000) (l : Nat) : ∀ p t : Int, 0 ≤ p → p < l → 0 ≤ t → n - t = l →
    Ev (fun f => pole_Turn.l0 f n k p t) (t + turnv k l p, 0) := by
  induction l with
  | zero => intro p t h0 h1; omega
  | succ l ih =>
    intro p t h0 h1 h2 hd
    have hc := mod_pos (a := k - 1) (b := ((l + 1 : Nat) : Int)) (by omega)
    by_cases he : p = (k - 1) % ((l + 1 : Nat) : Int)
    · refine Ev.step (f := fun _ => some (t, 0)) (fun f => ?_) ?_
      · simp only [pole_Turn.l0]
        rw [w64 (n := n - t) (by omega), if_neg (by omega), w64 (n := k - 1) (by omega), tm (by omega), hd, if_pos he]
      · simp only [turnv]
        rw [if_pos he, Int.add_zero]
        exact Ev.now _
    · have hn2 := next_place _ p _ (by omega) hc.1 hc.2 h0 h1 he
      refine Ev.step (f := fun f => pole_Turn.l0 f n k ((p - (k - 1) % ((l + 1 : Nat) : Int) - 1 + ((l + 1 : Nat) : Int)) % ((l + 1 : Nat) : Int)) (t + 1)) (fun f => ?_) ?_
      · simp only [pole_Turn.l0]
        rw [w64 (n := n - t) (by omega), if_neg (by omega), w64 (n := k - 1) (by omega), tm (a := k - 1) (by omega), hd, if_neg he, w64 (n := p - (k - 1) % ((l + 1 : Nat) : Int)) (by omega), w64 (n := p - (k - 1) % ((l + 1 : Nat) : Int) - 1) (by omega), w64 (n := p - (k - 1) % ((l + 1 : Nat) : Int) - 1 + ((l + 1 : Nat) : Int)) (by omega), tm (by omega), w64 (n := t + 1) (by omega)]
      · have := ih _ (t + 1) hn2.1 (Int.lt_of_lt_of_le hn2.2 (by omega)) (by omega) (by omega)
        simp only [turnv]
        rw [if_neg he, ← Int.add_assoc]
        exact this

theorem ev_Turn (n k c : Int) (h : Circ n k) (hn : n ≤ 100000) (h0 : 0 ≤ c) (h1 : c < n) : Ev (fun f => pole_Turn.f f n k c) (turnv k n.toNat c, 0) := by
  obtain ⟨K, e⟩ := turn_l0 k n ⟨h.2.2.1, h.2.2.2⟩ hn n.toNat c 0 h0 (by omega) (by omega) (by have := h.1; omega)
  dsimp only at e
  refine ⟨K, fun f hf => ?_⟩
  simp only [pole_Turn.f]
  rw [circled_ok h]
  simp only [Option.bind_some, if_true]
  rw [if_neg (by omega), if_neg (by omega), if_neg (by omega), e f hf, Int.zero_add]

end Go.Proofs.Ytndpnlpidphflaa.Pure
