/- What Steps comes to. -/
import Derived.Test.YtndpnlpidphflaaPrint5
import Derived.Test.YtndpnlpidphflaaEvC
import Derived.Test.YtndpnlpidphflaaEvB
namespace Go.Proofs.Ytndpnlpidphflaa.Pure
open Go.RowKit Go.Proofs.Ytndpnlpidphflaa.Print Go.Proofs.Ytndpnlpidphflaa.Math Go.Proofs.YtndpnlpidphflaaW.PrintWords Go.Proofs.YtndpnlpidphflaaW.PrintLast Go.Proofs.YtndpnlpidphflaaW.PrintMore
set_option linter.unusedVariables false

theorem steps_l1 (n last k : Int) (hn : n ≤ 200) (hk : 1 ≤ k ∧ k ≤ 30000) (r : Int × Int) (d : Nat) : ∀ p m : Int, 0 ≤ p → p ≤ m → 1 ≤ m → m ≤ n → (n - m).toNat = d →
    Ev (fun f => if It k d p m = last then some (k, 0) else pole_Steps.l0 f n last (wrap64 (k + 1))) r → Ev (fun f => pole_Steps.l1 f n last k p (m + 1)) r := by
  induction d with
  | zero =>
    intro p m h0 h1 h2 h3 hd hr
    refine Ev.step (fun f => ?_) hr
    simp only [pole_Steps.l1]
    rw [if_neg (by omega)]
    by_cases hp : p = last
    · rw [if_pos hp, if_pos (show It k 0 p m = last from hp)]
    · rw [if_neg hp, if_neg (show ¬ It k 0 p m = last from hp)]
  | succ d ih =>
    intro p m h0 h1 h2 h3 hd hr
    have hm := mod_pos (a := p + k) (b := m + 1) (by omega)
    refine Ev.step (fun f => ?_) (ih ((p + k) % (m + 1)) (m + 1) hm.1 (by omega) (by omega) (by omega) (by omega) hr)
    simp only [pole_Steps.l1]
    rw [if_pos (by omega), if_neg (by omega), w64 (n := p + k) (by omega), tm (by omega), w64 (n := m + 1 + 1) (by omega)]

theorem steps_l0 (n last : Int) (h1 : 1 ≤ n) (hn : n ≤ 200) (d : Nat) : ∀ k : Int, 1 ≤ k → k + d = 30001 →
    Ev (fun f => pole_Steps.l0 f n last k) (match srch (fun k => It k (n - 1).toNat 0 1 == last) d k with | some k => (k, 0) | none => (0, 10)) := by
  induction d with
  | zero =>
    intro k hk hd
    refine Ev.step (f := fun _ => some (0, 10)) (fun f => ?_) (Ev.now _)
    simp only [pole_Steps.l0]
    rw [if_neg (by omega)]
  | succ d ih =>
    intro k hk hd
    refine Ev.step (f := fun f => pole_Steps.l1 f n last k 0 (1 + 1)) (fun f => ?_) (steps_l1 n last k hn (by omega) _ (n - 1).toNat 0 1 (by omega) (by omega) (by omega) (by omega) rfl ?_)
    · simp only [pole_Steps.l0]
      rw [if_pos (by omega)]
      rfl
    · simp only [srch]
      by_cases hp : It k (n - 1).toNat 0 1 = last
      · have hp2 : (It k (n - 1).toNat 0 1 == last) = true := by simpa using hp
        rw [if_pos hp2]
        simp only [if_pos hp]
        exact Ev.now _
      · have hp2 : ¬ (It k (n - 1).toNat 0 1 == last) = true := by simpa using hp
        rw [if_neg hp2]
        simp only [if_neg hp]
        rw [w64 (by omega)]
        exact ih (k + 1) (by omega) (by omega)

theorem ev_Steps (n last : Int) (h1 : 1 ≤ n) (hn : n ≤ 200) (h0 : 0 ≤ last) (h2 : last < n) : Ev (fun f => pole_Steps.f f n last) (stepsA n last) := by
  refine Ev.congr (f := fun f => pole_Steps.j0 f n last false) (fun f => ?_) (Ev.step (fun f => ?_) (steps_l0 n last h1 hn 30000 1 (by omega) (by omega)))
  · simp only [pole_Steps.f]
    rw [if_neg (by omega), decide_eq_false (by omega)]
  · simp only [pole_Steps.j0]
    rw [if_neg (by decide), if_neg (by omega), if_neg (by omega)]

end Go.Proofs.Ytndpnlpidphflaa.Pure
