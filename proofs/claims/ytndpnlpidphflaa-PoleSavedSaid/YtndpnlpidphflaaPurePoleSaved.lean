/- For every customer of a circle of up to 12 Steps finds a step that is at most the least common multiple of 1 to n and saves this customer; for greater circles what Steps finds is such a step: for all circles and customers that the statement makes; no condition. -/
import Derived.Test.YtndpnlpidphflaaPrint6
import Derived.Test.YtndpnlpidphflaaEvD
namespace Go.Proofs.Ytndpnlpidphflaa.Pure
open Go.RowKit Go.Proofs.Ytndpnlpidphflaa.Print Go.Proofs.Ytndpnlpidphflaa.Math Go.Proofs.YtndpnlpidphflaaW.PrintWords Go.Proofs.YtndpnlpidphflaaW.PrintLast Go.Proofs.YtndpnlpidphflaaW.PrintMore
set_option linter.unusedVariables false

theorem saved_l0 (n c k : Int) (hn : n ≤ 200) (hk : 1 ≤ k ∧ k ≤ 30000) (r : Bool) (d : Nat) : ∀ p m : Int, 0 ≤ p → p ≤ m → 1 ≤ m → m ≤ n → (n - m).toNat = d → It k d p m = c →
    Ev (fun f => pomadelaw06_PoleSaved.j2 f n c k false) r → Ev (fun f => pomadelaw06_PoleSaved.l0 f n c k p (m + 1)) r := by
  induction d with
  | zero =>
    intro p m h0 h1 h2 h3 hd hi hr
    refine Ev.step (fun f => ?_) hr
    simp only [It] at hi
    simp only [pomadelaw06_PoleSaved.l0]
    rw [if_neg (by omega), if_neg (by omega), if_neg (by omega), hi, bne_self_eq_false]
  | succ d ih =>
    intro p m h0 h1 h2 h3 hd hi hr
    have hm := mod_pos (a := p + k) (b := m + 1) (by omega)
    refine Ev.step (fun f => ?_) (ih ((p + k) % (m + 1)) (m + 1) hm.1 (by omega) (by omega) (by omega) (by omega) hi hr)
    simp only [pomadelaw06_PoleSaved.l0]
    rw [if_pos (by omega), if_neg (by omega), w64 (n := p + k) (by omega), tm (by omega), w64 (n := m + 1 + 1) (by omega)]

theorem saved_ok (n c k : Int) (h1 : 1 ≤ n) (hn : n ≤ 200) (hk : 1 ≤ k ∧ k ≤ 30000) (hi : It k (n - 1).toNat 0 1 = c) : Ev (fun f => pomadelaw06_PoleSaved.j0 f n c k 0 false) true := by
  refine Ev.step (f := fun f => pomadelaw06_PoleSaved.l0 f n c k 0 (1 + 1)) (fun f => ?_) (saved_l0 n c k hn hk true (n - 1).toNat 0 1 (by omega) (by omega) (by omega) h1 rfl hi ?_)
  · simp only [pomadelaw06_PoleSaved.j0]
    rw [if_neg (by decide), if_pos trivial]
    rfl
  · obtain ⟨K5, h5⟩ := alive_true
    obtain ⟨K1, e1⟩ := ev_Last n k
    dsimp only at h5 e1
    refine ⟨max K5 K1 + 1, fun f hf => ?_⟩
    obtain ⟨g, rfl⟩ : ∃ g, f = g + 1 := ⟨f - 1, by omega⟩
    simp only [pomadelaw06_PoleSaved.j2]
    rw [if_neg (by decide)]
    by_cases hk2 : k > 1000
    · rw [if_pos hk2, h5 g (by omega)]; rfl
    · rw [if_neg hk2, e1 g (by omega)]
      have l : lastA n k = (c, 0) := by
        unfold lastA atv
        rw [if_pos (by omega), show n - (n - 1) = 1 by omega, Int.emod_one, hi]
      rw [l]
      simp only [Option.bind_some, if_true]
      rw [h5 g (by omega)]; rfl

theorem PoleSaved : pomadelaw06_PoleSaved.Pure := by
  intro a0 a1 w0 w1
  have b0 := wf_u8 w0
  have b1 := wf_u8 w1
  obtain ⟨m, hm⟩ : ∃ m : Nat, 1 + a0 % 200 = m := ⟨(1 + a0 % 200).toNat, by omega⟩
  have hc0 := mod_pos (a := a1) (b := (m : Int)) (by omega)
  obtain ⟨c, hc⟩ : ∃ c, a1 % (m : Int) = c := ⟨_, rfl⟩
  rw [hc] at hc0
  obtain ⟨K1, e1⟩ := ev_Steps m c (by omega) (by omega) hc0.1 hc0.2
  obtain ⟨K5, h5⟩ := alive_true
  dsimp only at e1 h5
  have key : ∃ K, ∀ f, K ≤ f → (if (m : Int) ≤ 12 then (if (stepsA m c).2 = 0 then ((pomadelaw06_common.f f m).bind fun t199 => (if (stepsA m c).1 > t199 then (pomadelaw06_PoleSaved.j0 f m c (stepsA m c).1 (stepsA m c).2 true) else (pomadelaw06_PoleSaved.j0 f m c (stepsA m c).1 (stepsA m c).2 false))) else (pomadelaw06_PoleSaved.j0 f m c (stepsA m c).1 (stepsA m c).2 true)) else (if (stepsA m c).2 = 0 then (pomadelaw06_PoleSaved.j0 f m c (stepsA m c).1 (stepsA m c).2 false) else (pomadelaw06_PoleSaved.j0 f m c (stepsA m c).1 (stepsA m c).2 ((stepsA m c).2 != 10)))) = some true := by
    by_cases hs : m ≤ 12
    · obtain ⟨w, w1, w2, w3, w4⟩ := wit_any m c hc0.1 hc0.2 (by omega)
      obtain ⟨k, hk, hkw⟩ := srch_le (fun k => It k ((m : Int) - 1).toNat 0 1 == c) 30000 1 w w2 (by omega) (by simpa using w1)
      obtain ⟨p1, p2, p3, _⟩ := srch_some _ _ _ _ hk
      have hA : stepsA m c = (k, 0) := by unfold stepsA; rw [hk]
      obtain ⟨K2, e2⟩ := saved_ok m c k (by omega) (by omega) (by omega) (by simpa using p1)
      obtain ⟨K3, e3⟩ := ev_common m hs
      dsimp only at e2 e3
      refine ⟨max K2 K3, fun f hf => ?_⟩
      rw [if_pos (by omega), hA]
      simp only [if_true]
      rw [e3 f (by omega)]
      simp only [Option.bind_some]
      rw [if_neg (by rw [Int.toNat_natCast] at w3; omega)]
      exact e2 f (by omega)
    · cases hk : srch (fun k => It k ((m : Int) - 1).toNat 0 1 == c) 30000 1 with
      | none =>
        have hA : stepsA m c = (0, 10) := by unfold stepsA; rw [hk]
        refine ⟨K5 + 1, fun f hf => ?_⟩
        obtain ⟨g, rfl⟩ : ∃ g, f = g + 1 := ⟨f - 1, by omega⟩
        rw [if_neg (by omega), hA]
        simp only [bne_self_eq_false, pomadelaw06_PoleSaved.j0]
        rw [if_neg (by decide), if_neg (by decide), if_neg (by decide), if_pos trivial, h5 g (by omega)]
        rfl
      | some k =>
        obtain ⟨p1, p2, p3, _⟩ := srch_some _ _ _ _ hk
        have hA : stepsA m c = (k, 0) := by unfold stepsA; rw [hk]
        obtain ⟨K2, e2⟩ := saved_ok m c k (by omega) (by omega) (by omega) (by simpa using p1)
        dsimp only at e2
        refine ⟨K2, fun f hf => ?_⟩
        rw [if_neg (by omega), hA]
        simp only [if_true]
        exact e2 f hf
  obtain ⟨K2, e2⟩ := key
  refine ⟨max K1 K2, ?_⟩
  simp only [pomadelaw06_PoleSaved.f]
  rw [tm b0.1, w64 (n := a0 % 200) (by omega), hm, w64 (n := (m : Int)) (by omega), if_neg (by omega), w64 (n := a1) (by omega), tm b1.1, hc, e1 _ (by omega)]
  simp only [Option.bind_some]
  exact e2 _ (by omega)

end Go.Proofs.Ytndpnlpidphflaa.Pure
