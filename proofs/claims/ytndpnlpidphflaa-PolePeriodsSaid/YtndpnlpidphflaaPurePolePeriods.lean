/- Two steps that part by the least common multiple have the same Order, and the step 1 gives 0, 1, 2 and so on: for all circles and steps that the statement makes; no condition. -/
import Derived.Test.YtndpnlpidphflaaPrint4
import Derived.Test.YtndpnlpidphflaaEvC
import Derived.Test.YtndpnlpidphflaaEvB
namespace Go.Proofs.Ytndpnlpidphflaa.Pure
open Go.RowKit Go.Proofs.Ytndpnlpidphflaa.Print Go.Proofs.Ytndpnlpidphflaa.Math Go.Proofs.YtndpnlpidphflaaW.PrintWords Go.Proofs.YtndpnlpidphflaaW.PrintLast Go.Proofs.YtndpnlpidphflaaW.PrintMore
set_option linter.unusedVariables false

open Go.Proofs.Ytndpnlpidphflaa.Hand
theorem up_loop (m : Nat) (hm : m ≤ 2000) (d : Nat) : ∀ i : Nat, i ≤ m → m - i ≤ d → Ev (fun f => pomadelaw06_PolePeriods.l0 f m (ids m) i) true := by
  have stop : ∀ i : Nat, m ≤ i → Ev (fun f => pomadelaw06_PolePeriods.l0 f m (ids m) i) true := by
    intro i hi
    obtain ⟨K, h⟩ := alive_true
    dsimp only at h
    refine ⟨K + 1, fun f hf => ?_⟩
    obtain ⟨g, rfl⟩ : ∃ g, f = g + 1 := ⟨f - 1, by omega⟩
    simp only [pomadelaw06_PolePeriods.l0]
    rw [if_neg (by omega), h g (by omega)]; rfl
  induction d with
  | zero => intro i h1 h2; exact stop i (by omega)
  | succ d ih =>
    intro i h1 h2
    by_cases e : m ≤ i
    · exact stop i e
    · refine Ev.step (fun f => ?_) (ih (i + 1) (by omega) (by omega))
      have hr : rd (ids m) i = i := by rw [rd_nat]; simp [ids, show i < m by omega]
      simp only [pomadelaw06_PolePeriods.l0]
      rw [if_pos (by omega), if_pos (by omega), if_pos (by rw [ids_length]; omega), if_pos hr, w64 (by omega)]
      rfl

theorem per_main (m : Nat) (a1 : Int) (b1 : 0 ≤ a1 ∧ a1 ≤ 65535) (h1 : 1 ≤ m) (h2 : m ≤ 8) (hc : comv.getD m 0 < 1000) (hc0 : 1 ≤ comv.getD m 0) : Ev (fun f => pomadelaw06_PolePeriods.j0 f a1 m (comv.getD m 0)) true := by
  obtain ⟨c, hce⟩ : ∃ c, comv.getD m 0 = c := ⟨_, rfl⟩
  have hd := fun l => com_div m l (by omega)
  rw [hce] at hc hc0 hd ⊢
  have hm := mod_pos (a := a1) (b := 1000 - c) (by omega)
  obtain ⟨s, hs⟩ : ∃ s, 1 + a1 % (1000 - c) = s := ⟨_, rfl⟩
  obtain ⟨K1, e1⟩ := ev_same (jst s m m).1 (jst s m m).1 (by rw [jst_out]; omega)
  obtain ⟨K2, e2⟩ := up_loop m (by omega) m 0 (by omega) (by omega)
  dsimp only at e1 e2
  refine ⟨max K1 K2 + 2, fun f hf => ?_⟩
  obtain ⟨g, rfl⟩ : ∃ g, f = g + 2 := ⟨f - 2, by omega⟩
  simp only [pomadelaw06_PolePeriods.j0]
  rw [w64 (n := 1000 - c) (by omega), if_neg (by omega), w64 (n := a1) (by omega), tm b1.1, w64 (n := 1 + a1 % (1000 - c)) (by omega), hs, w64 (n := s + c) (by omega), order_v (by unfold Circ; omega) (by omega), order_v (by unfold Circ; omega) (by omega), order_v (by unfold Circ; omega) (by omega)]
  simp only [Option.bind_some, if_true]
  rw [jst_period s c m hd m (Nat.le_refl _), e1 _ (by omega), jst_one m m (Nat.le_refl _)]
  simp only [Option.bind_some, decide_true, if_true, ids_length, bne_self_eq_false, pomadelaw06_PolePeriods.j1]
  rw [if_neg (by decide)]
  exact e2 g (by omega)

theorem PolePeriods : pomadelaw06_PolePeriods.Pure := by
  intro a0 a1 w0 w1
  have b0 := wf_u8 w0
  have b1 := wf_u16 w1
  obtain ⟨m, hm⟩ : ∃ m : Nat, 1 + a0 % 10 = m := ⟨(1 + a0 % 10).toNat, by omega⟩
  obtain ⟨K1, e1⟩ := ev_common m (by omega)
  dsimp only at e1
  have key : ∃ K, ∀ f, K ≤ f → (if comv.getD m 0 ≥ 1000 then ((pomadelaw06_common.f f 6).bind fun t169 => (pomadelaw06_PolePeriods.j0 f a1 6 t169)) else (pomadelaw06_PolePeriods.j0 f a1 m (comv.getD m 0))) = some true := by
    by_cases hb : m ≤ 8
    · obtain ⟨K2, e2⟩ := per_main m a1 b1 (by omega) hb (by
        have : ∀ x : Fin 9, comv.getD x.val 0 < 1000 := by decide
        exact this ⟨m, by omega⟩) (by
        have : ∀ x : Fin 9, 1 ≤ comv.getD x.val 0 := by decide
        exact this ⟨m, by omega⟩)
      dsimp only at e2
      refine ⟨K2, fun f hf => ?_⟩
      rw [if_neg (by
        have : ∀ x : Fin 9, comv.getD x.val 0 < 1000 := by decide
        have := this ⟨m, by omega⟩
        simp only at this; omega)]
      exact e2 f hf
    · obtain ⟨K2, e2⟩ := per_main 6 a1 b1 (by omega) (by omega) (by decide) (by decide)
      obtain ⟨K3, e3⟩ := ev_common 6 (by omega)
      dsimp only at e2 e3
      refine ⟨max K2 K3, fun f hf => ?_⟩
      rw [if_pos (by
        have : ∀ x : Fin 11, 8 < x.val → comv.getD x.val 0 ≥ 1000 := by decide
        exact this ⟨m, by omega⟩ (by simp only; omega))]
      have e4 := e3 f (by omega)
      rw [show (((6 : Nat) : Int)) = 6 from rfl] at e4
      rw [e4]
      exact e2 f (by omega)
  obtain ⟨K2, e2⟩ := key
  refine ⟨max K1 K2, ?_⟩
  simp only [pomadelaw06_PolePeriods.f]
  rw [tm b0.1, w64 (n := a0 % 10) (by omega), hm, w64 (n := (m : Int)) (by omega), e1 _ (by omega)]
  exact e2 _ (by omega)

end Go.Proofs.Ytndpnlpidphflaa.Pure
