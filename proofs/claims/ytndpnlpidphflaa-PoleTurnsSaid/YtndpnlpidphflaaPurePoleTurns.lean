/- Turn and Same of the program return what those of the reference return, for all circles, steps and customers: no condition. -/
import Derived.Test.YtndpnlpidphflaaPrint7
import Derived.Test.YtndpnlpidphflaaEvE
namespace Go.Proofs.Ytndpnlpidphflaa.Pure
open Go.RowKit Go.Proofs.Ytndpnlpidphflaa.Print Go.Proofs.Ytndpnlpidphflaa.Math Go.Proofs.YtndpnlpidphflaaW.PrintWords Go.Proofs.YtndpnlpidphflaaW.PrintLast Go.Proofs.YtndpnlpidphflaaW.PrintMore
set_option linter.unusedVariables false

theorem rturn_l0 (k : Int) (hk : 1 ≤ k ∧ k ≤ 1000) (l : Nat) (hl : l ≤ 100000) : ∀ p t : Int, 0 ≤ p → p < l → 0 ≤ t → t ≤ 1000000 →
    t + l ≤ 100000 → Ev (fun f => pomaderef06_Turn.l0 f k p t l) (t + turnv k l p, 0) := by
  induction l with
  | zero => intro p t h0 h1; omega
  | succ l ih =>
    intro p t h0 h1 h2 h3 hd
    have hc := mod_pos (a := k - 1) (b := ((l + 1 : Nat) : Int)) (by omega)
    by_cases he : p = (k - 1) % ((l + 1 : Nat) : Int)
    · refine Ev.step (f := fun _ => some (t, 0)) (fun f => ?_) ?_
      · simp only [pomaderef06_Turn.l0]
        rw [if_neg (by omega), w64 (n := k - 1) (by omega), tm (by omega), if_pos he]
      · simp only [turnv]
        rw [if_pos he, Int.add_zero]
        exact Ev.now _
    · have hn2 := next_place _ p _ (by omega) hc.1 hc.2 h0 h1 he
      refine Ev.step (f := fun f => pomaderef06_Turn.l0 f k ((p - (k - 1) % ((l + 1 : Nat) : Int) - 1 + ((l + 1 : Nat) : Int)) % ((l + 1 : Nat) : Int)) (t + 1) l) (fun f => ?_) ?_
      · simp only [pomaderef06_Turn.l0]
        rw [if_neg (by omega), w64 (n := k - 1) (by omega), tm (a := k - 1) (by omega), if_neg he, w64 (n := p - (k - 1) % ((l + 1 : Nat) : Int)) (by omega), w64 (n := p - (k - 1) % ((l + 1 : Nat) : Int) - 1) (by omega), w64 (n := p - (k - 1) % ((l + 1 : Nat) : Int) - 1 + ((l + 1 : Nat) : Int)) (by omega), tm (by omega), w64 (n := t + 1) (by omega), w64 (n := ((l + 1 : Nat) : Int) - 1) (by omega), show ((l + 1 : Nat) : Int) - 1 = l by omega]
      · have := ih (by omega) _ (t + 1) hn2.1 (Int.lt_of_lt_of_le hn2.2 (by omega)) (by omega) (by omega) (by omega)
        simp only [turnv]
        rw [if_neg he, ← Int.add_assoc]
        exact this

theorem small_ok {n k b : Int} (h : Circ n k) : pomaderef06_small.f n k b = some (if n > b then 8 else 0) := by
  unfold pomaderef06_small.f
  rw [circle_ok h]
  simp only [Option.bind_some, if_true]
  split <;> rfl
theorem small_no {n k b : Int} (h : ¬ Circ n k) : pomaderef06_small.f n k b = some 2 := by
  unfold pomaderef06_small.f
  rw [circle_no h]; rfl

theorem turn_both (n k c : Int) : ∃ r, Ev (fun f => pole_Turn.f f n k c) r ∧ Ev (fun f => pomaderef06_Turn.f f n k c) r := by
  by_cases h : Circ n k
  · by_cases hn : n > 100000
    · refine ⟨(0, 8), ⟨0, fun f _ => ?_⟩, ⟨0, fun f _ => ?_⟩⟩
      · simp only [pole_Turn.f]; rw [circled_ok h]; simp only [Option.bind_some, if_true]; rw [if_pos hn]
      · simp only [pomaderef06_Turn.f]; rw [small_ok h, if_pos hn]; rfl
    · by_cases hc : 0 ≤ c ∧ c < n
      · refine ⟨_, ev_Turn n k c h (by omega) hc.1 hc.2, ?_⟩
        obtain ⟨K, e⟩ := rturn_l0 k ⟨h.2.2.1, h.2.2.2⟩ n.toNat (by omega) c 0 hc.1 (by omega) (by omega) (by omega) (by omega)
        dsimp only at e
        refine ⟨K + 1, fun f hf => ?_⟩
        obtain ⟨g, rfl⟩ : ∃ g, f = g + 1 := ⟨f - 1, by omega⟩
        simp only [pomaderef06_Turn.f]
        rw [small_ok h, if_neg hn]
        simp only [Option.bind_some, if_true, pomaderef06_Turn.j0]
        rw [if_neg (by omega), decide_eq_false (by omega), if_neg (by decide)]
        have := e g (by omega)
        rw [Int.toNat_of_nonneg (by omega), Int.zero_add] at this
        exact this
      · refine ⟨(0, 4), ⟨1, fun f hf => ?_⟩, ⟨1, fun f hf => ?_⟩⟩
        · simp only [pole_Turn.f]; rw [circled_ok h]; simp only [Option.bind_some, if_true]; rw [if_neg hn]
          by_cases h0 : c < 0
          · rw [if_pos h0]
          · rw [if_neg h0, if_pos (by omega)]
        · obtain ⟨g, rfl⟩ : ∃ g, f = g + 1 := ⟨f - 1, by omega⟩
          simp only [pomaderef06_Turn.f]; rw [small_ok h, if_neg hn]; simp only [Option.bind_some, if_true, pomaderef06_Turn.j0]
          by_cases h0 : c < 0
          · rw [if_pos h0]
          · rw [if_neg h0, decide_eq_true (by omega), if_pos rfl]
  · refine ⟨(0, 2), ⟨0, fun f _ => ?_⟩, ⟨0, fun f _ => ?_⟩⟩
    · simp only [pole_Turn.f]; rw [circled_no h]; rfl
    · simp only [pomaderef06_Turn.f]; rw [small_no h]; rfl

theorem same_loops (n k : Int) (hn : n ≤ 100000) (hk : 1 ≤ k ∧ k ≤ 1000) (d : Nat) : ∀ many p m : Int, 0 ≤ many → many ≤ m → 0 ≤ p → p ≤ m → 1 ≤ m → (n + 1 - m).toNat ≤ d →
    ∃ r, Ev (fun f => pole_Same.l0 f n k many p m) r ∧ Ev (fun f => pomaderef06_Same.l0 f n k p many m) r := by
  have stop : ∀ many p m : Int, n < m → ∃ r, Ev (fun f => pole_Same.l0 f n k many p m) r ∧ Ev (fun f => pomaderef06_Same.l0 f n k p many m) r := by
    intro many p m h
    refine ⟨(many, 0), Ev.step (f := fun _ => some (many, 0)) (fun f => ?_) (Ev.now _), Ev.step (f := fun _ => some (many, 0)) (fun f => ?_) (Ev.now _)⟩
    · simp only [pole_Same.l0]; rw [if_neg (by omega)]
    · simp only [pomaderef06_Same.l0]; rw [if_neg (by omega)]
  induction d with
  | zero => intro many p m h0 h1 h2 h3 h4 hd; exact stop many p m (by omega)
  | succ d ih =>
    intro many p m h0 h1 h2 h3 h4 hd
    by_cases hlt : n < m
    · exact stop many p m hlt
    · have hm := mod_pos (a := p + k) (b := m) (by omega)
      by_cases hz : (p + k) % m = 0
      · obtain ⟨r, e1, e2⟩ := ih (many + 1) ((p + k) % m) (m + 1) (by omega) (by omega) hm.1 (by omega) (by omega) (by omega)
        refine ⟨r, Ev.step (fun f => ?_) e1, Ev.step (fun f => ?_) e2⟩
        · simp only [pole_Same.l0]
          rw [if_pos (by omega), if_neg (by omega), w64 (n := p + k) (by omega), tm (by omega), if_pos hz, w64 (n := many + 1) (by omega), w64 (n := m + 1) (by omega)]
        · simp only [pomaderef06_Same.l0]
          rw [if_pos (by omega), if_neg (by omega), w64 (n := p + k) (by omega), tm (by omega), if_pos hz, w64 (n := many + 1) (by omega), w64 (n := m + 1) (by omega)]
      · obtain ⟨r, e1, e2⟩ := ih many ((p + k) % m) (m + 1) (by omega) (by omega) hm.1 (by omega) (by omega) (by omega)
        refine ⟨r, Ev.step (fun f => ?_) e1, Ev.step (fun f => ?_) e2⟩
        · simp only [pole_Same.l0]
          rw [if_pos (by omega), if_neg (by omega), w64 (n := p + k) (by omega), tm (by omega), if_neg hz, w64 (n := m + 1) (by omega)]
        · simp only [pomaderef06_Same.l0]
          rw [if_pos (by omega), if_neg (by omega), w64 (n := p + k) (by omega), tm (by omega), if_neg hz, w64 (n := m + 1) (by omega)]

theorem same_both (n k : Int) : ∃ r, Ev (fun f => pole_Same.f f n k) r ∧ Ev (fun f => pomaderef06_Same.f f n k) r := by
  by_cases h : Circ n k
  · by_cases hn : n > 100000
    · refine ⟨(0, 8), ⟨0, fun f _ => ?_⟩, ⟨0, fun f _ => ?_⟩⟩
      · simp only [pole_Same.f]; rw [circled_ok h]; simp only [Option.bind_some, if_true]; rw [if_pos hn]
      · simp only [pomaderef06_Same.f]; rw [small_ok h, if_pos hn]; rfl
    · obtain ⟨h1, h2, h3, h4⟩ := h
      obtain ⟨r, e1, e2⟩ := same_loops n k (by omega) ⟨h3, h4⟩ _ 1 0 2 (by omega) (by omega) (by omega) (by omega) (by omega) (Nat.le_refl _)
      refine ⟨r, Ev.congr (f := fun f => pole_Same.l0 f n k 0 0 1) (fun f => ?_) (Ev.step (fun f => ?_) e1), Ev.congr (fun f => ?_) e2⟩
      · simp only [pole_Same.f]; rw [circled_ok ⟨h1, h2, h3, h4⟩]; simp only [Option.bind_some, if_true]; rw [if_neg hn]
      · simp only [pole_Same.l0]
        rw [if_pos (by omega), if_neg (by omega), w64 (n := 0 + k) (by omega), tm (by omega), Int.emod_one, if_pos rfl, show wrap64 (0 + 1) = 1 by unfold wrap64; omega, show wrap64 (1 + 1) = 2 by unfold wrap64; omega]
      · simp only [pomaderef06_Same.f]; rw [small_ok ⟨h1, h2, h3, h4⟩, if_neg hn]; rfl
  · refine ⟨(0, 2), ⟨0, fun f _ => ?_⟩, ⟨0, fun f _ => ?_⟩⟩
    · simp only [pole_Same.f]; rw [circled_no h]; rfl
    · simp only [pomaderef06_Same.f]; rw [small_no h]; rfl

theorem PoleTurns : pomadelaw06_PoleTurns.Pure := by
  intro n k c _ _ _
  obtain ⟨r, ⟨K1, e1⟩, ⟨K2, e2⟩⟩ := turn_both n k c
  obtain ⟨q, ⟨K3, e3⟩, ⟨K4, e4⟩⟩ := same_both n k
  obtain ⟨K5, h5⟩ := alive_true
  dsimp only at e1 e2 e3 e4 h5
  refine ⟨max K1 (max K2 (max K3 (max K4 K5))) + 1, ?_⟩
  simp only [pomadelaw06_PoleTurns.f]
  rw [e1 _ (by omega), e2 _ (by omega)]
  simp only [Option.bind_some, if_true, bne_self_eq_false, pomadelaw06_PoleTurns.j0]
  rw [if_neg (by decide), e3 _ (by omega), e4 _ (by omega)]
  simp only [Option.bind_some, if_true]
  rw [h5 _ (by omega)]; rfl

end Go.Proofs.Ytndpnlpidphflaa.Pure
