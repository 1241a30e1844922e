/- What the printed functions of last and at come to. -/
import Derived.Test.YtndpnlpidphflaaPrint2
import Derived.Test.YtndpnlpidphflaaMath
namespace Go.Proofs.Ytndpnlpidphflaa.Pure
open Go.RowKit Go.Proofs.Ytndpnlpidphflaa.Print Go.Proofs.Ytndpnlpidphflaa.Math Go.Proofs.YtndpnlpidphflaaW.PrintWords Go.Proofs.YtndpnlpidphflaaW.PrintLast Go.Proofs.YtndpnlpidphflaaW.PrintMore
set_option linter.unusedVariables false

theorem w64 {n : Int} (h : -9223372036854775808 ≤ n ∧ n ≤ 9223372036854775807) : wrap64 n = n := by unfold wrap64; omega
theorem tm {a b : Int} (h : 0 ≤ a) : Int.tmod a b = a % b := Int.tmod_eq_emod_of_nonneg h
theorem td {a b : Int} (h : 0 ≤ a) : Int.tdiv a b = a / b := Int.tdiv_eq_ediv_of_nonneg h

theorem quo_bound {a b : Int} (ha : 0 ≤ a) (hb : 1 ≤ b) : 0 ≤ a / b ∧ a / b ≤ a ∧ (a / b) * b ≤ a :=
  ⟨Int.ediv_nonneg ha (by omega), Int.ediv_le_self _ ha, by have := Int.ediv_mul_le a (b := b) (by omega); omega⟩

theorem ev_after (k : Int) (hk0 : 1 ≤ k) (hk1 : k ≤ 1000) (n : Int) (hn : n ≤ 1125899906842624) (d : Nat) : ∀ p m : Int, 0 ≤ p → p < m → m ≤ n → (n - m).toNat ≤ d →
    Ev (fun f => pole_after.l0 f p m n k) (It k (n - m).toNat p m) := by
  induction d with
  | zero =>
    intro p m h0 h1 h2 hd
    have e : m = n := by omega
    subst e
    refine Ev.step (f := fun _ => some p) (fun f => ?_) ?_
    · simp only [pole_after.l0]; rw [if_neg (by omega)]
    · simpa [It] using Ev.now p
  | succ d ih =>
    intro p m h0 h1 h2 hd
    by_cases e : m = n
    · subst e
      refine Ev.step (f := fun _ => some p) (fun f => ?_) ?_
      · simp only [pole_after.l0]; rw [if_neg (by omega)]
      · simpa [It] using Ev.now p
    · have hlt : m < n := by omega
      -- one round: 'more' customers
      have go : ∀ more : Int, 1 ≤ more → more ≤ n - m → p + (more - 1) * k < m + (more - 1) →
          Ev (fun f => pole_after.l0 f ((p + more * k) % (m + more)) (m + more) n k) (It k (n - m).toNat p m) := by
        intro more m1 m2 m3
        obtain ⟨s, hs⟩ : ∃ s : Nat, more = s := ⟨more.toNat, by omega⟩
        subst hs
        have := ih ((p + s * k) % (m + s)) (m + s) (Int.emod_nonneg _ (by omega)) (Int.emod_lt_of_pos _ (by omega)) (by omega) (by omega)
        rw [← It_skip1 k hk0 s (by omega) p m h0 h1 m3, ← It_add, show s + (n - (m + s)).toNat = (n - m).toNat by omega] at this
        rw [← It_skip1 k hk0 s (by omega) p m h0 h1 m3]
        exact this
      by_cases hc : p + k < m + 1
      · by_cases hk : 1 < k
        · have q := quo_bound (a := m - p) (b := k - 1) (by omega) (by omega)
          have q1 : 1 ≤ (m - p) / (k - 1) := by
            have : (1 : Int) = (k - 1) / (k - 1) := (Int.ediv_self (by omega)).symm
            exact Int.le_trans (Int.le_of_eq this) (Int.ediv_le_ediv (show 0 < k - 1 by omega) (show k - 1 ≤ m - p by omega))
          obtain ⟨more, hmore⟩ : ∃ more, mx 1 (mn (wrap64 (Int.tdiv (wrap64 (m - p)) (wrap64 (k - 1)))) (wrap64 (n - m))) = more := ⟨_, rfl⟩
          have hm2 : 1 ≤ more ∧ more ≤ n - m ∧ more ≤ (m - p) / (k - 1) := by
            rw [← hmore, w64 (n := m - p) (by omega), w64 (n := k - 1) (by omega), td (by omega), w64 (n := (m - p) / (k - 1)) (by omega), w64 (n := n - m) (by omega)]
            unfold mx mn
            split <;> split <;> omega
          obtain ⟨g1, g2, g3⟩ := hm2
          have g4 : more * (k - 1) ≤ m - p := Int.le_trans (Int.mul_le_mul_of_nonneg_right g3 (by omega)) q.2.2
          have g5 : more * (k - 1) = more * k - more := by rw [Int.mul_sub, Int.mul_one]
          have g6 : (more - 1) * k = more * k - k := by rw [Int.sub_mul, Int.one_mul]
          have g7 : 0 ≤ more * k := Int.mul_nonneg (by omega) (by omega)
          refine Ev.step (f := fun f => pole_after.j1 f p m n k 1 true) (fun f => ?_) (Ev.step (f := fun f => pole_after.l0 f ((p + more * k) % (m + more)) (m + more) n k) (fun f => ?_) (go more g1 g2 (by omega)))
          · simp only [pole_after.l0]
            rw [if_pos hlt, w64 (n := p + k) (by omega), w64 (n := m + 1) (by omega), if_pos hc, decide_eq_true hk]
          · simp only [pole_after.j1]
            rw [if_pos trivial, hmore, w64 (n := k - 1) (by omega), if_neg (by omega), w64 (n := m + more) (by omega), if_neg (by omega), w64 (n := more * k) (by omega), w64 (n := p + more * k) (by omega), tm (by omega)]
        · obtain rfl : k = 1 := by omega
          refine Ev.step (f := fun f => pole_after.j1 f p m n 1 1 false) (fun f => ?_) (Ev.step (f := fun f => pole_after.l0 f ((p + (n - m) * 1) % (m + (n - m))) (m + (n - m)) n 1) (fun f => ?_) (go (n - m) (by omega) (by omega) (by omega)))
          · simp only [pole_after.l0]
            rw [if_pos hlt, w64 (n := p + 1) (by omega), w64 (n := m + 1) (by omega), if_pos hc, decide_eq_false hk]
          · simp only [pole_after.j1]
            rw [if_neg (by decide), if_pos trivial, w64 (n := p + 1) (by omega), w64 (n := m + 1) (by omega), if_pos hc, w64 (n := n - m) (by omega), w64 (n := m + (n - m)) (by omega), if_neg (by omega), w64 (n := (n - m) * 1) (by omega), w64 (n := p + (n - m) * 1) (by omega), tm (by omega)]
      · have hk : ¬ k = 1 := by omega
        refine Ev.step (f := fun f => pole_after.j1 f p m n k 1 false) (fun f => ?_) (Ev.step (f := fun f => pole_after.l0 f ((p + 1 * k) % (m + 1)) (m + 1) n k) (fun f => ?_) (go 1 (by omega) (by omega) (by omega)))
        · simp only [pole_after.l0]
          rw [if_pos hlt, w64 (n := p + k) (by omega), w64 (n := m + 1) (by omega), if_neg hc]
        · simp only [pole_after.j1]
          rw [if_neg (by decide), if_neg hk, w64 (n := m + 1) (by omega), if_neg (by omega), w64 (n := 1 * k) (by omega), w64 (n := p + 1 * k) (by omega), tm (by omega)]

theorem ev_at (n k t : Int) (hn : n ≤ 1125899906842624) (hk0 : 1 ≤ k) (hk1 : k ≤ 1000) (h0 : 0 ≤ t) (h1 : t < n) : Ev (fun f => pole_at.f f n k t) (atv n k t) := by
  have h := ev_after k hk0 hk1 n hn (n - (n - t)).toNat ((k - 1) % (n - t)) (n - t) (Int.emod_nonneg _ (by omega)) (Int.emod_lt_of_pos _ (by omega)) (by omega) (Nat.le_refl _)
  rw [show (n - (n - t)).toNat = t.toNat by omega] at h
  obtain ⟨K, h⟩ := h
  dsimp only at h
  refine ⟨K, fun f hf => ?_⟩
  simp only [pole_at.f, pole_after.f]
  rw [w64 (n := n - t) (by omega), if_neg (by omega), w64 (n := k - 1) (by omega), tm (by omega), h f hf]
  rfl

theorem ev_refat (k : Int) (hk0 : 1 ≤ k) (hk1 : k ≤ 1000) (n : Int) (hn : n ≤ 1125899906842624) (d : Nat) : ∀ p m : Int, 0 ≤ p → p < m → m ≤ n → (n - m).toNat ≤ d →
    Ev (fun f => pomaderef06_at.l0 f n k m p) (It k (n - m).toNat p m) := by
  induction d with
  | zero =>
    intro p m h0 h1 h2 hd
    have e : m = n := by omega
    subst e
    refine Ev.step (f := fun _ => some p) (fun f => ?_) ?_
    · simp only [pomaderef06_at.l0]; rw [if_neg (by omega)]
    · simpa [It] using Ev.now p
  | succ d ih =>
    intro p m h0 h1 h2 hd
    by_cases e : m = n
    · subst e
      refine Ev.step (f := fun _ => some p) (fun f => ?_) ?_
      · simp only [pomaderef06_at.l0]; rw [if_neg (by omega)]
      · simpa [It] using Ev.now p
    · have hlt : m < n := by omega
      have one : Ev (fun f => pomaderef06_at.l0 f n k (m + 1) ((p + k) % (m + 1))) (It k (n - m).toNat p m) := by
        have := ih ((p + k) % (m + 1)) (m + 1) (Int.emod_nonneg _ (by omega)) (Int.emod_lt_of_pos _ (by omega)) (by omega) (by omega)
        rw [show (n - m).toNat = (n - (m + 1)).toNat + 1 by omega]
        exact this
      have go : ∀ more : Int, 1 ≤ more → more ≤ n - m → p + more * k < m + more →
          Ev (fun f => pomaderef06_at.l0 f n k (m + more) (p + more * k)) (It k (n - m).toNat p m) := by
        intro more m1 m2 m3
        obtain ⟨s, hs⟩ : ∃ s : Nat, more = s := ⟨more.toNat, by omega⟩
        subst hs
        have hsk : 0 ≤ (s : Int) * k := Int.mul_nonneg (by omega) (by omega)
        have := ih (p + s * k) (m + s) (by omega) m3 (by omega) (by omega)
        rw [← It_skip k hk0 s p m h0 h1 m3, ← It_add, show s + (n - (m + s)).toNat = (n - m).toNat by omega] at this
        rw [← It_skip k hk0 s p m h0 h1 m3]
        exact this
      by_cases hk : k > 1
      · have q := quo_bound (a := m - 1 - p) (b := k - 1) (by omega) (by omega)
        obtain ⟨more, hmore⟩ : ∃ more, mn (wrap64 (Int.tdiv (wrap64 ((wrap64 (m - 1)) - p)) (wrap64 (k - 1)))) (wrap64 (n - m)) = more := ⟨_, rfl⟩
        have hm2 : 0 ≤ more ∧ more ≤ n - m ∧ more ≤ (m - 1 - p) / (k - 1) := by
          rw [← hmore, w64 (n := m - 1) (by omega), w64 (n := m - 1 - p) (by omega), w64 (n := k - 1) (by omega), td (by omega), w64 (n := (m - 1 - p) / (k - 1)) (by omega), w64 (n := n - m) (by omega)]
          unfold mn
          split <;> omega
        obtain ⟨g1, g2, g3⟩ := hm2
        by_cases hz : more = 0
        · refine Ev.step (f := fun f => pomaderef06_at.l0 f n k (m + 1) ((p + k) % (m + 1))) (fun f => ?_) one
          simp only [pomaderef06_at.l0]
          rw [if_pos hlt, if_pos hk, hmore, if_pos hz, w64 (n := k - 1) (by omega), if_neg (by omega), w64 (n := m + 1) (by omega), if_neg (by omega), w64 (n := p + k) (by omega), tm (by omega)]
        · have g4 : more * (k - 1) ≤ m - 1 - p := Int.le_trans (Int.mul_le_mul_of_nonneg_right g3 (by omega)) q.2.2
          have g5 : more * (k - 1) = more * k - more := by rw [Int.mul_sub, Int.mul_one]
          have g7 : 0 ≤ more * k := Int.mul_nonneg (by omega) (by omega)
          refine Ev.step (f := fun f => pomaderef06_at.l0 f n k (m + more) (p + more * k)) (fun f => ?_) (go more (by omega) g2 (by omega))
          simp only [pomaderef06_at.l0]
          rw [if_pos hlt, if_pos hk, hmore, if_neg hz, w64 (n := k - 1) (by omega), if_neg (by omega), w64 (n := m + more) (by omega), w64 (n := more * k) (by omega), w64 (n := p + more * k) (by omega)]
      · obtain rfl : k = 1 := by omega
        refine Ev.step (f := fun f => pomaderef06_at.l0 f n 1 (m + (n - m)) (p + (n - m) * 1)) (fun f => ?_) (go (n - m) (by omega) (by omega) (by omega))
        have hmn : mn (n - m) (n - m) = n - m := by unfold mn; split <;> rfl
        simp only [pomaderef06_at.l0]
        rw [if_pos hlt, if_neg hk, w64 (n := n - m) (by omega), hmn, if_neg (by omega), w64 (n := m + (n - m)) (by omega), w64 (n := (n - m) * 1) (by omega), w64 (n := p + (n - m) * 1) (by omega)]

theorem ev_refat' (n k t : Int) (hn : n ≤ 1125899906842624) (hk0 : 1 ≤ k) (hk1 : k ≤ 1000) (h0 : 0 ≤ t) (h1 : t < n) : Ev (fun f => pomaderef06_at.f f n k t) (atv n k t) := by
  have h := ev_refat k hk0 hk1 n hn (n - (n - t)).toNat ((k - 1) % (n - t)) (n - t) (Int.emod_nonneg _ (by omega)) (Int.emod_lt_of_pos _ (by omega)) (by omega) (Nat.le_refl _)
  rw [show (n - (n - t)).toNat = t.toNat by omega] at h
  obtain ⟨K, h⟩ := h
  dsimp only at h
  refine ⟨K, fun f hf => ?_⟩
  simp only [pomaderef06_at.f]
  rw [w64 (n := n - t) (by omega), if_neg (by omega), w64 (n := k - 1) (by omega), tm (by omega), h f hf]; rfl

/-! The errors. -/
def Circ (n k : Int) : Prop := 1 ≤ n ∧ n ≤ 1125899906842624 ∧ 1 ≤ k ∧ k ≤ 1000
theorem circled_ok {n k : Int} (h : Circ n k) : pole_circled.f n k = some 0 := by
  obtain ⟨h1, h2, h3, h4⟩ := h
  unfold pole_circled.f; rw [if_neg (by omega), if_neg (by omega), if_neg (by omega), if_neg (by omega)]
theorem circled_no {n k : Int} (h : ¬ Circ n k) : pole_circled.f n k = some 2 := by
  unfold pole_circled.f Circ at *
  repeat (split; rfl)
  omega
theorem circle_ok {n k : Int} (h : Circ n k) : pomaderef06_circle.f n k = some 0 := by
  obtain ⟨h1, h2, h3, h4⟩ := h
  unfold pomaderef06_circle.f; rw [if_neg (by omega), if_neg (by omega), if_neg (by omega), if_neg (by omega)]
theorem circle_no {n k : Int} (h : ¬ Circ n k) : pomaderef06_circle.f n k = some 2 := by
  unfold pomaderef06_circle.f Circ at *
  repeat (split; rfl)
  omega

/-- Last's answer. -/
def lastA (n k : Int) : Int × Int := if 1 ≤ n ∧ n ≤ 1125899906842624 ∧ 1 ≤ k ∧ k ≤ 1000 then (atv n k (n - 1), 0) else (0, 2)
def atA (n k t : Int) : Int × Int := if 1 ≤ n ∧ n ≤ 1125899906842624 ∧ 1 ≤ k ∧ k ≤ 1000 then (if t < 0 then (0, 4) else if t ≥ n then (0, 4) else (atv n k t, 0)) else (0, 2)

theorem ev_Last (n k : Int) : Ev (fun f => pole_Last.f f n k) (lastA n k) := by
  by_cases h : Circ n k
  · have hh := h
    obtain ⟨h1, h2, h3, h4⟩ := hh
    obtain ⟨K, e⟩ := ev_at n k (n - 1) h2 h3 h4 (by omega) (by omega)
    dsimp only at e
    refine ⟨K, fun f hf => ?_⟩
    unfold pole_Last.f lastA
    rw [circled_ok h, if_pos ⟨h1, h2, h3, h4⟩]
    simp only [Option.bind_some, if_true]
    rw [w64 (n := n - 1) (by omega), e f hf]; rfl
  · refine ⟨0, fun f hf => ?_⟩
    unfold pole_Last.f lastA
    rw [circled_no h, if_neg (c := 1 ≤ n ∧ n ≤ 1125899906842624 ∧ 1 ≤ k ∧ k ≤ 1000) h]; rfl
theorem ev_refLast (n k : Int) : Ev (fun f => pomaderef06_Last.f f n k) (lastA n k) := by
  by_cases h : Circ n k
  · have hh := h
    obtain ⟨h1, h2, h3, h4⟩ := hh
    obtain ⟨K, e⟩ := ev_refat' n k (n - 1) h2 h3 h4 (by omega) (by omega)
    dsimp only at e
    refine ⟨K, fun f hf => ?_⟩
    unfold pomaderef06_Last.f lastA
    rw [circle_ok h, if_pos ⟨h1, h2, h3, h4⟩]
    simp only [Option.bind_some, if_true]
    rw [w64 (n := n - 1) (by omega), e f hf]; rfl
  · refine ⟨0, fun f hf => ?_⟩
    unfold pomaderef06_Last.f lastA
    rw [circle_no h, if_neg (c := 1 ≤ n ∧ n ≤ 1125899906842624 ∧ 1 ≤ k ∧ k ≤ 1000) h]; rfl
theorem ev_At (n k t : Int) : Ev (fun f => pole_At.f f n k t) (atA n k t) := by
  by_cases h : Circ n k
  · have hh := h
    obtain ⟨h1, h2, h3, h4⟩ := hh
    by_cases ht : 0 ≤ t ∧ t < n
    · obtain ⟨K, e⟩ := ev_at n k t h2 h3 h4 ht.1 ht.2
      dsimp only at e
      refine ⟨K, fun f hf => ?_⟩
      unfold pole_At.f atA
      rw [circled_ok h, if_pos ⟨h1, h2, h3, h4⟩]
      simp only [Option.bind_some, if_true]
      rw [if_neg (by omega), if_neg (by omega), if_neg (by omega), if_neg (by omega), e f hf]; rfl
    · refine ⟨0, fun f hf => ?_⟩
      unfold pole_At.f atA
      rw [circled_ok h, if_pos ⟨h1, h2, h3, h4⟩]
      simp only [Option.bind_some, if_true]
      by_cases h0 : t < 0
      · rw [if_pos h0, if_pos h0]
      · rw [if_neg h0, if_neg h0, if_pos (by omega), if_pos (by omega)]
  · refine ⟨0, fun f hf => ?_⟩
    unfold pole_At.f atA
    rw [circled_no h, if_neg (c := 1 ≤ n ∧ n ≤ 1125899906842624 ∧ 1 ≤ k ∧ k ≤ 1000) h]; rfl
theorem ev_refAt (n k t : Int) : Ev (fun f => pomaderef06_At.f f n k t) (atA n k t) := by
  by_cases h : Circ n k
  · have hh := h
    obtain ⟨h1, h2, h3, h4⟩ := hh
    by_cases ht : 0 ≤ t ∧ t < n
    · obtain ⟨K, e⟩ := ev_refat' n k t h2 h3 h4 ht.1 ht.2
      dsimp only at e
      refine ⟨K, fun f hf => ?_⟩
      unfold pomaderef06_At.f atA
      rw [circle_ok h, if_pos ⟨h1, h2, h3, h4⟩]
      simp only [Option.bind_some, if_true]
      rw [if_neg (by omega), if_neg (by omega), if_neg (by omega), if_neg (by omega), e f hf]; rfl
    · refine ⟨0, fun f hf => ?_⟩
      unfold pomaderef06_At.f atA
      rw [circle_ok h, if_pos ⟨h1, h2, h3, h4⟩]
      simp only [Option.bind_some, if_true]
      by_cases h0 : t < 0
      · rw [if_pos h0, if_pos h0]
      · rw [if_neg h0, if_neg h0, if_pos (by omega), if_pos (by omega)]
  · refine ⟨0, fun f hf => ?_⟩
    unfold pomaderef06_At.f atA
    rw [circle_no h, if_neg (c := 1 ≤ n ∧ n ≤ 1125899906842624 ∧ 1 ≤ k ∧ k ≤ 1000) h]; rfl

theorem alive_true : Ev (fun f => pomadelaw06_alive.f f) true := by
  refine Ev.of (fun k => pomadelaw06_alive.mono k) (k := 60) ?_
  decide +kernel
end Go.Proofs.Ytndpnlpidphflaa.Pure
