/- The plain mathematics of counting out: nothing of the program. -/
import Derived.RowKit
namespace Go.Proofs.Ytndpnlpidphflaa.Math
set_option linter.unusedVariables false

/-- A place followed: one customer more each time. -/
def It (k : Int) : Nat → Int → Int → Int
  | 0, p, _ => p
  | s + 1, p, m => It k s ((p + k) % (m + 1)) (m + 1)

theorem It_add (k : Int) (s t : Nat) : ∀ p m, It k (s + t) p m = It k t (It k s p m) (m + s) := by
  induction s with
  | zero => intro p m; simp [It]
  | succ s ih =>
    intro p m
    rw [Nat.succ_add]
    simp only [It]
    rw [ih, show m + 1 + (s : Int) = m + ((s + 1 : Nat) : Int) by omega]

theorem It_last (k : Int) (s : Nat) (p m : Int) : It k (s + 1) p m = (It k s p m + k) % (m + s + 1) := by
  rw [It_add k s 1]; simp [It]

theorem It_range (k : Int) (s : Nat) : ∀ p m, 0 ≤ p → p < m → 0 ≤ It k s p m ∧ It k s p m < m + s := by
  induction s with
  | zero => intro p m h0 h1; simp [It]; omega
  | succ s ih =>
    intro p m h0 h1
    simp only [It]
    have h2 := Int.emod_nonneg (p + k) (b := m + 1) (by omega)
    have h3 := Int.emod_lt_of_pos (p + k) (b := m + 1) (by omega)
    have := ih _ (m + 1) h2 h3
    omega

/-- As long as the place stays below the number. -/
theorem It_skip (k : Int) (hk : 1 ≤ k) (s : Nat) : ∀ p m, 0 ≤ p → p < m → p + s * k < m + s → It k s p m = p + s * k := by
  induction s with
  | zero => intro p m h0 h1 h; simp [It]
  | succ s ih =>
    intro p m h0 h1 h
    have e : (((s + 1 : Nat) : Int)) * k = s * k + k := by rw [Int.natCast_succ, Int.add_mul, Int.one_mul]
    rw [e] at h
    have hs : (s : Int) ≤ s * k := by
      have := Int.mul_le_mul_of_nonneg_left hk (show (0 : Int) ≤ s by omega)
      omega
    have h2 : p + k < m + 1 := by omega
    simp only [It]
    rw [Int.emod_eq_of_lt (by omega) h2, ih (p + k) (m + 1) (by omega) h2 (by omega), e]
    omega

theorem It_skip1 (k : Int) (hk : 1 ≤ k) (s : Nat) (hs : 1 ≤ s) (p m : Int) (h0 : 0 ≤ p) (h1 : p < m) (h : p + (s - 1) * k < m + (s - 1)) : It k s p m = (p + s * k) % (m + s) := by
  obtain ⟨t, rfl⟩ : ∃ t, s = t + 1 := ⟨s - 1, by omega⟩
  have e1 : (((t + 1 : Nat) : Int)) - 1 = t := by omega
  have e : (((t + 1 : Nat) : Int)) * k = t * k + k := by rw [Int.natCast_succ, Int.add_mul, Int.one_mul]
  rw [e1] at h
  rw [It_last, It_skip k hk t p m h0 h1 h, e, show m + ((t + 1 : Nat) : Int) = m + t + 1 by omega, Int.add_assoc p]

/-- The customer with a turn. -/
def atv (n k t : Int) : Int := It k t.toNat ((k - 1) % (n - t)) (n - t)

theorem atv_range (n k t : Int) (h0 : 0 ≤ t) (h1 : t < n) : 0 ≤ atv n k t ∧ atv n k t < n := by
  unfold atv
  have := It_range k t.toNat ((k - 1) % (n - t)) (n - t) (Int.emod_nonneg _ (by omega)) (Int.emod_lt_of_pos _ (by omega))
  omega

theorem atv_succ (n k t : Int) (h0 : 0 ≤ t) (h1 : t < n) : atv (n + 1) k (t + 1) = (atv n k t + k) % (n + 1) := by
  unfold atv
  rw [show (t + 1).toNat = t.toNat + 1 by omega, show n + 1 - (t + 1) = n - t by omega, It_last, show n - t + (t.toNat : Int) + 1 = n + 1 by omega]

theorem atv_zero (n k : Int) : atv n k 0 = (k - 1) % n := by simp [atv, It]
end Go.Proofs.Ytndpnlpidphflaa.Math
