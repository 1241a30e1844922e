/- The plain mathematics of counting out: nothing of the program. -/
import Derived.RowKit
namespace Go.Proofs.Ytndpnlpidphflaa.Math
set_option linter.unusedVariables false

/-- A place followed: one customer more each time. -/
def It (k : Int) : Nat → Int → Int → Int
  | 0, p, _ => p
  | s + 1, p, m => It k s ((p + k) % (m + 1)) (m + 1)

theorem It_add (k : Int) (s t : Nat) : ∀ p m, It k (s + t) p m = It k t (It k s p m) (m + s) := by
  induction s with
  | zero => intro p m; simp [It]
  | succ s ih =>
    intro p m
    rw [Nat.succ_add]
    simp only [It]
    rw [ih, show m + 1 + (s : Int) = m + ((s + 1 : Nat) : Int) by omega]

theorem It_last (k : Int) (s : Nat) (p m : Int) : It k (s + 1) p m = (It k s p m + k) % (m + s + 1) := by
  rw [It_add k s 1]; simp [It]

theorem It_range (k : Int) (s : Nat) : ∀ p m, 0 ≤ p → p < m → 0 ≤ It k s p m ∧ It k s p m < m + s := by
  induction s with
  | zero => intro p m h0 h1; simp [It]; omega
  | succ s ih =>
    intro p m h0 h1
    simp only [It]
    have h2 := Int.emod_nonneg (p + k) (b := m + 1) (by omega)
    have h3 := Int.emod_lt_of_pos (p + k) (b := m + 1) (by omega)
    have := ih _ (m + 1) h2 h3
    omega

/-- As long as the place stays below the number. -/
theorem It_skip (k : Int) (hk : 1 ≤ k) (s : Nat) : ∀ p m, 0 ≤ p → p < m → p + s * k < m + s → It k s p m = p + s * k := by
  induction s with
  | zero => intro p m h0 h1 h; simp [It]
  | succ s ih =>
    intro p m h0 h1 h
    have e : (((s + 1 : Nat) : Int)) * k = s * k + k := by rw [Int.natCast_succ, Int.add_mul, Int.one_mul]
    rw [e] at h
    have hs : (s : Int) ≤ s * k := by
      have := Int.mul_le_mul_of_nonneg_left hk (show (0 : Int) ≤ s by omega)
      omega
    have h2 : p + k < m + 1 := by omega
    simp only [It]
    rw [Int.emod_eq_of_lt (by omega) h2, ih (p + k) (m + 1) (by omega) h2 (by omega), e]
    omega

theorem It_skip1 (k : Int) (hk : 1 ≤ k) (s : Nat) (hs : 1 ≤ s) (p m : Int) (h0 : 0 ≤ p) (h1 : p < m) (h : p + (s - 1) * k < m + (s - 1)) : It k s p m = (p + s * k) % (m + s) := by
  obtain ⟨t, rfl⟩ : ∃ t, s = t + 1 := ⟨s - 1, by omega⟩
  have e1 : (((t + 1 : Nat) : Int)) - 1 = t := by omega
  have e : (((t + 1 : Nat) : Int)) * k = t * k + k := by rw [Int.natCast_succ, Int.add_mul, Int.one_mul]
  rw [e1] at h
  rw [It_last, It_skip k hk t p m h0 h1 h, e, show m + ((t + 1 : Nat) : Int) = m + t + 1 by omega, Int.add_assoc p]

/-- The customer with a turn. -/
def atv (n k t : Int) : Int := It k t.toNat ((k - 1) % (n - t)) (n - t)

theorem atv_range (n k t : Int) (h0 : 0 ≤ t) (h1 : t < n) : 0 ≤ atv n k t ∧ atv n k t < n := by
  unfold atv
  have := It_range k t.toNat ((k - 1) % (n - t)) (n - t) (Int.emod_nonneg _ (by omega)) (Int.emod_lt_of_pos _ (by omega))
  omega

theorem atv_succ (n k t : Int) (h0 : 0 ≤ t) (h1 : t < n) : atv (n + 1) k (t + 1) = (atv n k t + k) % (n + 1) := by
  unfold atv
  rw [show (t + 1).toNat = t.toNat + 1 by omega, show n + 1 - (t + 1) = n - t by omega, It_last, show n - t + (t.toNat : Int) + 1 = n + 1 by omega]

theorem atv_zero (n k : Int) : atv n k 0 = (k - 1) % n := by simp [atv, It]

/-! Searching for the least step. -/
def srch (P : Int → Bool) : Nat → Int → Option Int
  | 0, _ => none
  | d + 1, k => if P k then some k else srch P d (k + 1)

theorem srch_some (P : Int → Bool) (d : Nat) : ∀ k r, srch P d k = some r → P r = true ∧ k ≤ r ∧ r < k + d ∧ ∀ j, k ≤ j → j < r → P j = false := by
  induction d with
  | zero => intro k r h; cases h
  | succ d ih =>
    intro k r h
    simp only [srch] at h
    by_cases hp : P k = true
    · rw [if_pos hp] at h
      injection h with h
      subst h
      exact ⟨hp, by omega, by omega, fun j h1 h2 => by omega⟩
    · rw [if_neg hp] at h
      obtain ⟨h1, h2, h3, h4⟩ := ih _ _ h
      refine ⟨h1, by omega, by omega, fun j j1 j2 => ?_⟩
      by_cases e : j = k
      · subst e; simpa using hp
      · exact h4 j (by omega) j2

theorem srch_none (P : Int → Bool) (d : Nat) : ∀ k, srch P d k = none → ∀ j, k ≤ j → j < k + d → P j = false := by
  induction d with
  | zero => intro k h j h1 h2; omega
  | succ d ih =>
    intro k h j h1 h2
    simp only [srch] at h
    by_cases hp : P k = true
    · rw [if_pos hp] at h; cases h
    · rw [if_neg hp] at h
      by_cases e : j = k
      · subst e; simpa using hp
      · exact ih _ h j (by omega) (by omega)

/-- What a search finds is at most any step that serves. -/
theorem srch_le (P : Int → Bool) (d : Nat) (k j : Int) (h1 : k ≤ j) (h2 : j < k + d) (hp : P j = true) : ∃ r, srch P d k = some r ∧ r ≤ j := by
  cases e : srch P d k with
  | none => have := srch_none P d k e j h1 h2; rw [hp] at this; cases this
  | some r =>
    refine ⟨r, rfl, ?_⟩
    obtain ⟨_, _, _, h⟩ := srch_some P d k r e
    rcases (show j < r ∨ r ≤ j by omega) with hl | hl
    · have := h j h1 hl; rw [hp] at this; cases this
    · exact hl

def stepsA (n last : Int) : Int × Int := match srch (fun k => It k (n - 1).toNat 0 1 == last) 30000 1 with
  | some k => (k, 0)
  | none => (0, 10)

/-- The least common multiples of 1 to n. -/
def comv : List Int := [1, 1, 2, 6, 12, 60, 60, 420, 840, 2520, 2520, 27720, 27720]
def wit : List (List Int) := [[], [1], [2, 1], [5, 3, 1], [2, 4, 6, 1], [4, 5, 2, 3, 1], [3, 10, 8, 6, 2, 1], [11, 4, 6, 3, 7, 5, 1], [2, 19, 5, 7, 12, 4, 3, 1], [3, 7, 2, 42, 35, 11, 6, 5, 1], [8, 19, 5, 3, 2, 15, 9, 10, 7, 1], [16, 26, 24, 40, 7, 36, 2, 5, 4, 14, 1], [4, 9, 6, 26, 8, 11, 18, 13, 2, 3, 12, 1]]
theorem com_dvd : ∀ m : Fin 13, ∀ l : Fin 13, 1 ≤ l.val → l.val ≤ m.val → ((l.val : Int)) ∣ comv.getD m.val 0 := by decide
theorem wit_ok : ∀ m : Fin 13, ∀ c : Fin 13, c.val < m.val → It ((wit.getD m.val []).getD c.val 0) (m.val - 1) 0 1 = (c.val : Int) ∧ 1 ≤ (wit.getD m.val []).getD c.val 0 ∧ (wit.getD m.val []).getD c.val 0 ≤ comv.getD m.val 0 := by decide +kernel
theorem com_le : ∀ m : Fin 13, comv.getD m.val 0 ≤ 27720 := by decide

theorem wit_any (m c : Int) (h0 : 0 ≤ c) (h1 : c < m) (h2 : m ≤ 12) : ∃ w, It w (m - 1).toNat 0 1 = c ∧ 1 ≤ w ∧ w ≤ comv.getD m.toNat 0 ∧ w ≤ 27720 := by
  have := wit_ok ⟨m.toNat, by omega⟩ ⟨c.toNat, by omega⟩ (by show c.toNat < m.toNat; omega)
  have h3 := com_le ⟨m.toNat, by omega⟩
  simp only at this h3
  rw [show (m - 1).toNat = m.toNat - 1 by omega]
  exact ⟨_, by rw [this.1]; omega, this.2.1, this.2.2, by omega⟩

/-! The turn of a place. -/
def turnv (k : Int) : Nat → Int → Int
  | 0, _ => 0
  | l + 1, p => if p = (k - 1) % ((l + 1 : Nat) : Int) then 0 else 1 + turnv k l ((p - (k - 1) % ((l + 1 : Nat) : Int) - 1 + ((l + 1 : Nat) : Int)) % ((l + 1 : Nat) : Int))

theorem mod_pos {a b : Int} (h : 0 < b) : 0 ≤ a % b ∧ a % b < b := ⟨Int.emod_nonneg _ (by omega), Int.emod_lt_of_pos _ h⟩

/-- Behind a call the place stays below the number of those who are left. -/
theorem next_place (c p L : Int) (hL : 1 ≤ L) (hc0 : 0 ≤ c) (hc1 : c < L) (hp0 : 0 ≤ p) (hp1 : p < L) (h : p ≠ c) : 0 ≤ (p - c - 1 + L) % L ∧ (p - c - 1 + L) % L < L - 1 := by
  by_cases hl : c < p
  · rw [show p - c - 1 + L = (p - c - 1) + L by omega, Int.add_emod_right, Int.emod_eq_of_lt (by omega) (by omega)]
    omega
  · rw [Int.emod_eq_of_lt (by omega) (by omega)]
    omega

theorem turnv_range (k : Int) (l : Nat) : ∀ p : Int, 0 ≤ p → p < l → 0 ≤ turnv k l p ∧ turnv k l p < l := by
  induction l with
  | zero => intro p h0 h1; simp [turnv]; omega
  | succ l ih =>
    intro p h0 h1
    simp only [turnv]
    have hc := mod_pos (a := k - 1) (b := ((l + 1 : Nat) : Int)) (by omega)
    split
    · omega
    · rename_i hne
      have hn := next_place _ p _ (by omega) hc.1 hc.2 h0 h1 hne
      have := ih _ hn.1 (Int.lt_of_lt_of_le hn.2 (by omega))
      omega

/-- The turn of the customer with a turn. -/
theorem turn_at (k : Int) (t : Nat) : ∀ n : Nat, t < n → turnv k n (atv n k t) = t := by
  induction t with
  | zero =>
    intro n h
    obtain ⟨l, rfl⟩ : ∃ l, n = l + 1 := ⟨n - 1, by omega⟩
    rw [show ((0 : Nat) : Int) = 0 from rfl, atv_zero]
    simp [turnv]
  | succ t ih =>
    intro n h
    obtain ⟨l, rfl⟩ : ∃ l, n = l + 1 := ⟨n - 1, by omega⟩
    have e := atv_succ (l : Int) k t (by omega) (by omega)
    have ha := atv_range (l : Int) k t (by omega) (by omega)
    have ihl := ih l (by omega)
    rw [show ((l + 1 : Nat) : Int) = (l : Int) + 1 by omega, show ((t + 1 : Nat) : Int) = (t : Int) + 1 by omega]
    obtain ⟨a, hae⟩ : ∃ a, atv (l : Int) k t = a := ⟨_, rfl⟩
    rw [hae] at e ha ihl
    rw [e]
    have hc := mod_pos (a := k - 1) (b := (l : Int) + 1) (by omega)
    have hs : (a + k) % ((l : Int) + 1) = ((k - 1) % ((l : Int) + 1) + (a + 1)) % ((l : Int) + 1) := by
      rw [Int.emod_add_emod]; congr 1; omega
    obtain ⟨c, hce⟩ : ∃ c, (k - 1) % ((l : Int) + 1) = c := ⟨_, rfl⟩
    rw [hce] at hc hs
    simp only [turnv, show ((l + 1 : Nat) : Int) = (l : Int) + 1 by omega, hce]
    by_cases hw : c + (a + 1) < (l : Int) + 1
    · rw [hs, Int.emod_eq_of_lt (by omega) hw, if_neg (by omega), show c + (a + 1) - c - 1 + ((l : Int) + 1) = a + ((l : Int) + 1) by omega, Int.add_emod_right, Int.emod_eq_of_lt (by omega) (by omega), ihl]
      omega
    · have : (c + (a + 1)) % ((l : Int) + 1) = c + (a + 1) - ((l : Int) + 1) := by
        rw [show c + (a + 1) = (c + (a + 1) - ((l : Int) + 1)) + ((l : Int) + 1) by omega, Int.add_emod_right, Int.emod_eq_of_lt (by omega) (by omega)]
        omega
      rw [hs, this, if_neg (by omega), show c + (a + 1) - ((l : Int) + 1) - c - 1 + ((l : Int) + 1) = a by omega, Int.emod_eq_of_lt (by omega) (by omega), ihl]
      omega

/-- The customer with the turn of a customer. -/
theorem at_turn (k : Int) (n : Nat) : ∀ p : Int, 0 ≤ p → p < n → atv n k (turnv k n p) = p := by
  induction n with
  | zero => intro p h0 h1; omega
  | succ l ih =>
    intro p h0 h1
    have hc := mod_pos (a := k - 1) (b := ((l + 1 : Nat) : Int)) (by omega)
    simp only [turnv]
    by_cases he : p = (k - 1) % ((l + 1 : Nat) : Int)
    · rw [if_pos he, atv_zero, ← he]
    · rw [if_neg he]
      have hn := next_place _ p _ (by omega) hc.1 hc.2 h0 h1 he
      have hl := ih _ hn.1 (Int.lt_of_lt_of_le hn.2 (by omega))
      have ht := turnv_range k l _ hn.1 (Int.lt_of_lt_of_le hn.2 (by omega))
      obtain ⟨t, hte⟩ : ∃ t, turnv k l ((p - (k - 1) % ((l + 1 : Nat) : Int) - 1 + ((l + 1 : Nat) : Int)) % ((l + 1 : Nat) : Int)) = t := ⟨_, rfl⟩
      rw [hte] at hl ht ⊢
      have := atv_succ (l : Int) k t ht.1 ht.2
      rw [show (1 : Int) + t = t + 1 by omega, show ((l + 1 : Nat) : Int) = (l : Int) + 1 by omega, this, hl]
      rw [show ((l + 1 : Nat) : Int) = (l : Int) + 1 by omega] at *
      rw [Int.emod_add_emod]
      have e2 : (p - (k - 1) % ((l : Int) + 1) - 1 + ((l : Int) + 1) + k) % ((l : Int) + 1) = (p + ((k - 1) - (k - 1) % ((l : Int) + 1)) + ((l : Int) + 1)) % ((l : Int) + 1) := by congr 1; omega
      rw [e2, Int.add_emod_right]
      have e3 : (k - 1) - (k - 1) % ((l : Int) + 1) = ((l : Int) + 1) * ((k - 1) / ((l : Int) + 1)) := by
        have := Int.mul_ediv_add_emod (k - 1) ((l : Int) + 1)
        omega
      rw [e3, Int.add_mul_emod_self_left, Int.emod_eq_of_lt h0 (by omega)]
end Go.Proofs.Ytndpnlpidphflaa.Math
