namespace Go.Proofs.YtnjimbgfafkogaaDoor.Math
/-! Binomial numbers; the ballot numbers. -/
def C : Nat → Nat → Nat
  | _, 0 => 1
  | 0, _ + 1 => 0
  | n + 1, k + 1 => C n k + C n (k + 1)
theorem C_zero (n : Nat) : C n 0 = 1 := by cases n <;> rfl
theorem C_succ (n k : Nat) : C (n + 1) (k + 1) = C n k + C n (k + 1) := rfl
theorem C_big : ∀ n k, n < k → C n k = 0
  | 0, k + 1, _ => rfl
  | n + 1, k + 1, h => by rw [C_succ, C_big n k (by omega), C_big n (k + 1) (by omega)]
theorem C_self : ∀ n, C n n = 1
  | 0 => rfl
  | n + 1 => by rw [C_succ, C_self n, C_big n (n + 1) (by omega)]
/-- (k + 1) C(n + 1, k + 1) = (n + 1) C(n, k) -/
theorem C_absorb : ∀ n k, (k + 1) * C (n + 1) (k + 1) = (n + 1) * C n k
  | 0, 0 => rfl
  | 0, k + 1 => by rw [C_succ]; simp [C]
  | n + 1, 0 => by
    have := C_absorb n 0
    simp only [C_succ, C_zero, Nat.zero_add, Nat.one_mul, Nat.mul_one] at this ⊢
    omega
  | n + 1, k + 1 => by
    have h1 := C_absorb n k
    have h2 := C_absorb n (k + 1)
    rw [C_succ (n + 1) (k + 1)]
    have h3 := C_succ n k
    grind
/-- (n + 1 - k) C(n + 1, k) = (n + 1) C(n, k) -/
theorem C_absorb' (n k : Nat) (h : k ≤ n) : (n + 1 - k) * C (n + 1) k = (n + 1) * C n k := by
  cases k with
  | zero => rw [C_zero, C_zero]; rfl
  | succ k =>
    have h1 := C_absorb n k
    have h2 := C_succ n k
    obtain ⟨d, rfl⟩ : ∃ d, n = k + 1 + d := ⟨n - (k + 1), by omega⟩
    rw [show k + 1 + d + 1 - (k + 1) = d + 1 by omega]
    grind
/-- The next of a row: (k + 1) C(n, k + 1) = (n - k) C(n, k). -/
theorem C_next (n k : Nat) (h : k ≤ n) : (k + 1) * C n (k + 1) = (n - k) * C n k := by
  have h1 := C_absorb n k
  rw [C_succ] at h1
  obtain ⟨d, rfl⟩ : ∃ d, n = k + d := ⟨n - k, by omega⟩
  rw [show k + d - k = d by omega]
  grind
/-- A row, for evaluation. -/
def crow : Nat → List Nat
  | 0 => [1]
  | n + 1 => List.zipWith (· + ·) (0 :: crow n) (crow n ++ [0])
theorem crow_length : ∀ n, (crow n).length = n + 1
  | 0 => rfl
  | n + 1 => by rw [crow, List.length_zipWith, List.length_cons, List.length_append, crow_length n]; simp
theorem crow_get : ∀ n k, (crow n).getD k 0 = C n k
  | 0, 0 => rfl
  | 0, k + 1 => by simp [crow, C]
  | n + 1, k => by
    rw [crow]
    by_cases h : k ≤ n + 1
    · have hl := crow_length n
      rw [List.getD_eq_getElem?_getD, List.getElem?_zipWith]
      cases k with
      | zero =>
        rw [C_zero]
        have h0 := crow_get n 0
        rw [C_zero, List.getD_eq_getElem?_getD] at h0
        rw [List.getElem?_append_left (by omega)]
        cases hx : (crow n)[0]? with
        | none => rw [hx] at h0; simp at h0
        | some v => rw [hx] at h0; simpa using h0
      | succ k =>
        rw [C_succ]
        have h0 := crow_get n k
        rw [List.getD_eq_getElem?_getD] at h0
        have h1 := crow_get n (k + 1)
        rw [List.getD_eq_getElem?_getD] at h1
        rw [List.getElem?_cons_succ]
        have hk : k < (crow n).length := by omega
        rw [List.getElem?_eq_getElem hk] at h0 ⊢
        by_cases e : k + 1 < (crow n).length
        · rw [List.getElem?_append_left e]
          rw [List.getElem?_eq_getElem e] at h1 ⊢
          simp at h0 h1 ⊢
          omega
        · obtain rfl : k = n := by omega
          rw [List.getElem?_append_right (by omega), hl]
          rw [C_big k (k + 1) (by omega)]
          simp at h0 ⊢
          exact h0
    · rw [C_big _ _ (by omega), List.getD_eq_getElem?_getD, List.getElem?_eq_none]
      · rfl
      · rw [List.length_zipWith, List.length_cons, List.length_append, crow_length n]; simp; omega
theorem crow_small : (List.range 61).all (fun n => (crow n).all (· ≤ 118264581564861424)) = true := by decide +kernel
theorem C_small (n k : Nat) (h : n ≤ 60) : C n k ≤ 118264581564861424 := by
  have h1 := crow_small
  rw [List.all_eq_true] at h1
  have h2 := h1 n (List.mem_range.2 (by omega))
  rw [List.all_eq_true] at h2
  rw [← crow_get, List.getD_eq_getElem?_getD]
  cases hx : (crow n)[k]? with
  | none => simp
  | some v => exact of_decide_eq_true (h2 v (List.mem_of_getElem? hx))

/-- Vote by vote. -/
def bal (t : Nat) : Nat → Nat → Nat
  | 0, 0 => 1
  | 0, _ + 1 => 0
  | x + 1, 0 => bal t x 0
  | x + 1, y + 1 => if t * (y + 1) < x + 1 then bal t x (y + 1) + bal t (x + 1) y else 0
termination_by x y => x + y
theorem bal_low (t x y : Nat) (h : x ≤ t * y) (hn : 0 < x + y) : bal t x y = 0 := by
  cases x with
  | zero =>
    cases y with
    | zero => omega
    | succ y => rw [bal]
  | succ x =>
    cases y with
    | zero => simp at h
    | succ y => rw [bal, if_neg (by omega)]
theorem bal_formula (t : Nat) (n : Nat) : ∀ x y, x + y = n → 0 < n → t * y ≤ x → n * bal t x y = (x - t * y) * C n y := by
  induction n with
  | zero => intro x y _ h; omega
  | succ n ih =>
    intro x y hxy _ hle
    by_cases h : x ≤ t * y
    · rw [bal_low t x y h (by omega), show x - t * y = 0 by omega]; simp
    · cases x with
      | zero => omega
      | succ x =>
        cases y with
        | zero =>
          rw [bal, C_zero]
          cases n with
          | zero => obtain rfl : x = 0 := by omega
                    rw [bal]; simp
          | succ n =>
            have := ih x 0 (by omega) (by omega) (by omega)
            rw [C_zero] at this
            have hx : x = n + 1 := by omega
            subst hx
            have e : bal t (n + 1) 0 = 1 := Nat.eq_of_mul_eq_mul_left (Nat.succ_pos n) (by simpa using this)
            rw [e]; omega
        | succ y =>
          rw [bal, if_pos (by omega)]
          have hn : 0 < n := by omega
          have i1 := ih x (y + 1) (by omega) hn (by omega)
          have hm : t * (y + 1) = t * y + t := by rw [Nat.mul_succ]
          have i2 := ih (x + 1) y (by omega) hn (by omega)
          have c1 := C_absorb n y
          have c2 := C_absorb' n (y + 1) (by omega)
          rw [show n + 1 - (y + 1) = x + 1 by omega] at c2
          obtain ⟨d, hd⟩ : ∃ d, x + 1 = t * y + t + 1 + d := ⟨x + 1 - (t * y + t + 1), by omega⟩
          rw [show x - t * (y + 1) = d by omega] at i1
          rw [show x + 1 - t * y = d + 1 + t by omega] at i2
          rw [show x + 1 - t * (y + 1) = d + 1 by omega]
          generalize bal t x (y + 1) = A at *
          generalize bal t (x + 1) y = B at *
          generalize C (n + 1) (y + 1) = D at *
          generalize C n (y + 1) = E at *
          generalize C n y = F at *
          have hnn : n = x + 1 + y := by omega
          -- n (n + 1) (A + B) = (n + 1) (d E + (d + 1 + t) F) = d (x + 1) D + (d + 1 + t) (y + 1) D = n (d + 1) D
          refine Nat.eq_of_mul_eq_mul_left hn ?_
          have e1 : n * ((n + 1) * (A + B)) = (n + 1) * (n * A) + (n + 1) * (n * B) := by grind
          have e2 : (n + 1) * (d * E) = d * ((x + 1) * D) := by rw [c2]; grind
          have e3 : (n + 1) * ((d + 1 + t) * F) = (d + 1 + t) * ((y + 1) * D) := by rw [c1]; grind
          rw [e1, i1, i2, e2, e3]
          have e4 : d * (x + 1) + (d + 1 + t) * (y + 1) = n * (d + 1) := by
            rw [hnn]
            have : x = t * y + t + d := by omega
            subst this
            grind
          rw [← Nat.mul_assoc, ← Nat.mul_assoc, ← Nat.add_mul, e4, Nat.mul_assoc]
end Go.Proofs.YtnjimbgfafkogaaDoor.Math
