namespace Go.Proofs.YtnjimbgfafkogaaDoor.Math
/-! Walks as lists of steps: true is up. -/
def st (c : Bool) : Int := if c then 1 else -1
/-- The balance after a walk that begins at b. -/
def fin (b : Int) : List Bool → Int
  | [] => b
  | c :: t => fin (b + st c) t
/-- The steps above. -/
def abv (b : Int) : List Bool → Nat
  | [] => 0
  | c :: t => (if b > 0 ∨ b + st c > 0 then 1 else 0) + abv (b + st c) t
/-- No step up from level m. -/
def noUp (m : Int) (b : Int) : List Bool → Prop
  | [] => True
  | c :: t => ¬ (b = m ∧ c = true) ∧ noUp m (b + st c) t
theorem fin_append (q : List Bool) : ∀ (p : List Bool) (b : Int), fin b (p ++ q) = fin (fin b p) q
  | [], _ => rfl
  | c :: t, b => by rw [List.cons_append, fin, fin, fin_append q t]
theorem abv_append (q : List Bool) : ∀ (p : List Bool) (b : Int), abv b (p ++ q) = abv b p + abv (fin b p) q
  | [], _ => by simp [abv, fin]
  | c :: t, b => by rw [List.cons_append, abv, abv, fin, abv_append q t]; omega
theorem noUp_append (m : Int) (q : List Bool) : ∀ (p : List Bool) (b : Int), noUp m b (p ++ q) ↔ noUp m b p ∧ noUp m (fin b p) q
  | [], _ => by simp [noUp, fin]
  | c :: t, b => by rw [List.cons_append, noUp, noUp, fin, noUp_append m q t, and_assoc]
theorem fin_shift (k : Int) : ∀ (p : List Bool) (b : Int), fin (b + k) p = fin b p + k
  | [], _ => rfl
  | c :: t, b => by rw [fin, fin, ← fin_shift k t, show b + k + st c = b + st c + k by omega]
theorem noUp_shift (m k : Int) : ∀ (p : List Bool) (b : Int), noUp (m + k) (b + k) p ↔ noUp m b p
  | [], _ => Iff.rfl
  | c :: t, b => by
    rw [noUp, noUp, ← noUp_shift m k t, show b + k + st c = b + st c + k by omega]
    constructor
    · exact fun h => ⟨fun g => h.1 ⟨by omega, g.2⟩, h.2⟩
    · exact fun h => ⟨fun g => h.1 ⟨by omega, g.2⟩, h.2⟩
theorem st_cases (c : Bool) : (c = true ∧ st c = 1) ∨ (c = false ∧ st c = -1) := by cases c <;> simp [st]
/-- A walk without a step from -1 to 0: shifted up by 1 it has one more step above if it goes below, and none if it starts below and stays. -/
theorem abv_shift : ∀ (p : List Bool) (b : Int), noUp (-1) b p → abv (b + 1) p = abv b p + (if b ≥ 0 ∧ fin b p < 0 then 1 else 0)
  | [], b, _ => by
    have : ¬ (b ≥ 0 ∧ fin b [] < 0) := by rw [fin]; omega
    rw [if_neg this]; rfl
  | c :: t, b, h => by
    rw [noUp] at h
    have ih := abv_shift t (b + st c) h.2
    have hc := st_cases c
    have hlow : b + st c < 0 → fin (b + st c) t < 0 := fun hb => by
      have : ∀ (t : List Bool) (b : Int), b < 0 → noUp (-1) b t → fin b t < 0 := by
        intro t
        induction t with
        | nil => intro b hb _; exact hb
        | cons d t ih2 =>
          intro b hb hn
          rw [noUp] at hn
          rw [fin]
          refine ih2 _ ?_ hn.2
          rcases st_cases d with ⟨h1, h2⟩ | ⟨h1, h2⟩
          · have : ¬ b = -1 := fun e => hn.1 ⟨e, h1⟩
            omega
          · omega
      exact this t _ hb h.2
    rw [abv, abv, fin, show b + 1 + st c = b + st c + 1 by omega, ih]
    have hx : ¬ (b = -1 ∧ st c = 1) := fun g => h.1 ⟨g.1, by rcases hc with h | h; exact h.1; omega⟩
    clear ih h
    obtain ⟨s, hs⟩ : ∃ s, st c = s := ⟨_, rfl⟩
    rw [hs] at hlow hx hc ⊢
    obtain ⟨F, hF⟩ : ∃ F, fin (b + s) t = F := ⟨_, rfl⟩
    obtain ⟨A, hA⟩ : ∃ A, abv (b + s) t = A := ⟨_, rfl⟩
    rw [hF] at hlow ⊢
    rw [hA]
    have hc' : s = 1 ∨ s = -1 := by rcases hc with h | h; exact .inl h.2; exact .inr h.2
    clear hs hF hA hc
    split <;> split <;> split <;> split <;> omega

/-- The exchange: P from 0 to -1 without a step from -1 to 0; then a step up; then Q. -/
theorem exchange_above (P Q : List Bool) (hP : fin 0 P = -1) (hn : noUp (-1) 0 P) (hQ : fin 0 (P ++ true :: Q) = 0) :
    fin 0 (Q ++ true :: P) = 0 ∧ abv 0 (Q ++ true :: P) = abv 0 (P ++ true :: Q) + 2 ∧ fin 0 Q = 0 := by
  have h0 : fin 0 Q = 0 := by
    rw [fin_append, hP, fin] at hQ
    exact hQ
  refine ⟨?_, ?_, h0⟩
  · rw [fin_append, h0, fin]
    have := fin_shift 1 P 0
    rw [hP] at this
    exact this
  · have hs := abv_shift P 0 hn
    rw [hP, if_pos (by omega)] at hs
    rw [abv_append, h0, abv_append, hP, abv, abv]
    rw [show (0 : Int) + st true = 0 + 1 from rfl, hs, show (-1 : Int) + st true = 0 from rfl, if_pos (by omega), if_neg (by omega)]
    omega
/-- Up steps above less down steps above. -/
theorem abv_even : ∀ (p : List Bool) (b : Int), ∃ u : Nat, (abv b p : Int) = 2 * u + max b 0 - max (fin b p) 0
  | [], b => ⟨0, by simp [abv, fin]⟩
  | c :: t, b => by
    obtain ⟨u, hu⟩ := abv_even t (b + st c)
    rw [abv, fin]
    rcases st_cases c with ⟨h1, h2⟩ | ⟨h1, h2⟩
    · rw [h2] at hu ⊢
      by_cases hb : b ≥ 0
      · exact ⟨u + 1, by rw [if_pos (by omega)]; omega⟩
      · exact ⟨u, by rw [if_neg (by omega)]; omega⟩
    · rw [h2] at hu ⊢
      by_cases hb : b ≥ 1
      · exact ⟨u, by rw [if_pos (by omega)]; omega⟩
      · exact ⟨u, by rw [if_neg (by omega)]; omega⟩
theorem abv_le : ∀ (p : List Bool) (b : Int), abv b p ≤ p.length
  | [], _ => Nat.le_refl _
  | c :: t, b => by rw [abv, List.length_cons]; have := abv_le t (b + st c); split <;> omega
/-- Not all steps above: there is a step from -1 to 0 (for a walk that ends at 0 or above). -/
theorem up_exists : ∀ (p : List Bool) (b : Int), (b < 0 ∨ abv b p < p.length) → fin b p ≥ 0 → ¬ noUp (-1) b p
  | [], b, h, hf => by simp [abv, fin] at h hf; omega
  | c :: t, b, h, hf => by
    intro hn
    rw [noUp] at hn
    rw [fin] at hf
    refine up_exists t (b + st c) ?_ hf hn.2
    rcases st_cases c with ⟨h1, h2⟩ | ⟨h1, h2⟩
    · have : ¬ b = -1 := fun e => hn.1 ⟨e, h1⟩
      rw [h2]
      rcases h with h | h
      · left; omega
      · by_cases hb : b < 0
        · left; omega
        · rw [abv, h2, List.length_cons, if_pos (by omega)] at h
          right; omega
    · rw [h2]
      rcases h with h | h
      · left; omega
      · by_cases hb : b ≤ 0
        · left; omega
        · rw [abv, h2, List.length_cons, if_pos (by omega)] at h
          right; omega
/-- A step above: there is a step from 0 to 1 (for a walk that begins at 0 or below). -/
theorem up0_exists : ∀ (p : List Bool) (b : Int), 0 < abv b p → b ≤ 0 → ¬ noUp 0 b p
  | [], b, h, hf => by simp [abv] at h
  | c :: t, b, h, hb => by
    intro hn
    rw [noUp] at hn
    rcases st_cases c with ⟨h1, h2⟩ | ⟨h1, h2⟩
    · have : ¬ b = 0 := fun e => hn.1 ⟨e, h1⟩
      rw [abv, h2, if_neg (by omega)] at h
      rw [h2] at hn
      exact up0_exists t (b + 1) (by omega) (by omega) hn.2
    · rw [abv, h2, if_neg (by omega)] at h
      rw [h2] at hn
      exact up0_exists t (b + -1) (by omega) (by omega) hn.2
end Go.Proofs.YtnjimbgfafkogaaDoor.Math
