import Derived.Test.YtnjimbgfafkogaaDoorMathC
namespace Go.Proofs.YtnjimbgfafkogaaDoor.Math
/-! Walks between two limits. -/
def W (lo hi f : Int) : Nat → Int → Nat
  | 0, b => if b = f ∧ lo ≤ b ∧ b ≤ hi then 1 else 0
  | s + 1, b => if lo ≤ b ∧ b ≤ hi then W lo hi f s (b - 1) + W lo hi f s (b + 1) else 0
theorem W_out (lo hi f : Int) (s : Nat) (b : Int) (h : ¬ (lo ≤ b ∧ b ≤ hi)) : W lo hi f s b = 0 := by
  cases s with
  | zero => rw [W, if_neg (by omega)]
  | succ s => rw [W, if_neg h]
theorem W_from_out (lo hi f : Int) (h : ¬ (lo ≤ f ∧ f ≤ hi)) : ∀ (s : Nat) (b : Int), W lo hi f s b = 0
  | 0, b => by rw [W, if_neg (by omega)]
  | s + 1, b => by rw [W, W_from_out lo hi f h s, W_from_out lo hi f h s]; simp
theorem W_neg (lo hi f : Int) : ∀ (s : Nat) (b : Int), W (-hi) (-lo) (-f) s (-b) = W lo hi f s b
  | 0, b => by
    rw [W, W]
    by_cases h : b = f ∧ lo ≤ b ∧ b ≤ hi
    · rw [if_pos h, if_pos (by omega)]
    · rw [if_neg h, if_neg (by omega)]
  | s + 1, b => by
    rw [W, W]
    by_cases h : lo ≤ b ∧ b ≤ hi
    · rw [if_pos h, if_pos (by omega), show -b - 1 = -(b + 1) by omega, show -b + 1 = -(b - 1) by omega, W_neg lo hi f s, W_neg lo hi f s, Nat.add_comm]
    · rw [if_neg h, if_neg (by omega)]
theorem W_first (lo hi f : Int) : ∀ (s : Nat) (b : Int), W lo hi f (s + 1) b = if lo ≤ f ∧ f ≤ hi then W lo hi (f - 1) s b + W lo hi (f + 1) s b else 0
  | 0, b => by
    rw [W]
    simp only [W]
    by_cases h1 : lo ≤ b ∧ b ≤ hi
    · by_cases h2 : lo ≤ f ∧ f ≤ hi
      · rw [if_pos h1, if_pos h2]
        by_cases e1 : b - 1 = f
        · rw [if_pos (by omega), if_neg (by omega), if_neg (by omega), if_pos (by omega)]
        · by_cases e2 : b + 1 = f
          · rw [if_neg (by omega), if_pos (by omega), if_pos (by omega), if_neg (by omega)]
          · rw [if_neg (by omega), if_neg (by omega), if_neg (by omega), if_neg (by omega)]
      · rw [if_pos h1, if_neg h2, if_neg (by omega), if_neg (by omega)]
    · rw [if_neg h1]
      by_cases h2 : lo ≤ f ∧ f ≤ hi
      · rw [if_pos h2, if_neg (by omega), if_neg (by omega)]
      · rw [if_neg h2]
  | s + 1, b => by
    rw [W]
    by_cases h1 : lo ≤ b ∧ b ≤ hi
    · rw [if_pos h1, W_first lo hi f s, W_first lo hi f s]
      by_cases h2 : lo ≤ f ∧ f ≤ hi
      · rw [if_pos h2, if_pos h2, if_pos h2]
        conv => rhs; rw [W, W, if_pos h1, if_pos h1]
        omega
      · rw [if_neg h2, if_neg h2, if_neg h2]
    · rw [if_neg h1, W_out lo hi _ _ _ h1, W_out lo hi _ _ _ h1]; simp
theorem W_back (lo hi : Int) : ∀ (s : Nat) (f t : Int), W lo hi f s t = W lo hi t s f
  | 0, f, t => by
    rw [W, W]
    by_cases e : t = f
    · subst e; rfl
    · rw [if_neg (by omega), if_neg (by omega)]
  | s + 1, f, t => by rw [W_first, W, W_back lo hi s (f - 1) t, W_back lo hi s (f + 1) t]
/-- Walks without limits. -/
def V : Nat → Int → Nat
  | 0, d => if d = 0 then 1 else 0
  | s + 1, d => V s (d - 1) + V s (d + 1)
theorem V_far : ∀ (s : Nat) (d : Int), (d > s ∨ d < -s) → V s d = 0
  | 0, d, h => by rw [V, if_neg (by omega)]
  | s + 1, d, h => by rw [V, V_far s _ (by omega), V_far s _ (by omega)]
theorem V_neg : ∀ (s : Nat) (d : Int), V s (-d) = V s d
  | 0, d => by
    rw [V, V]
    by_cases h : d = 0
    · subst h; rfl
    · rw [if_neg (by omega), if_neg h]
  | s + 1, d => by rw [V, V, show -d - 1 = -(d + 1) by omega, show -d + 1 = -(d - 1) by omega, V_neg s, V_neg s]; omega
theorem V_choose : ∀ (s k : Nat), V s (2 * (k : Int) - s) = C s k
  | 0, 0 => by simp [V, C]
  | 0, k + 1 => by rw [V, if_neg (by omega)]; rfl
  | s + 1, 0 => by
    have := V_choose s 0
    rw [C_zero] at this ⊢
    rw [V, V_far s _ (by omega), show 2 * ((0 : Nat) : Int) - ((s + 1 : Nat) : Int) + 1 = 2 * ((0 : Nat) : Int) - s by omega, this]
  | s + 1, k + 1 => by
    rw [V, C_succ, ← V_choose s k, ← V_choose s (k + 1)]
    rw [show 2 * ((k + 1 : Nat) : Int) - ((s + 1 : Nat) : Int) - 1 = 2 * (k : Int) - s by omega, show 2 * ((k + 1 : Nat) : Int) - ((s + 1 : Nat) : Int) + 1 = 2 * ((k + 1 : Nat) : Int) - s by omega]
theorem V_odd : ∀ (s : Nat) (d : Int), (s + d) % 2 ≠ 0 → V s d = 0
  | 0, d, h => by rw [V, if_neg (by omega)]
  | s + 1, d, h => by rw [V, V_odd s _ (by omega), V_odd s _ (by omega)]
theorem V_small (s : Nat) (d : Int) (h : s ≤ 60) : V s d ≤ 118264581564861424 := by
  by_cases hp : (s + d) % 2 = 0
  · by_cases hd : d < -s
    · rw [V_far s d (.inr hd)]; omega
    · have := V_choose s ((s + d) / 2).toNat
      rw [show 2 * ((((s + d) / 2).toNat : Nat) : Int) - s = d by omega] at this
      rw [this]; exact C_small _ _ h
  · rw [V_odd s d hp]; omega
theorem W_le_V (lo hi f : Int) : ∀ (s : Nat) (b : Int), W lo hi f s b ≤ V s (b - f)
  | 0, b => by
    rw [W, V]
    by_cases h : b = f
    · rw [if_pos (show b - f = 0 by omega)]; split <;> omega
    · rw [if_neg (by omega)]; omega
  | s + 1, b => by
    have h1 := W_le_V lo hi f s (b - 1)
    have h2 := W_le_V lo hi f s (b + 1)
    rw [W, V, show b - f - 1 = b - 1 - f by omega, show b - f + 1 = b + 1 - f by omega]
    split <;> omega
/-- A lower limit alone: the end reflected just below it. -/
theorem W_reflect (lo hi f : Int) (hf : lo ≤ f) : ∀ (s : Nat), f + s ≤ hi → ∀ t, lo - 1 ≤ t → W lo hi f s t + V s (2 * (lo - 1) - t - f) = V s (t - f)
  | 0, hs, t, ht => by
    rw [W, V, V, if_neg (c := 2 * (lo - 1) - t - f = 0) (by omega)]
    by_cases h : t = f
    · rw [if_pos (by omega), if_pos (by omega)]
    · rw [if_neg (by omega), if_neg (by omega)]
  | s + 1, hs, t, ht => by
    by_cases h1 : t = lo - 1
    · subst h1
      rw [W_out _ _ _ _ _ (by omega), show 2 * (lo - 1) - (lo - 1) - f = lo - 1 - f by omega]; omega
    · by_cases h2 : t ≤ hi
      · have i1 := W_reflect lo hi f hf s (by omega) (t - 1) (by omega)
        have i2 := W_reflect lo hi f hf s (by omega) (t + 1) (by omega)
        rw [W, if_pos (by omega), V, V]
        rw [show 2 * (lo - 1) - t - f - 1 = 2 * (lo - 1) - (t + 1) - f by omega, show 2 * (lo - 1) - t - f + 1 = 2 * (lo - 1) - (t - 1) - f by omega, show t - f - 1 = t - 1 - f by omega, show t - f + 1 = t + 1 - f by omega]
        omega
      · rw [W_out _ _ _ _ _ (by omega), V_far _ _ (by omega), V_far _ _ (by omega)]
end Go.Proofs.YtnjimbgfafkogaaDoor.Math
