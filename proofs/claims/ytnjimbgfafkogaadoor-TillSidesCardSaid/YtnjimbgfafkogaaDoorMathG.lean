import Derived.Test.YtnjimbgfafkogaaDoorMathC
namespace Go.Proofs.YtnjimbgfafkogaaDoor.Math
/-! How many walks of s steps end at b and have k steps above: the table, and its sums by packed numbers. -/
def A : Nat → Int → Nat → Nat
  | 0, b, k => if b = 0 ∧ k = 0 then 1 else 0
  | s + 1, b, k =>
    (if b > 0 then (if k = 0 then 0 else A s (b - 1) (k - 1)) else A s (b - 1) k) +
    (if b ≥ 0 then (if k = 0 then 0 else A s (b + 1) (k - 1)) else A s (b + 1) k)
theorem A_le (s : Nat) : ∀ b k, A s b k ≤ 2 ^ s := by
  induction s with
  | zero => intro b k; rw [A]; split <;> omega
  | succ s ih =>
    intro b k
    have h1 := ih (b - 1) (k - 1)
    have h2 := ih (b - 1) k
    have h3 := ih (b + 1) (k - 1)
    have h4 := ih (b + 1) k
    have : 2 ^ (s + 1) = 2 * 2 ^ s := by rw [Nat.pow_succ, Nat.mul_comm]
    rw [A]
    have e1 : (if b > 0 then (if k = 0 then 0 else A s (b - 1) (k - 1)) else A s (b - 1) k) ≤ 2 ^ s := by
      split
      · split <;> omega
      · exact h2
    have e2 : (if b ≥ 0 then (if k = 0 then 0 else A s (b + 1) (k - 1)) else A s (b + 1) k) ≤ 2 ^ s := by
      split
      · split <;> omega
      · exact h4
    omega
/-- Out of reach there are none. -/
theorem A_zero (s : Nat) : ∀ (b : Int) (k : Nat), (b > s ∨ b < -(s : Int) ∨ s < k) → A s b k = 0 := by
  induction s with
  | zero => intro b k h; rw [A, if_neg (by omega)]
  | succ s ih =>
    intro b k h
    rw [A]
    have e1 : (if b > 0 then (if k = 0 then 0 else A s (b - 1) (k - 1)) else A s (b - 1) k) = 0 := by
      split
      · split
        · rfl
        · exact ih _ _ (by omega)
      · exact ih _ _ (by omega)
    have e2 : (if b ≥ 0 then (if k = 0 then 0 else A s (b + 1) (k - 1)) else A s (b + 1) k) = 0 := by
      split
      · split
        · rfl
        · exact ih _ _ (by omega)
      · exact ih _ _ (by omega)
    omega
/-- A number out of digits. -/
def pack (B : Nat) (f : Nat → Nat) : Nat → Nat
  | 0 => 0
  | n + 1 => f 0 + B * pack B (fun i => f (i + 1)) n
theorem pack_congr (B n : Nat) : ∀ f g : Nat → Nat, (∀ i, i < n → f i = g i) → pack B f n = pack B g n := by
  induction n with
  | zero => intro f g _; rfl
  | succ n ih =>
    intro f g h
    rw [pack, pack, h 0 (by omega), ih _ (fun i => g (i + 1)) (fun i hi => h (i + 1) (by omega))]
theorem pack_add (B n : Nat) : ∀ f g : Nat → Nat, pack B (fun i => f i + g i) n = pack B f n + pack B g n := by
  induction n with
  | zero => intro f g; rfl
  | succ n ih =>
    intro f g
    rw [pack, pack, pack, ih (fun i => f (i + 1)) (fun i => g (i + 1)), Nat.mul_add]; omega
theorem pack_mul (B c n : Nat) : ∀ f : Nat → Nat, pack B (fun i => c * f i) n = c * pack B f n := by
  induction n with
  | zero => intro f; rfl
  | succ n ih =>
    intro f
    rw [pack, pack, ih (fun i => f (i + 1)), Nat.mul_add, Nat.mul_left_comm]
/-- A last digit of 0 may be left out. -/
theorem pack_last (B n : Nat) : ∀ f : Nat → Nat, f n = 0 → pack B f (n + 1) = pack B f n := by
  induction n with
  | zero => intro f h; rw [pack, pack, pack, h]; omega
  | succ n ih =>
    intro f h
    rw [pack, ih (fun i => f (i + 1)) h]; rfl
theorem pack_lt (B n : Nat) : ∀ f : Nat → Nat, (∀ i, i < n → f i < B) → pack B f n < B ^ n := by
  induction n with
  | zero => intro f _; rw [pack]; exact Nat.one_pos
  | succ n ih =>
    intro f h
    have h0 := h 0 (by omega)
    have h1 := ih (fun i => f (i + 1)) (fun i hi => h (i + 1) (by omega))
    rw [pack, Nat.pow_succ, Nat.mul_comm (B ^ n)]
    calc f 0 + B * pack B (fun i => f (i + 1)) n < B + B * pack B (fun i => f (i + 1)) n := by omega
      _ = B * (pack B (fun i => f (i + 1)) n + 1) := by rw [Nat.mul_add]; omega
      _ ≤ B * B ^ n := Nat.mul_le_mul_left _ h1
theorem pack_mod (B n : Nat) (f : Nat → Nat) (h : f 0 < B) : pack B f (n + 1) % B = f 0 := by
  rw [pack, Nat.add_mul_mod_self_left, Nat.mod_eq_of_lt h]
theorem pack_div (B n : Nat) (f : Nat → Nat) (h : f 0 < B) : pack B f (n + 1) / B = pack B (fun i => f (i + 1)) n := by
  rw [pack, Nat.add_mul_div_left _ _ (by omega), Nat.div_eq_of_lt h, Nat.zero_add]
/-- The k-th digit. -/
def dig (B P : Nat) : Nat → Nat
  | 0 => P % B
  | k + 1 => dig B (P / B) k
theorem dig_pack (B : Nat) : ∀ (k n : Nat) (f : Nat → Nat), k < n → (∀ i, i < n → f i < B) → dig B (pack B f n) k = f k
  | 0, n + 1, f, _, h => pack_mod B n f (h 0 (by omega))
  | k + 1, n + 1, f, hk, h => by
    rw [dig, pack_div B n f (h 0 (by omega))]
    exact dig_pack B k n (fun i => f (i + 1)) (by omega) (fun i hi => h (i + 1) (by omega))
/-- The sum of the digits. -/
def dsum (B : Nat) : Nat → Nat → Nat
  | _, 0 => 0
  | P, n + 1 => P % B + dsum B (P / B) n
def fsum (f : Nat → Nat) : Nat → Nat
  | 0 => 0
  | n + 1 => f 0 + fsum (fun i => f (i + 1)) n
theorem dsum_pack (B : Nat) : ∀ (n : Nat) (f : Nat → Nat), (∀ i, i < n → f i < B) → dsum B (pack B f n) n = fsum f n
  | 0, _, _ => rfl
  | n + 1, f, h => by
    rw [dsum, pack_mod B n f (h 0 (by omega)), pack_div B n f (h 0 (by omega)), fsum, dsum_pack B n (fun i => f (i + 1)) (fun i hi => h (i + 1) (by omega))]
theorem pack_shift (B n : Nat) (f : Nat → Nat) (h : f n = 0) : pack B (fun k => if k = 0 then 0 else f (k - 1)) (n + 1) = B * pack B f (n + 1) := by
  rw [pack_last B n f h, pack, if_pos rfl, Nat.zero_add]
  congr 1
theorem pack_zero (B n : Nat) : ∀ f : Nat → Nat, (∀ i, i < n → f i = 0) → pack B f n = 0 := by
  induction n with
  | zero => intro f _; rfl
  | succ n ih =>
    intro f h
    rw [pack, h 0 (by omega), ih (fun i => f (i + 1)) (fun i hi => h (i + 1) (by omega))]; omega
def BB : Nat := 2 ^ 70
def CC : Nat := BB ^ 61
def pp (s : Nat) (b : Int) : Nat := pack BB (A s b) 61
theorem A_lt (s : Nat) (hs : s ≤ 60) (b : Int) (k : Nat) : A s b k < BB :=
  Nat.lt_of_le_of_lt (A_le s b k) (Nat.lt_of_le_of_lt (Nat.pow_le_pow_right (by omega) hs) (by decide))
theorem pp_lt (s : Nat) (hs : s ≤ 60) (b : Int) : pp s b < CC := pack_lt BB 61 _ fun k _ => A_lt s hs b k
theorem pp_zero (s : Nat) (b : Int) (h : b > s ∨ b < -(s : Int)) : pp s b = 0 := pack_zero _ _ _ fun k _ => A_zero s b k (by omega)
theorem pp_succ (s : Nat) (hs : s < 60) (b : Int) : pp (s + 1) b = (if b > 0 then BB * pp s (b - 1) else pp s (b - 1)) + (if b ≥ 0 then BB * pp s (b + 1) else pp s (b + 1)) := by
  have h0 : ∀ c, A s c 60 = 0 := fun c => A_zero s c 60 (by omega)
  have e : pp (s + 1) b = pack BB (fun k => (if b > 0 then (if k = 0 then 0 else A s (b - 1) (k - 1)) else A s (b - 1) k)) 61 + pack BB (fun k => (if b ≥ 0 then (if k = 0 then 0 else A s (b + 1) (k - 1)) else A s (b + 1) k)) 61 := by
    rw [← pack_add]
    exact pack_congr _ _ _ _ fun k _ => by rw [A]
  have e1 : pack BB (fun k => (if b > 0 then (if k = 0 then 0 else A s (b - 1) (k - 1)) else A s (b - 1) k)) 61 = if b > 0 then BB * pp s (b - 1) else pp s (b - 1) := by
    by_cases c : b > 0
    · simp only [if_pos c]; exact pack_shift BB 60 _ (h0 _)
    · simp only [if_neg c]; rfl
  have e2 : pack BB (fun k => (if b ≥ 0 then (if k = 0 then 0 else A s (b + 1) (k - 1)) else A s (b + 1) k)) 61 = if b ≥ 0 then BB * pp s (b + 1) else pp s (b + 1) := by
    by_cases c : b ≥ 0
    · simp only [if_pos c]; exact pack_shift BB 60 _ (h0 _)
    · simp only [if_neg c]; rfl
  rw [e, e1, e2]
def sH (s : Nat) : Nat := pack CC (fun i => pp s ((i : Int) + 1)) 61
def sL (s : Nat) : Nat := pack CC (fun i => pp s (-((i : Int) + 1))) 61
theorem sH_mod (s : Nat) (hs : s ≤ 60) : sH s % CC = pp s 1 := pack_mod CC 60 _ (pp_lt s hs _)
theorem sL_mod (s : Nat) (hs : s ≤ 60) : sL s % CC = pp s (-1) := pack_mod CC 60 _ (pp_lt s hs _)
theorem sH_div (s : Nat) (hs : s < 60) : sH s / CC = pack CC (fun i => pp s ((i : Int) + 2)) 61 := by
  have h1 := pack_div CC 60 (fun i => pp s ((i : Int) + 1)) (pp_lt s (by omega) _)
  have h2 := pack_last CC 60 (fun i => pp s ((i : Int) + 2)) (pp_zero s _ (by omega))
  exact h1.trans ((pack_congr _ _ _ _ fun i _ => congrArg (pp s) (by omega)).trans h2.symm)
theorem sL_div (s : Nat) (hs : s < 60) : sL s / CC = pack CC (fun i => pp s (-((i : Int) + 2))) 61 := by
  have h1 := pack_div CC 60 (fun i => pp s (-((i : Int) + 1))) (pp_lt s (by omega) _)
  have h2 := pack_last CC 60 (fun i => pp s (-((i : Int) + 2))) (pp_zero s _ (by omega))
  exact h1.trans ((pack_congr _ _ _ _ fun i _ => congrArg (pp s) (by omega)).trans h2.symm)
theorem sH_up (s : Nat) (hs : s < 60) : pack CC (fun i => pp s (i : Int)) 61 = pp s 0 + CC * sH s := by
  unfold sH
  rw [pack_last CC 60 (fun i => pp s ((i : Int) + 1)) (pp_zero s _ (by omega)), pack]
  rfl
theorem sL_up (s : Nat) (hs : s < 60) : pack CC (fun i => pp s (-(i : Int))) 61 = pp s 0 + CC * sL s := by
  unfold sL
  rw [pack_last CC 60 (fun i => pp s (-((i : Int) + 1))) (pp_zero s _ (by omega)), pack]
  rfl
theorem sH_succ (s : Nat) (hs : s < 60) : sH (s + 1) = BB * (pp s 0 + CC * sH s) + BB * (sH s / CC) := by
  rw [sH_div s hs, ← sH_up s hs, ← pack_mul, ← pack_mul, ← pack_add]
  exact pack_congr _ _ _ _ fun i _ => by
    rw [pp_succ s hs, if_pos (by omega), if_pos (by omega), show (i : Int) + 1 - 1 = (i : Int) by omega, show (i : Int) + 1 + 1 = (i : Int) + 2 by omega]
theorem sL_succ (s : Nat) (hs : s < 60) : sL (s + 1) = sL s / CC + (pp s 0 + CC * sL s) := by
  rw [sL_div s hs, ← sL_up s hs, ← pack_add]
  exact pack_congr _ _ _ _ fun i _ => by
    rw [pp_succ s hs, if_neg (by omega), if_neg (by omega), show -((i : Int) + 1) - 1 = -((i : Int) + 2) by omega, show -((i : Int) + 1) + 1 = -(i : Int) by omega]
theorem sZ_succ (s : Nat) (hs : s < 60) : pp (s + 1) 0 = sL s % CC + BB * (sH s % CC) := by
  rw [sH_mod s (by omega), sL_mod s (by omega), pp_succ s hs, if_neg (by omega), if_pos (by omega)]
  rfl
/-- The three numbers. -/
def trio : Nat → Nat × Nat × Nat
  | 0 => (0, 1, 0)
  | s + 1 => (BB * ((trio s).2.1 + CC * (trio s).1) + BB * ((trio s).1 / CC), (trio s).2.2 % CC + BB * ((trio s).1 % CC), (trio s).2.2 / CC + ((trio s).2.1 + CC * (trio s).2.2))
theorem trio_eq (s : Nat) (hs : s ≤ 60) : trio s = (sH s, pp s 0, sL s) := by
  induction s with
  | zero =>
    have h1 : sH 0 = 0 := pack_zero _ _ _ fun i _ => pp_zero 0 _ (by omega)
    have h2 : sL 0 = 0 := pack_zero _ _ _ fun i _ => pp_zero 0 _ (by omega)
    have h3 : pp 0 0 = 1 := by
      unfold pp
      rw [pack, pack_zero _ _ _ fun i _ => A_zero 0 0 _ (by omega), A, if_pos ⟨rfl, rfl⟩]; omega
    rw [h1, h2, h3]; rfl
  | succ s ih =>
    rw [trio, ih (by omega), sH_succ s (by omega), sL_succ s (by omega), sZ_succ s (by omega)]

/-- Sums upwards. -/
def usum (g : Nat → Nat) : Nat → Nat
  | 0 => 0
  | m + 1 => usum g m + g m
theorem usum_front (g : Nat → Nat) (m : Nat) : usum g (m + 1) = g 0 + usum (fun i => g (i + 1)) m := by
  induction m with
  | zero => simp [usum]
  | succ m ih => rw [usum, ih, usum]; omega
theorem fsum_usum : ∀ (m : Nat) (g : Nat → Nat), fsum g m = usum g m
  | 0, _ => rfl
  | m + 1, g => by rw [fsum, usum_front, fsum_usum m]
theorem usum_congr {f g : Nat → Nat} : ∀ {m : Nat}, (∀ i, i < m → f i = g i) → usum f m = usum g m
  | 0, _ => rfl
  | m + 1, h => by rw [usum, usum, h m (by omega), usum_congr (m := m) fun i hi => h i (by omega)]
theorem usum_append (g : Nat → Nat) (a : Nat) : ∀ b, usum g (a + b) = usum g a + usum (fun i => g (a + i)) b
  | 0 => rfl
  | b + 1 => by rw [← Nat.add_assoc, usum, usum_append g a b, usum]; omega
theorem usum_zero {g : Nat → Nat} : ∀ {m : Nat}, (∀ i, i < m → g i = 0) → usum g m = 0
  | 0, _ => rfl
  | m + 1, h => by rw [usum, usum_zero (m := m) fun i hi => h i (by omega), h m (by omega)]
theorem usum_rev (m : Nat) : ∀ g : Nat → Nat, usum (fun i => g (m - 1 - i)) m = usum g m := by
  induction m with
  | zero => intro g; rfl
  | succ m ih =>
    intro g
    rw [usum_front, usum, Nat.add_comm]
    congr 1
    rw [← ih g]
    exact usum_congr fun i hi => by congr 1; omega
theorem usum_le {g : Nat → Nat} {c : Nat} : ∀ {m : Nat}, (∀ i, i < m → g i ≤ c) → usum g m ≤ m * c
  | 0, _ => Nat.zero_le _
  | m + 1, h => by
    have h1 := usum_le (m := m) fun i hi => h i (by omega)
    have h2 := h m (by omega)
    rw [usum, Nat.add_mul]; omega
theorem usum_mono (g : Nat → Nat) {a b : Nat} (h : a ≤ b) : usum g a ≤ usum g b := by
  obtain ⟨c, rfl⟩ : ∃ c, b = a + c := ⟨b - a, by omega⟩
  rw [usum_append]; omega
theorem usum_pack (B n : Nat) (g : Nat → Nat → Nat) : ∀ m, usum (fun i => pack B (g i) n) m = pack B (fun k => usum (fun i => g i k) m) n
  | 0 => (pack_zero _ _ _ fun _ _ => rfl).symm
  | m + 1 => by
    rw [usum, usum_pack B n g m, ← pack_add]; rfl
def tot (s : Nat) : Nat := dsum CC (trio s).1 61 + (trio s).2.1 + dsum CC (trio s).2.2 61
/-- Over all balances. -/
def tsum (s j : Nat) : Nat := usum (fun i => A s ((i : Int) + 1) j) 61 + A s 0 j + usum (fun i => A s (-((i : Int) + 1)) j) 61
theorem tot_eq (s : Nat) (hs : s ≤ 60) : tot s = pack BB (tsum s) 61 := by
  unfold tot
  rw [trio_eq s hs]
  have h1 : dsum CC (sH s) 61 = fsum (fun i => pp s ((i : Int) + 1)) 61 := dsum_pack CC 61 _ fun i _ => pp_lt s hs _
  have h2 : dsum CC (sL s) 61 = fsum (fun i => pp s (-((i : Int) + 1))) 61 := dsum_pack CC 61 _ fun i _ => pp_lt s hs _
  show dsum CC (sH s) 61 + pp s 0 + dsum CC (sL s) 61 = _
  rw [h1, h2, fsum_usum, fsum_usum]
  have e1 := usum_pack BB 61 (fun i => A s ((i : Int) + 1)) 61
  have e2 := usum_pack BB 61 (fun i => A s (-((i : Int) + 1))) 61
  refine (congr (congrArg HAdd.hAdd (congr (congrArg HAdd.hAdd e1) rfl)) e2).trans ?_
  show pack BB _ 61 + pack BB (A s 0) 61 + pack BB _ 61 = _
  rw [← pack_add, ← pack_add]; rfl
theorem tsum_lt (s : Nat) (hs : s ≤ 60) (j : Nat) : tsum s j < BB := by
  have h1 := usum_le (g := fun i => A s ((i : Int) + 1) j) (c := 2 ^ s) (m := 61) fun i _ => A_le s _ _
  have h2 := A_le s 0 j
  have h3 := usum_le (g := fun i => A s (-((i : Int) + 1)) j) (c := 2 ^ s) (m := 61) fun i _ => A_le s _ _
  have h4 : (2 : Nat) ^ s ≤ 2 ^ 60 := Nat.pow_le_pow_right (by omega) hs
  have h5 : (2 : Nat) ^ 60 = 1152921504606846976 := by decide
  have h6 : BB = 1180591620717411303424 := by decide
  rw [h6]
  unfold tsum
  omega
theorem dig_tot (s j : Nat) (hs : s ≤ 60) (hj : j ≤ 60) : dig BB (tot s) j = tsum s j := by
  rw [tot_eq s hs]
  exact dig_pack BB j 61 _ (by omega) fun i _ => tsum_lt s hs i
/-- Over the places of a table of 2 m + 1 balances, m steps at most. -/
theorem usum_tsum (s m j : Nat) (hs : s ≤ m) (hm : m ≤ 60) : usum (fun x => A s ((x : Int) - m) j) (2 * m + 1) = tsum s j := by
  have h1 : usum (fun i => A s ((i : Int) + 1) j) 61 = usum (fun i => A s ((i : Int) + 1) j) m := by
    obtain ⟨c, hc⟩ : ∃ c, 61 = m + c := ⟨61 - m, by omega⟩
    rw [hc, usum_append, usum_zero (m := c) fun i hi => A_zero s _ _ (by omega)]; omega
  have h2 : usum (fun i => A s (-((i : Int) + 1)) j) 61 = usum (fun i => A s (-((i : Int) + 1)) j) m := by
    obtain ⟨c, hc⟩ : ∃ c, 61 = m + c := ⟨61 - m, by omega⟩
    rw [hc, usum_append, usum_zero (m := c) fun i hi => A_zero s _ _ (by omega)]; omega
  unfold tsum
  rw [h1, h2, show 2 * m + 1 = (m + 1) + m by omega, usum_append, usum]
  have e1 : usum (fun x => A s ((x : Int) - m) j) m = usum (fun i => A s (-((i : Int) + 1)) j) m := by
    rw [← usum_rev m (fun i => A s (-((i : Int) + 1)) j)]
    exact usum_congr fun i hi => congrArg (fun b => A s b j) (by omega)
  have e2 : usum (fun i => A s (((m + 1 + i : Nat) : Int) - m) j) m = usum (fun i => A s ((i : Int) + 1) j) m := usum_congr fun i _ => congrArg (fun b => A s b j) (by omega)
  rw [e1, e2, show ((m : Int) - m) = 0 by omega]
  omega
/-! The reference's table in the middle of a round: what the places before (x, k, d) have brought. m: the place of balance 0. -/
def before (x' k' d' x k d : Nat) : Prop := x' < x ∨ x' = x ∧ (k' < k ∨ k' = k ∧ d' < d)
instance (x' k' d' x k d : Nat) : Decidable (before x' k' d' x k d) := by unfold before; infer_instance
def upK (m y j : Nat) : Nat := if y > m then j - 1 else j
def dnK (m y j : Nat) : Nat := if y ≥ m then j - 1 else j
def PU (m : Nat) (a : Nat → Nat → Nat) (x k d y j : Nat) : Nat :=
  if 1 ≤ y ∧ (y > m → 1 ≤ j) ∧ before (y - 1) (upK m y j) 1 x k d then a (y - 1) (upK m y j) else 0
def PD (m : Nat) (a : Nat → Nat → Nat) (x k d y j : Nat) : Nat :=
  if (y ≥ m → 1 ≤ j) ∧ before (y + 1) (dnK m y j) 0 x k d then a (y + 1) (dnK m y j) else 0
def P (m : Nat) (a : Nat → Nat → Nat) (x k d y j : Nat) : Nat := PU m a x k d y j + PD m a x k d y j
theorem P_start (m : Nat) (a : Nat → Nat → Nat) (y j : Nat) : P m a 0 0 0 y j = 0 := by
  unfold P PU PD
  rw [if_neg (by unfold before; omega), if_neg (by unfold before; omega)]
theorem ite_same {p q : Prop} [Decidable p] [Decidable q] {u v : Nat} (h : p ↔ q) : (if p then u else v) = if q then u else v := by
  by_cases c : p
  · rw [if_pos c, if_pos (h.1 c)]
  · rw [if_neg c, if_neg fun hq => c (h.2 hq)]
/-- The step down. -/
theorem P_down (m : Nat) (a : Nat → Nat → Nat) (x k y j : Nat) (hx : 1 ≤ x) :
    P m a x k 1 y j = if y + 1 = x ∧ j = (if x > m then k + 1 else k) then P m a x k 0 y j + a x k else P m a x k 0 y j := by
  have hU : PU m a x k 1 y j = PU m a x k 0 y j := ite_same (by unfold before upK; split <;> omega)
  unfold P
  rw [hU]
  by_cases c : y + 1 = x ∧ j = (if x > m then k + 1 else k)
  · rw [if_pos c]
    obtain ⟨c1, c2⟩ := c
    have hk : dnK m y j = k := by unfold dnK; split <;> split at c2 <;> omega
    have e1 : PD m a x k 1 y j = a x k := by
      unfold PD
      rw [if_pos ⟨by split at c2 <;> omega, by unfold before; omega⟩, hk, c1]
    have e0 : PD m a x k 0 y j = 0 := by
      unfold PD
      rw [if_neg (by unfold before; omega)]
    omega
  · rw [if_neg c]
    congr 1
    refine ite_same ?_
    unfold before dnK
    split at c <;> split <;> omega
/-- The step up. -/
theorem P_up (m : Nat) (a : Nat → Nat → Nat) (x k y j : Nat) :
    P m a x k 2 y j = if y = x + 1 ∧ j = (if x + 1 > m then k + 1 else k) then P m a x k 1 y j + a x k else P m a x k 1 y j := by
  have hD : PD m a x k 2 y j = PD m a x k 1 y j := ite_same (by unfold before dnK; split <;> omega)
  unfold P
  rw [hD]
  by_cases c : y = x + 1 ∧ j = (if x + 1 > m then k + 1 else k)
  · rw [if_pos c]
    obtain ⟨c1, c2⟩ := c
    have hk : upK m y j = k := by unfold upK; split <;> split at c2 <;> omega
    have hy : y - 1 = x := by omega
    have e1 : PU m a x k 2 y j = a x k := by
      unfold PU
      rw [if_pos ⟨by omega, by split at c2 <;> omega, by unfold before; omega⟩, hk, hy]
    have e0 : PU m a x k 1 y j = 0 := by
      unfold PU
      rw [if_neg (by unfold before; omega)]
    omega
  · rw [if_neg c]
    congr 1
    refine ite_same ?_
    unfold before upK
    split at c <;> split <;> omega
/-- On to the next place. -/
theorem P_next (m : Nat) (a : Nat → Nat → Nat) (x k y j : Nat) : P m a x (k + 1) 0 y j = P m a x k 2 y j := by
  unfold P
  congr 1
  · exact ite_same (by unfold before upK; split <;> omega)
  · exact ite_same (by unfold before dnK; split <;> omega)
/-- A place that holds 0 brings nothing. -/
theorem P_skip (m : Nat) (a : Nat → Nat → Nat) (x k y j : Nat) (h : a x k = 0) : P m a x (k + 1) 0 y j = P m a x k 0 y j := by
  unfold P
  congr 1
  · unfold PU
    by_cases c : y - 1 = x ∧ upK m y j = k
    · obtain ⟨c1, c2⟩ := c
      rw [c1, c2, h]; split <;> split <;> rfl
    · exact ite_same (by unfold before; omega)
  · unfold PD
    by_cases c : y + 1 = x ∧ dnK m y j = k
    · obtain ⟨c1, c2⟩ := c
      rw [c1, c2, h]; split <;> split <;> rfl
    · exact ite_same (by unfold before; omega)
/-- On to the next row. -/
theorem P_row (m : Nat) (a : Nat → Nat → Nat) (x y j : Nat) (h : ∀ x k, m < k → a x k = 0) : P m a (x + 1) 0 0 y j = P m a x (m + 1) 0 y j := by
  unfold P
  congr 1
  · unfold PU
    by_cases c : y - 1 = x ∧ m < upK m y j
    · rw [h _ _ c.2]; split <;> split <;> rfl
    · exact ite_same (by unfold before; omega)
  · unfold PD
    by_cases c : y + 1 = x ∧ m < dnK m y j
    · rw [h _ _ c.2]; split <;> split <;> rfl
    · exact ite_same (by unfold before; omega)
/-- All places. -/
theorem P_end (s m y j : Nat) (hs : s < m) (hy : y ≤ 2 * m) : P m (fun x k => A s ((x : Int) - m) k) (2 * m + 1) 0 0 y j = A (s + 1) ((y : Int) - m) j := by
  unfold P PU PD
  rw [A]
  congr 1
  · unfold upK
    by_cases c : y > m
    · have c' : (y : Int) - m > 0 := by omega
      by_cases cj : j = 0
      · rw [if_neg (by omega), if_pos c', if_pos cj]
      · rw [if_pos ⟨by omega, by omega, by unfold before; omega⟩, if_pos c', if_neg cj, if_pos c]
        exact congrArg (fun b => A s b (j - 1)) (by omega)
    · have c' : ¬ (y : Int) - m > 0 := by omega
      rw [if_neg c', if_neg c]
      by_cases c1 : 1 ≤ y
      · rw [if_pos ⟨c1, by omega, by unfold before; omega⟩]
        exact congrArg (fun b => A s b j) (by omega)
      · rw [if_neg (by omega)]
        exact (A_zero s _ _ (by omega)).symm
  · unfold dnK
    by_cases c : y ≥ m
    · have c' : (y : Int) - m ≥ 0 := by omega
      by_cases cj : j = 0
      · rw [if_neg (by omega), if_pos c', if_pos cj]
      · rw [if_pos c', if_neg cj, if_pos c]
        by_cases c1 : y = 2 * m
        · rw [if_neg (by unfold before; omega)]
          exact (A_zero s _ _ (by omega)).symm
        · rw [if_pos ⟨by omega, by unfold before; omega⟩]
          exact congrArg (fun b => A s b (j - 1)) (by omega)
    · have c' : ¬ (y : Int) - m ≥ 0 := by omega
      rw [if_neg c', if_neg c, if_pos ⟨by omega, by unfold before; omega⟩]
      exact congrArg (fun b => A s b j) (by omega)
theorem P_le (m c : Nat) (a : Nat → Nat → Nat) (h : ∀ x k, a x k ≤ c) (x k d y j : Nat) : P m a x k d y j ≤ 2 * c := by
  unfold P PU PD
  have h1 := h (y - 1) (upK m y j)
  have h2 := h (y + 1) (dnK m y j)
  split <;> split <;> omega
end Go.Proofs.YtnjimbgfafkogaaDoor.Math
