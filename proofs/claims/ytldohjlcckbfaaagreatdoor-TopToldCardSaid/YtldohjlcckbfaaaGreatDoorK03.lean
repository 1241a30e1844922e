/- A part of the proof that pomadetop.TopTold returns true for every input: XWords. No condition beyond those that each theorem states. -/
import Derived.Lib.Split
import Derived.Lib.Join
import Derived.Lib.Atoi
import Derived.Lib.ItoaNum
import Derived.Lib.IndexBytes
import Derived.Lib.IndexLaws
import Derived.Lib.CountLaws
namespace TopWords
open Go.Lib
theorem digit_val (d : Nat) (h : d < 10) : digitVal (UInt8.ofNat (48 + d)) = some d := by
  match d, h with
  | 0, _ | 1, _ | 2, _ | 3, _ | 4, _ | 5, _ | 6, _ | 7, _ | 8, _ | 9, _ => rfl
theorem decFrom_append (l : List UInt8) : ∀ (r : List UInt8) (acc : Nat), decFrom acc (l ++ r) = (decFrom acc l).bind fun a => decFrom a r := by
  induction l with
  | nil => intro r acc; rfl
  | cons b t ih =>
    intro r acc
    simp only [List.cons_append, decFrom]
    cases digitVal b with
    | none => rfl
    | some d => exact ih r _
theorem decFrom_dec (u : Nat) : decFrom 0 (decDigits u) = some u := by
  induction u using Nat.strongRecOn with
  | _ u ih =>
    by_cases h : u < 10
    · rw [decDigits, dif_pos h]
      simp only [decFrom, digit_val u h]
      simp
    · rw [decDigits, dif_neg h, decFrom_append, ih (u / 10) (by omega)]
      simp only [Option.bind_some, decFrom, digit_val (u % 10) (by omega)]
      congr 1
      omega
theorem decDigits_ne (u : Nat) : decDigits u ≠ [] := by
  rw [decDigits]
  split <;> simp
theorem decNat_dec (u : Nat) : decNat (decDigits u) = some u := by
  unfold decNat
  have := decDigits_ne u
  simp [this, decFrom_dec]
theorem dec_mem (u : Nat) : ∀ b ∈ decDigits u, 48 ≤ b.toNat ∧ b.toNat ≤ 57 := by
  induction u using Nat.strongRecOn with
  | _ u ih =>
    intro b hb
    by_cases h : u < 10
    · rw [decDigits, dif_pos h] at hb
      simp only [List.mem_singleton] at hb
      subst hb
      simp; omega
    · rw [decDigits, dif_neg h, List.mem_append] at hb
      rcases hb with hb | hb
      · exact ih (u / 10) (by omega) b hb
      · simp only [List.mem_singleton] at hb
        subst hb
        simp; omega
theorem itoa_ne (n : Int) : itoa n ≠ [] := by
  unfold itoa
  split
  · simp
  · exact decDigits_ne _
theorem itoa_mem (n : Int) : ∀ b ∈ itoa n, 33 ≤ b.toNat ∧ b.toNat ≤ 126 := by
  intro b hb
  unfold itoa at hb
  split at hb
  · rcases List.mem_cons.1 hb with rfl | hb
    · decide
    · have := dec_mem _ b hb; omega
  · have := dec_mem _ b hb; omega
theorem atoi_itoa (n : Int) : atoi (itoa n) = some n := by
  unfold itoa
  split
  · rename_i h
    simp only [atoi]
    rw [if_pos (by decide), decNat_dec]
    simp only [Option.map_some]
    congr 1
    omega
  · rename_i h
    have hd := decNat_dec n.toNat
    have hm := dec_mem n.toNat
    cases hl : decDigits n.toNat with
    | nil => exact absurd hl (decDigits_ne _)
    | cons b r =>
      have hb := hm b (by rw [hl]; exact List.mem_cons_self)
      have h1 : ¬ (b == 45) = true := by
        intro e; rw [beq_iff_eq] at e; subst e; revert hb; decide
      have h2 : ¬ (b == 43) = true := by
        intro e; rw [beq_iff_eq] at e; subst e; revert hb; decide
      simp only [atoi]
      rw [if_neg h1, if_neg h2, ← hl, hd]
      simp only [Option.map_some]
      congr 1
      omega
theorem decDigits_len {u k : Nat} (h : u < 10 ^ k) (hk : 1 ≤ k) : (decDigits u).length ≤ k := by
  induction k generalizing u with
  | zero => omega
  | succ k ih =>
    by_cases h10 : u < 10
    · rw [decDigits, dif_pos h10]; simp
    · rw [decDigits, dif_neg h10]
      simp only [List.length_append, List.length_singleton]
      by_cases hk0 : 1 ≤ k
      · have := ih (u := u / 10) (by rw [Nat.pow_succ] at h; omega) hk0
        omega
      · obtain rfl : k = 0 := by omega
        simp at h; omega
theorem itoa_len {n : Int} {k : Nat} (hk : 1 ≤ k) (h1 : -(10 ^ k : Nat) < n) (h2 : n < (10 ^ k : Nat)) : (itoa n).length ≤ k + 1 := by
  unfold itoa
  split
  · have := decDigits_len (u := n.natAbs) (k := k) (by omega) hk
    simp; omega
  · have := decDigits_len (u := n.toNat) (k := k) (by omega) hk
    omega
def wordsOk (ws : List (List UInt8)) : Prop := ∀ x ∈ ws, (32 : UInt8) ∉ x
theorem indexByte_at : ∀ (x r : List UInt8) (c : UInt8), c ∉ x → indexByte (x ++ c :: r) c = x.length
  | [], r, c, _ => by simp [indexByte]
  | a :: x, r, c, h => by
    have ha : ¬ (a == c) = true := by
      intro e; rw [beq_iff_eq] at e; subst e; exact h (List.mem_cons_self)
    have ih := indexByte_at x r c (fun hc => h (List.mem_cons_of_mem _ hc))
    simp only [List.cons_append, indexByte]
    rw [if_neg ha, ih, if_neg (by rw [beq_iff_eq]; omega)]
    simp
theorem indexByte_not : ∀ (x : List UInt8) (c : UInt8), c ∉ x → indexByte x c = -1
  | [], c, _ => rfl
  | a :: x, c, h => by
    have ha : ¬ (a == c) = true := by
      intro e; rw [beq_iff_eq] at e; subst e; exact h (List.mem_cons_self)
    have ih := indexByte_not x c (fun hc => h (List.mem_cons_of_mem _ hc))
    simp only [indexByte]
    rw [if_neg ha, ih]
    simp
theorem join_cons (x y : List UInt8) (ws : List (List UInt8)) (sep : List UInt8) : join (x :: y :: ws) sep = x ++ sep ++ join (y :: ws) sep := by
  simp [join, List.intercalate, List.intersperse]
theorem count_join : ∀ (x : List UInt8) (ws : List (List UInt8)), wordsOk (x :: ws) → count (join (x :: ws) [32]) [32] = ws.length
  | x, [], h => by
    have : join [x] [32] = x := by simp [join, List.intercalate, List.intersperse]
    rw [this, count_miss (by rw [index_one, indexByte_not _ _ (h x (by simp))])]
    rfl
  | x, y :: ws, h => by
    rw [join_cons]
    have hi : index (x ++ [32] ++ join (y :: ws) [32]) [32] = x.length := by
      rw [index_one, List.append_assoc]
      exact indexByte_at _ _ _ (h x (by simp))
    rw [count_hit (by simp) hi]
    have hd : (x ++ [32] ++ join (y :: ws) [32]).drop (x.length + ([32] : List UInt8).length) = join (y :: ws) [32] := by
      rw [← List.length_append, List.drop_left]
    rw [hd, count_join y ws (fun z hz => h z (List.mem_cons_of_mem _ hz))]
    simp; omega
theorem split_join : ∀ (x : List UInt8) (ws : List (List UInt8)), wordsOk (x :: ws) → splitK [32] 0 ws.length (join (x :: ws) [32]) = x :: ws
  | x, [], h => by simp [splitK, join, List.intercalate, List.intersperse]
  | x, y :: ws, h => by
    rw [join_cons]
    have hi : index (x ++ [32] ++ join (y :: ws) [32]) [32] = x.length := by
      rw [index_one, List.append_assoc]
      exact indexByte_at _ _ _ (h x (by simp))
    have hd : (x ++ [32] ++ join (y :: ws) [32]).drop (x.length + ([32] : List UInt8).length) = join (y :: ws) [32] := by
      rw [← List.length_append, List.drop_left]
    rw [List.length_cons, splitK, hi]
    rw [if_neg (by rw [beq_iff_eq]; omega)]
    simp only [Int.toNat_natCast, Nat.add_zero]
    rw [hd, split_join y ws (fun z hz => h z (List.mem_cons_of_mem _ hz))]
    congr 1
    rw [List.append_assoc, List.take_left']
    rfl
end TopWords
