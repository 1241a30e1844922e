/- A part of the proof that pomadetop.TopTold returns true for every input: MathP, MathA. No condition beyond those that each theorem states. -/
namespace Go.Proofs.YtldohjlcckbfaaaGreatDoor.MathP
abbrev Word := List UInt8
def isOp (c : UInt8) : Bool := decide (51 ≤ c ∧ c ≤ 55)
def isDig (c : UInt8) : Bool := decide (49 ≤ c ∧ c ≤ 57)
def long1 (c : UInt8) (n : Nat) : Nat := if c = 51 then 2 * n + 1 else if c = 52 then n else if c = 53 then 2 * n else if c = 54 then n - 1 else n + 1
def app1 (c : UInt8) (w : Word) : Word := if c = 51 then w ++ 50 :: w else if c = 52 then w.reverse else if c = 53 then w ++ w else if c = 54 then w.tail else 49 :: w
theorem app1_length (c : UInt8) (w : Word) : (app1 c w).length = long1 c w.length := by
  unfold app1 long1
  repeat' split
  all_goals simp
  all_goals omega
def applL : Word → Word → Word × Int
  | [], w => (w, 0)
  | c :: cs, w => if long1 c w.length = 0 then ([], 10) else if long1 c w.length > 100000 then ([], 8) else applL cs (app1 c w)
def parts (w : Word) : Option (Word × Word) := match w.dropWhile isOp with
  | c :: x :: xs => if c = 50 then some (w.takeWhile isOp, x :: xs) else none
  | _ => none
def says (w : Word) : Word × Int := match parts w with
  | none => ([], 10)
  | some (o, x) => applL o.reverse x
def digE (w : Word) : Int := if w.length > 200 then 3 else if w.all isDig = true then 0 else 5
def wordE (w : Word) : Int := if digE w ≠ 0 then digE w else if w = [] then 5 else 0
def opsE (w : Word) : Int := if digE w ≠ 0 then digE w else if w.all isOp = true then 0 else 5
def make (w : Word) : Word × Int := if wordE w ≠ 0 then ([], wordE w) else says w
def apply (o w : Word) : Word × Int := if opsE o ≠ 0 then ([], opsE o) else if wordE w ≠ 0 then ([], wordE w) else applL o.reverse w
def bounded (w : Word) : Word × Int := if w.length > 200 then ([], 8) else (w, 0)
def after (p : Word) : Word × Int := if digE p ≠ 0 then ([], digE p) else bounded ([51, 50] ++ p ++ [51])
theorem digE_ok {w : Word} : digE w = 0 ↔ w.length ≤ 200 ∧ w.all isDig = true := by
  unfold digE
  by_cases h : w.length > 200
  · rw [if_pos h]; omega
  · rw [if_neg h]
    by_cases h2 : w.all isDig = true
    · rw [if_pos h2]; exact ⟨fun _ => ⟨by omega, h2⟩, fun _ => rfl⟩
    · rw [if_neg h2]; exact ⟨fun e => absurd e (by decide), fun e => absurd e.2 h2⟩
theorem applL_err (o w : Word) : (applL o w).2 = 0 ∨ applL o w = ([], 10) ∨ applL o w = ([], 8) := by
  induction o generalizing w with
  | nil => exact .inl rfl
  | cons c o ih =>
    rw [applL]
    by_cases h1 : long1 c w.length = 0
    · rw [if_pos h1]; exact .inr (.inl rfl)
    · rw [if_neg h1]
      by_cases h2 : long1 c w.length > 100000
      · rw [if_pos h2]; exact .inr (.inr rfl)
      · rw [if_neg h2]; exact ih _
theorem says_err (w : Word) : (says w).2 = 0 ∨ says w = ([], 10) ∨ says w = ([], 8) := by
  unfold says
  split
  · exact .inr (.inl rfl)
  · exact applL_err _ _
theorem parts_some {w o x : Word} (h : parts w = some (o, x)) : w = o ++ 50 :: x ∧ o.all isOp = true ∧ x ≠ [] := by
  unfold parts at h
  split at h
  · rename_i c y ys e
    by_cases hc : c = 50
    · rw [if_pos hc] at h
      simp only [Option.some.injEq, Prod.mk.injEq] at h
      obtain ⟨rfl, rfl⟩ := h
      subst hc
      refine ⟨?_, ?_, by simp⟩
      · rw [← e, List.takeWhile_append_dropWhile]
      · exact List.all_takeWhile
    · rw [if_neg hc] at h; cases h
  · cases h
def pos (w : Word) : List Word → Option Nat
  | [] => none
  | x :: xs => if x = w then some 0 else (pos w xs).map (· + 1)
def growL : Word → Nat → Int × Int
  | [], n => if n > 1152921504606846976 then (0, 4) else ((n : Int), 0)
  | c :: cs, n => if n > 1152921504606847176 then (0, 4) else if long1 c n = 0 then (0, 10) else growL cs (long1 c n)
def grows (w : Word) : Int × Int := if wordE w ≠ 0 then (0, wordE w) else match parts w with
  | none => (0, 10)
  | some (o, x) => growL o.reverse x.length
end Go.Proofs.YtldohjlcckbfaaaGreatDoor.MathP
namespace Go.Proofs.YtldohjlcckbfaaaGreatDoor.Math
def per (l : List Int) (i : Nat) : Int := l.getD (i % l.length) 0
def S (l : List Int) : Nat → Int
  | 0 => 0
  | i + 1 => S l i + per l i
def good (l : List Int) (r : Nat) : Bool := (List.range l.length).all fun j => decide (S l (r + j + 1) > S l r)
end Go.Proofs.YtldohjlcckbfaaaGreatDoor.Math
