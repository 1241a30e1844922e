/- Words that make words: the plain law, no program in sight. -/
namespace Go.Proofs.YtcjbnonjhahakaaDoor.Math
abbrev Word := List UInt8
def isOp (c : UInt8) : Bool := decide (51 ≤ c ∧ c ≤ 55)
def isDig (c : UInt8) : Bool := decide (49 ≤ c ∧ c ≤ 57)
theorem isDig_of_isOp {c : UInt8} (h : isOp c = true) : isDig c = true := by
  unfold isOp at h; unfold isDig
  have := of_decide_eq_true h
  refine decide_eq_true ?_
  have h1 := UInt8.le_iff_toNat_le.1 this.1
  have h2 := UInt8.le_iff_toNat_le.1 this.2
  constructor
  · refine UInt8.le_iff_toNat_le.2 ?_
    simp at h1 ⊢; omega
  · refine UInt8.le_iff_toNat_le.2 ?_
    simp at h2 ⊢; omega
/-- How long a word is behind an operation. -/
def long1 (c : UInt8) (n : Nat) : Nat := if c = 51 then 2 * n + 1 else if c = 52 then n else if c = 53 then 2 * n else if c = 54 then n - 1 else n + 1
def app1 (c : UInt8) (w : Word) : Word := if c = 51 then w ++ 50 :: w else if c = 52 then w.reverse else if c = 53 then w ++ w else if c = 54 then w.tail else 49 :: w
theorem app1_length (c : UInt8) (w : Word) : (app1 c w).length = long1 c w.length := by
  unfold app1 long1
  repeat' split
  all_goals simp
  all_goals omega
/-- Operations one behind the other: a word and 0, or an error. -/
def applL : Word → Word → Word × Int
  | [], w => (w, 0)
  | c :: cs, w => if long1 c w.length = 0 then ([], 10) else if long1 c w.length > 100000 then ([], 8) else applL cs (app1 c w)
def parts (w : Word) : Option (Word × Word) := match w.dropWhile isOp with
  | c :: x :: xs => if c = 50 then some (w.takeWhile isOp, x :: xs) else none
  | _ => none
def says (w : Word) : Word × Int := match parts w with
  | none => ([], 10)
  | some (o, x) => applL o.reverse x
def digE (w : Word) : Int := if w.length > 200 then 3 else if w.all isDig = true then 0 else 5
def wordE (w : Word) : Int := if digE w ≠ 0 then digE w else if w = [] then 5 else 0
def opsE (w : Word) : Int := if digE w ≠ 0 then digE w else if w.all isOp = true then 0 else 5
def make (w : Word) : Word × Int := if wordE w ≠ 0 then ([], wordE w) else says w
def apply (o w : Word) : Word × Int := if opsE o ≠ 0 then ([], opsE o) else if wordE w ≠ 0 then ([], wordE w) else applL o.reverse w
def bounded (w : Word) : Word × Int := if w.length > 200 then ([], 8) else (w, 0)
def after (p : Word) : Word × Int := if digE p ≠ 0 then ([], digE p) else bounded ([51, 50] ++ p ++ [51])
def pair (a b : Word) : Word × Word × Int := if digE a ≠ 0 then ([], [], digE a) else if digE b ≠ 0 then ([], [], digE b) else
  if ([50] ++ b ++ ([51, 50] ++ a ++ [50] ++ b ++ [51])).length > 200 then ([], [], 8) else ([51, 50] ++ a ++ [50] ++ b ++ [51], [50] ++ b ++ ([51, 50] ++ a ++ [50] ++ b ++ [51]), 0)
theorem digE_ok {w : Word} : digE w = 0 ↔ w.length ≤ 200 ∧ w.all isDig = true := by
  unfold digE
  by_cases h : w.length > 200
  · rw [if_pos h]; omega
  · rw [if_neg h]
    by_cases h2 : w.all isDig = true
    · rw [if_pos h2]; exact ⟨fun _ => ⟨by omega, h2⟩, fun _ => rfl⟩
    · rw [if_neg h2]; exact ⟨fun e => absurd e (by decide), fun e => absurd e.2 h2⟩
theorem wordE_ok {w : Word} : wordE w = 0 ↔ w.length ≤ 200 ∧ w.all isDig = true ∧ w ≠ [] := by
  unfold wordE
  by_cases h : digE w = 0
  · have h2 := digE_ok.1 h
    rw [if_neg (by simpa using h)]
    by_cases e : w = []
    · rw [if_pos e]; exact ⟨fun e => absurd e (by decide), fun h => absurd e h.2.2⟩
    · rw [if_neg e]; exact ⟨fun _ => ⟨h2.1, h2.2, e⟩, fun _ => rfl⟩
  · rw [if_pos h]
    exact ⟨fun e => absurd e h, fun h2 => absurd (digE_ok.2 ⟨h2.1, h2.2.1⟩) h⟩
theorem applL_append (u v w : Word) : applL (u ++ v) w = if (applL u w).2 = 0 then applL v (applL u w).1 else applL u w := by
  induction u generalizing w with
  | nil => simp [applL]
  | cons c u ih =>
    rw [List.cons_append, applL, applL]
    by_cases h1 : long1 c w.length = 0
    · rw [if_pos h1, if_pos h1, if_neg (by decide)]
    · rw [if_neg h1, if_neg h1]
      by_cases h2 : long1 c w.length > 100000
      · rw [if_pos h2, if_pos h2, if_neg (by decide)]
      · rw [if_neg h2, if_neg h2, ih]
theorem isDig_app1 {c : UInt8} {w : Word} (h : w.all isDig = true) : (app1 c w).all isDig = true := by
  have h49 : isDig 49 = true := by decide
  have h50 : isDig 50 = true := by decide
  unfold app1
  rw [List.all_eq_true] at h ⊢
  intro x hx
  repeat' split at hx
  · rcases List.mem_append.1 hx with hx | hx
    · exact h x hx
    · rcases List.mem_cons.1 hx with rfl | hx
      · exact h50
      · exact h x hx
  · exact h x (List.mem_reverse.1 hx)
  · rcases List.mem_append.1 hx with hx | hx <;> exact h x hx
  · exact h x (List.mem_of_mem_tail hx)
  · rcases List.mem_cons.1 hx with rfl | hx
    · exact h49
    · exact h x hx
theorem applL_ok {o w : Word} (hd : w.all isDig = true) (hn : w ≠ []) (h : (applL o w).2 = 0) : (applL o w).1.all isDig = true ∧ (applL o w).1 ≠ [] := by
  induction o generalizing w with
  | nil => exact ⟨hd, hn⟩
  | cons c o ih =>
    rw [applL] at h ⊢
    by_cases h1 : long1 c w.length = 0
    · rw [if_pos h1] at h; exact absurd h (by decide)
    · rw [if_neg h1] at h ⊢
      by_cases h2 : long1 c w.length > 100000
      · rw [if_pos h2] at h; exact absurd h (by decide)
      · rw [if_neg h2] at h ⊢
        refine ih (isDig_app1 hd) ?_ h
        intro e
        have := app1_length c w
        rw [e] at this
        exact h1 this.symm
theorem applL_err (o w : Word) : (applL o w).2 = 0 ∨ applL o w = ([], 10) ∨ applL o w = ([], 8) := by
  induction o generalizing w with
  | nil => exact .inl rfl
  | cons c o ih =>
    rw [applL]
    by_cases h1 : long1 c w.length = 0
    · rw [if_pos h1]; exact .inr (.inl rfl)
    · rw [if_neg h1]
      by_cases h2 : long1 c w.length > 100000
      · rw [if_pos h2]; exact .inr (.inr rfl)
      · rw [if_neg h2]; exact ih _
theorem says_err (w : Word) : (says w).2 = 0 ∨ says w = ([], 10) ∨ says w = ([], 8) := by
  unfold says
  split
  · exact .inr (.inl rfl)
  · exact applL_err _ _
theorem parts_some {w o x : Word} (h : parts w = some (o, x)) : w = o ++ 50 :: x ∧ o.all isOp = true ∧ x ≠ [] := by
  unfold parts at h
  split at h
  · rename_i c y ys e
    by_cases hc : c = 50
    · rw [if_pos hc] at h
      simp only [Option.some.injEq, Prod.mk.injEq] at h
      obtain ⟨rfl, rfl⟩ := h
      subst hc
      refine ⟨?_, ?_, by simp⟩
      · rw [← e, List.takeWhile_append_dropWhile]
      · exact List.all_takeWhile
    · rw [if_neg hc] at h; cases h
  · cases h
theorem takeWhile_append_all {o v : Word} (h : o.all isOp = true) : (o ++ v).takeWhile isOp = o ++ v.takeWhile isOp := by
  induction o with
  | nil => rfl
  | cons c o ih =>
    rw [List.all_cons, Bool.and_eq_true] at h
    rw [List.cons_append, List.takeWhile_cons, if_pos h.1, ih h.2, List.cons_append]
theorem dropWhile_append_all {o v : Word} (h : o.all isOp = true) : (o ++ v).dropWhile isOp = v.dropWhile isOp := by
  induction o with
  | nil => rfl
  | cons c o ih =>
    rw [List.all_cons, Bool.and_eq_true] at h
    rw [List.cons_append, List.dropWhile_cons, if_pos h.1, ih h.2]
theorem parts_mk {o x : Word} (ho : o.all isOp = true) (hx : x ≠ []) : parts (o ++ 50 :: x) = some (o, x) := by
  unfold parts
  rw [takeWhile_append_all ho, dropWhile_append_all ho]
  have e1 : (50 :: x).dropWhile isOp = 50 :: x := by rw [List.dropWhile_cons, if_neg (by decide)]
  have e2 : (50 :: x).takeWhile isOp = [] := by rw [List.takeWhile_cons, if_neg (by decide)]
  rw [e1, e2, List.append_nil]
  cases x with
  | nil => exact absurd rfl hx
  | cons y ys => simp
theorem says_mk {o x : Word} (ho : o.all isOp = true) (hx : x ≠ []) : says (o ++ 50 :: x) = applL o.reverse x := by
  unfold says
  rw [parts_mk ho hx]
theorem says_ok {w : Word} (hd : w.all isDig = true) (h : (says w).2 = 0) : (says w).1.all isDig = true ∧ (says w).1 ≠ [] := by
  unfold says at h ⊢
  split at h
  · exact absurd h (by decide)
  · rename_i o x e
    obtain ⟨rfl, _, hx⟩ := parts_some e
    refine applL_ok ?_ hx h
    rw [List.all_append, List.all_cons, Bool.and_eq_true, Bool.and_eq_true] at hd
    exact hd.2.2
/-! Lives. -/
def pos (w : Word) : List Word → Option Nat
  | [] => none
  | x :: xs => if x = w then some 0 else (pos w xs).map (· + 1)
def lifeGo : Nat → List Word → Word → Int × Int × Int
  | 0, seen, w => match pos w seen with
    | some i => ((i : Int), ((seen.length - i : Nat) : Int), 0)
    | none => (0, 0, 8)
  | f + 1, seen, w => match pos w seen with
    | some i => ((i : Int), ((seen.length - i : Nat) : Int), 0)
    | none => if (says w).2 = 10 then (((seen.length + 1 : Nat) : Int), 0, 0) else if (says w).2 = 8 then (0, 0, 8) else lifeGo f (seen ++ [w]) (says w).1
def life (w : Word) : Int × Int × Int := if wordE w ≠ 0 then (0, 0, wordE w) else lifeGo 1000 [] w
/-- The reference's life: the list is init and last. -/
def lifeR : Nat → List Word → Word → Int × Int × Int
  | f, init, last => if (says last).2 = 8 then (0, 0, 8) else if (says last).2 ≠ 0 then (((init.length + 1 : Nat) : Int), 0, 0) else
    match pos (says last).1 (init ++ [last]) with
    | some i => ((i : Int), ((init.length + 1 - i : Nat) : Int), 0)
    | none => match f with
      | 0 => (0, 0, 8)
      | f + 1 => lifeR f (init ++ [last]) (says last).1
theorem pos_append_none {w : Word} {l : List Word} {x : Word} (h : pos w l = none) (hx : x ≠ w) : pos w (l ++ [x]) = none := by
  induction l with
  | nil => simp [pos, hx]
  | cons y l ih =>
    rw [List.cons_append, pos]
    rw [pos] at h
    by_cases e : y = w
    · rw [if_pos e] at h; cases h
    · rw [if_neg e] at h ⊢
      cases hq : pos w l with
      | none => rw [ih hq]; rfl
      | some i => rw [hq] at h; cases h
theorem pos_snoc_new {w : Word} {l : List Word} (h : pos w l = none) : pos w (l ++ [w]) = some l.length := by
  induction l with
  | nil => simp [pos]
  | cons y l ih =>
    rw [List.cons_append, pos]
    rw [pos] at h
    by_cases e : y = w
    · rw [if_pos e] at h; cases h
    · rw [if_neg e] at h ⊢
      cases hq : pos w l with
      | none => rw [ih hq]; rfl
      | some i => rw [hq] at h; cases h
theorem pos_snoc_old {w x : Word} {l : List Word} {i : Nat} (h : pos w l = some i) : pos w (l ++ [x]) = some i := by
  induction l generalizing i with
  | nil => cases h
  | cons y l ih =>
    rw [List.cons_append, pos]
    rw [pos] at h
    by_cases e : y = w
    · rw [if_pos e] at h ⊢; exact h
    · rw [if_neg e] at h ⊢
      cases hq : pos w l with
      | none => rw [hq] at h; cases h
      | some j => rw [ih hq]; rw [hq] at h; exact h
theorem pos_lt {w : Word} {l : List Word} {i : Nat} (h : pos w l = some i) : i < l.length ∧ l[i]? = some w := by
  induction l generalizing i with
  | nil => cases h
  | cons y l ih =>
    rw [pos] at h
    by_cases e : y = w
    · rw [if_pos e] at h
      obtain rfl := Option.some.inj h
      simp [e]
    · rw [if_neg e] at h
      cases hq : pos w l with
      | none => rw [hq] at h; cases h
      | some j =>
        rw [hq] at h
        obtain rfl := Option.some.inj h
        have := ih hq
        exact ⟨by simp; omega, by simpa using this.2⟩
/-! How many digits a word makes. -/
/-- The number behind operations (the last one first), or an error; far: beyond the limit. -/
def growL : Word → Nat → Int × Int
  | [], n => if n > 1152921504606846976 then (0, 4) else ((n : Int), 0)
  | c :: cs, n => if n > 1152921504606847176 then (0, 4) else if long1 c n = 0 then (0, 10) else growL cs (long1 c n)
def grows (w : Word) : Int × Int := if wordE w ≠ 0 then (0, wordE w) else match parts w with
  | none => (0, 10)
  | some (o, x) => growL o.reverse x.length
/-- The reference's numbers: never past 2^61. -/
def growR : Word → Nat → Int × Int
  | [], n => if n > 1152921504606846976 then (0, 4) else ((n : Int), 0)
  | c :: cs, n => if long1 c n = 0 then (0, 10) else growR cs (min (long1 c n) 2305843009213693952)
end Go.Proofs.YtcjbnonjhahakaaDoor.Math
