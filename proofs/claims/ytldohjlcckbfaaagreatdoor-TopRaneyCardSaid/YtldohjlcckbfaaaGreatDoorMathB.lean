namespace Go.Proofs.YtldohjlcckbfaaaGreatDoor.Math
/-! All orders of a list, by whatever way of taking one element out; how many are ahead so often, how many are greatest at each place. -/
def gen (E : List Int → Nat → List Int) : Nat → List Int → List (List Int)
  | 0, _ => [[]]
  | n + 1, l => (List.range l.length).flatMap fun i => (gen E n (E l i)).map (l.getD i 0 :: ·)
def Takes (E : List Int → Nat → List Int) : Prop := ∀ l i, i < l.length → (E l i).Perm (l.eraseIdx i)
theorem takes_plain : Takes (fun l i => l.eraseIdx i) := fun _ _ _ => List.Perm.refl _
def cw : List Int → List Int → Nat
  | [], l => if l.isEmpty then 1 else 0
  | x :: w, l => l.count x * cw w (l.erase x)
theorem cw_perm : ∀ (w : List Int) {l l' : List Int}, l.Perm l' → cw w l = cw w l'
  | [], l, l', h => by simp only [cw]; rw [h.isEmpty_eq]
  | x :: w, l, l', h => by simp only [cw]; rw [h.count_eq, cw_perm w (h.erase x)]
theorem cons_eraseIdx : ∀ (l : List Int) (i : Nat) (h : i < l.length), (l[i] :: l.eraseIdx i).Perm l
  | a :: t, 0, _ => List.Perm.refl _
  | a :: t, i + 1, h => by
    have hi : i < t.length := by simpa using h
    rw [List.getElem_cons_succ, List.eraseIdx_cons_succ]
    exact (List.Perm.swap _ _ _).trans ((cons_eraseIdx t i hi).cons a)
theorem erase_at (l : List Int) (i : Nat) (h : i < l.length) : (l.erase (l.getD i 0)).Perm (l.eraseIdx i) := by
  have e : l.getD i 0 = l[i] := by simp [List.getD_eq_getElem?_getD, h]
  rw [e]
  have := (cons_eraseIdx l i h).symm.erase l[i]
  simpa using this
theorem count_sum (l : List Int) (x : Int) (c : Nat) : ((List.range l.length).map fun i => if l.getD i 0 = x then c else 0).sum = l.count x * c := by
  induction l with
  | nil => simp
  | cons a t ih =>
    rw [List.length_cons, List.range_succ_eq_map, List.map_cons, List.sum_cons, List.map_map]
    have : ((fun i => if (a :: t).getD i 0 = x then c else 0) ∘ Nat.succ) = fun i => if t.getD i 0 = x then c else 0 := by
      funext i; simp
    rw [this, ih, List.count_cons]
    by_cases h : a = x
    · subst h; simp [Nat.add_mul, Nat.add_comm]
    · simp [h]
theorem count_cons_map (x a : Int) (w : List Int) (L : List (List Int)) : (L.map (a :: ·)).count (x :: w) = if a = x then L.count w else 0 := by
  induction L with
  | nil => simp
  | cons b L ih =>
    rw [List.map_cons, List.count_cons, ih, List.count_cons]
    by_cases h : a = x
    · subst h; simp
    · simp [h]
theorem count_nil_map (a : Int) (L : List (List Int)) : (L.map (a :: ·)).count [] = 0 := by
  induction L with
  | nil => simp
  | cons b L ih => rw [List.map_cons, List.count_cons, ih]; simp
theorem gen_count {E : List Int → Nat → List Int} (hE : Takes E) : ∀ (n : Nat) (l : List Int), l.length = n → ∀ w, (gen E n l).count w = cw w l := by
  intro n
  induction n with
  | zero =>
    intro l hl w
    obtain rfl : l = [] := List.eq_nil_of_length_eq_zero hl
    cases w with
    | nil => simp [gen, cw]
    | cons x w => simp [gen, cw]
  | succ n ih =>
    intro l hl w
    rw [gen, List.count_flatMap]
    cases w with
    | nil =>
      have hz : ∀ xs : List Nat, (xs.map (List.count [] ∘ fun i => (gen E n (E l i)).map (l.getD i 0 :: ·))).sum = 0 := by
        intro xs
        induction xs with
        | nil => rfl
        | cons i xs ih2 =>
          rw [List.map_cons, List.sum_cons, ih2]
          simp only [Function.comp, count_nil_map]
      rw [hz]
      cases l with
      | nil => simp at hl
      | cons a t => simp [cw]
    | cons x w =>
      rw [show cw (x :: w) l = l.count x * cw w (l.erase x) from rfl, ← count_sum]
      congr 1
      refine List.map_congr_left fun i hi => ?_
      have hlt : i < l.length := List.mem_range.1 hi
      simp only [Function.comp, count_cons_map]
      by_cases h : l.getD i 0 = x
      · rw [if_pos h, if_pos h]
        have hp := hE l i hlt
        have hlen : (E l i).length = n := by rw [hp.length_eq, List.length_eraseIdx]; simp [hlt]; omega
        rw [ih _ hlen, cw_perm w hp, ← h]
        exact cw_perm w (erase_at l i hlt).symm
      · rw [if_neg h, if_neg h]
theorem gen_perm {E E' : List Int → Nat → List Int} (hE : Takes E) (hE' : Takes E') {l l' : List Int} (h : l.Perm l') : (gen E l.length l).Perm (gen E' l'.length l') := by
  rw [List.perm_iff_count]
  intro w
  rw [gen_count hE _ _ rfl, gen_count hE' _ _ rfl, cw_perm w h]
theorem gen_mem {E : List Int → Nat → List Int} (hE : Takes E) : ∀ (n : Nat) (l : List Int), l.length = n → ∀ w ∈ gen E n l, w.Perm l := by
  intro n
  induction n with
  | zero =>
    intro l hl w hw
    obtain rfl : l = [] := List.eq_nil_of_length_eq_zero hl
    simp [gen] at hw; subst hw; exact List.Perm.refl _
  | succ n ih =>
    intro l hl w hw
    rw [gen, List.mem_flatMap] at hw
    obtain ⟨i, hi, hw⟩ := hw
    have hlt : i < l.length := List.mem_range.1 hi
    rw [List.mem_map] at hw
    obtain ⟨v, hv, rfl⟩ := hw
    have hp := hE l i hlt
    have hlen : (E l i).length = n := by rw [hp.length_eq, List.length_eraseIdx]; simp [hlt]; omega
    have := (ih _ hlen v hv).trans hp
    have e : l.getD i 0 = l[i] := by simp [List.getD_eq_getElem?_getD, hlt]
    rw [e]
    exact (this.cons _).trans (cons_eraseIdx l i hlt)
theorem cw_swap (x y : Int) (l : List Int) : l.count x * (l.erase x).count y = l.count y * (l.erase y).count x := by
  by_cases h : x = y
  · subst h; rfl
  · rw [List.count_erase_of_ne (Ne.symm h), List.count_erase_of_ne h, Nat.mul_comm]
theorem cw_comm {w w' : List Int} (h : w.Perm w') : ∀ l, cw w l = cw w' l := by
  induction h with
  | nil => intro l; rfl
  | cons x _ ih => intro l; simp only [cw]; rw [ih]
  | swap x y w =>
    intro l
    simp only [cw]
    rw [← Nat.mul_assoc, ← Nat.mul_assoc, cw_swap, List.erase_comm]
  | trans _ _ h1 h2 => intro l; rw [h1, h2]
theorem count_reverse (w : List Int) (L : List (List Int)) : (L.map List.reverse).count w = L.count w.reverse := by
  induction L with
  | nil => simp
  | cons a L ih =>
    rw [List.map_cons, List.count_cons, ih, List.count_cons]
    congr 1
    by_cases h : a.reverse = w
    · subst h; simp
    · have : ¬ a = w.reverse := fun e => h (by rw [e, List.reverse_reverse])
      simp [h, this]
theorem gen_reverse {E : List Int → Nat → List Int} (hE : Takes E) (n : Nat) (l : List Int) (h : l.length = n) : ((gen E n l).map List.reverse).Perm (gen E n l) := by
  rw [List.perm_iff_count]
  intro w
  rw [count_reverse, gen_count hE _ _ h, gen_count hE _ _ h]
  exact cw_comm (List.reverse_perm w) l
theorem countP_flatMap_le {α β : Type} (p : β → Bool) (f : α → List β) : ∀ L : List α, (L.flatMap f).countP p = (L.map fun i => (f i).countP p).sum
  | [] => rfl
  | a :: L => by rw [List.flatMap_cons, List.countP_append, countP_flatMap_le p f L]; rfl
theorem gen_snoc {E : List Int → Nat → List Int} (hE : Takes E) (n : Nat) (l : List Int) (h : l.length = n + 1) (p : List Int → Bool) :
    (gen E (n + 1) l).countP p = ((List.range l.length).map fun i => (gen E n (E l i)).countP fun w => p (w ++ [l.getD i 0])).sum := by
  rw [← (gen_reverse hE (n + 1) l h).countP_eq, List.countP_map, gen, countP_flatMap_le]
  congr 1
  refine List.map_congr_left fun i hi => ?_
  have hlt : i < l.length := List.mem_range.1 hi
  have hp := hE l i hlt
  have hlen : (E l i).length = n := by rw [hp.length_eq, List.length_eraseIdx]; simp [hlt]; omega
  rw [List.countP_map, ← (gen_reverse hE n (E l i) hlen).countP_eq, List.countP_map]
  congr 1
  funext w
  simp [Function.comp]
theorem gen_cons {E : List Int → Nat → List Int} (n : Nat) (l : List Int) (p : List Int → Bool) :
    (gen E (n + 1) l).countP p = ((List.range l.length).map fun i => (gen E n (E l i)).countP fun w => p (l.getD i 0 :: w)).sum := by
  rw [gen, countP_flatMap_le]
  congr 1
  refine List.map_congr_left fun i hi => ?_
  rw [List.countP_map]; rfl

/-- How many balances after the first one are above 0. -/
def pos (s : Int) : List Int → Nat
  | [] => 0
  | x :: t => (if s + x > 0 then 1 else 0) + pos (s + x) t
def top : List Int → Int
  | [] => 0
  | x :: t => max 0 (x + top t)
def fst : List Int → Nat
  | [] => 0
  | x :: t => if x + top t > 0 then fst t + 1 else 0
theorem pos_snoc (x : Int) : ∀ (w : List Int) (s : Int), pos s (w ++ [x]) = pos s w + if s + w.sum + x > 0 then 1 else 0
  | [], s => by simp [pos]
  | y :: t, s => by
    rw [List.cons_append, pos, pos_snoc x t, pos, List.sum_cons, show s + y + t.sum + x = s + (y + t.sum) + x by omega]
    omega
theorem top_nonneg : ∀ l, 0 ≤ top l
  | [] => Int.le_refl _
  | x :: t => by rw [top]; omega
theorem sum_le_top : ∀ l : List Int, l.sum ≤ top l
  | [] => by simp [top]
  | x :: t => by have := sum_le_top t; rw [top, List.sum_cons]; omega
theorem top_snoc (x : Int) : ∀ w : List Int, top (w ++ [x]) = max (top w) (w.sum + x)
  | [] => by simp [top]
  | y :: t => by rw [List.cons_append, top, top_snoc x t, top, List.sum_cons]; omega
theorem fst_snoc (x : Int) : ∀ w : List Int, fst (w ++ [x]) = if w.sum + x > top w then w.length + 1 else fst w
  | [] => by simp [fst, top]
  | y :: t => by
    have := top_nonneg t
    rw [List.cons_append, fst, top_snoc, fst_snoc x t, fst, top, List.sum_cons, List.length_cons]
    by_cases h1 : t.sum + x > top t
    · rw [if_pos h1]
      by_cases h2 : y + max (top t) (t.sum + x) > 0
      · rw [if_pos h2, if_pos (by omega)]
      · rw [if_neg h2, if_neg (by omega), if_neg (by omega)]
    · rw [if_neg h1, Int.max_eq_left (show t.sum + x ≤ top t by omega)]
      have e : ¬ y + t.sum + x > max 0 (y + top t) := by omega
      rw [if_neg e]
theorem map_sum_congr {L : List Nat} {f g : Nat → Nat} (h : ∀ i ∈ L, f i = g i) : (L.map f).sum = (L.map g).sum := by rw [List.map_congr_left h]
theorem perm_sum {l l' : List Int} (h : l.Perm l') : l.sum = l'.sum := by
  induction h with
  | nil => rfl
  | cons x _ ih => simp only [List.sum_cons]; rw [ih]
  | swap x y w => simp only [List.sum_cons]; omega
  | trans _ _ h1 h2 => rw [h1, h2]
/-- As many orders are ahead j times as are greatest, for the first time, at place j. -/
theorem andersen {E : List Int → Nat → List Int} (hE : Takes E) : ∀ (n : Nat) (l : List Int), l.length = n → ∀ j, (gen E n l).countP (fun w => pos 0 w == j) = (gen E n l).countP (fun w => fst w == j) := by
  intro n
  induction n with
  | zero =>
    intro l hl j
    simp [gen, pos, fst]
  | succ n ih =>
    intro l hl j
    have hlen : ∀ i, i < l.length → (E l i).length = n := fun i hlt => by rw [(hE l i hlt).length_eq, List.length_eraseIdx]; simp [hlt]; omega
    have hsum : ∀ i, i < l.length → ∀ w ∈ gen E n (E l i), w.sum + l.getD i 0 = l.sum := fun i hlt w hw => by
      have h1 := perm_sum ((gen_mem hE n _ (hlen i hlt) w hw).trans (hE l i hlt))
      have h2 := perm_sum (cons_eraseIdx l i hlt)
      have e : l.getD i 0 = l[i] := by simp [List.getD_eq_getElem?_getD, hlt]
      rw [List.sum_cons] at h2
      rw [e]; omega
    by_cases hs : l.sum > 0
    · rw [gen_snoc hE n l hl, gen_cons]
      refine map_sum_congr fun i hi => ?_
      have hlt : i < l.length := List.mem_range.1 hi
      have e1 : (gen E n (E l i)).countP (fun w => pos 0 (w ++ [l.getD i 0]) == j) = (gen E n (E l i)).countP (fun w => pos 0 w + 1 == j) := by
        refine List.countP_congr fun w hw => ?_
        have := hsum i hlt w hw
        rw [pos_snoc, if_pos (by omega)]
      have e2 : (gen E n (E l i)).countP (fun w => fst (l.getD i 0 :: w) == j) = (gen E n (E l i)).countP (fun w => fst w + 1 == j) := by
        refine List.countP_congr fun w hw => ?_
        have h1 := hsum i hlt w hw
        have h2 := sum_le_top w
        rw [fst, if_pos (by omega)]
      rw [e1, e2]
      cases j with
      | zero => simp
      | succ j => simpa using ih _ (hlen i hlt) j
    · rw [gen_snoc hE n l hl, gen_snoc hE n l hl]
      refine map_sum_congr fun i hi => ?_
      have hlt : i < l.length := List.mem_range.1 hi
      have e1 : (gen E n (E l i)).countP (fun w => pos 0 (w ++ [l.getD i 0]) == j) = (gen E n (E l i)).countP (fun w => pos 0 w == j) := by
        refine List.countP_congr fun w hw => ?_
        have := hsum i hlt w hw
        rw [pos_snoc, if_neg (by omega)]; rfl
      have e2 : (gen E n (E l i)).countP (fun w => fst (w ++ [l.getD i 0]) == j) = (gen E n (E l i)).countP (fun w => fst w == j) := by
        refine List.countP_congr fun w hw => ?_
        have h1 := hsum i hlt w hw
        have h2 := top_nonneg w
        rw [fst_snoc, if_neg (by omega)]
      rw [e1, e2]
      exact ih _ (hlen i hlt) j
def fact : Nat → Nat
  | 0 => 1
  | n + 1 => (n + 1) * fact n
theorem gen_length {E : List Int → Nat → List Int} (hE : Takes E) : ∀ (n : Nat) (l : List Int), l.length = n → (gen E n l).length = fact n := by
  intro n
  induction n with
  | zero => intro l _; rfl
  | succ n ih =>
    intro l hl
    have hlen : ∀ i, i < l.length → (E l i).length = n := fun i hlt => by rw [(hE l i hlt).length_eq, List.length_eraseIdx]; simp [hlt]; omega
    rw [gen, List.length_flatMap]
    have : (List.range l.length).map (fun i => ((gen E n (E l i)).map (l.getD i 0 :: ·)).length) = (List.range l.length).map fun _ => fact n := by
      refine List.map_congr_left fun i hi => ?_
      rw [List.length_map, ih _ (hlen i (List.mem_range.1 hi))]
    rw [this, List.map_const', List.sum_replicate_nat, List.length_range, hl, fact]
theorem pos_le : ∀ (w : List Int) (s : Int), pos s w ≤ w.length
  | [], _ => Nat.le_refl _
  | x :: t, s => by rw [pos, List.length_cons]; have := pos_le t (s + x); split <;> omega
theorem fst_le : ∀ w : List Int, fst w ≤ w.length
  | [] => Nat.le_refl _
  | x :: t => by rw [fst, List.length_cons]; have := fst_le t; split <;> omega
end Go.Proofs.YtldohjlcckbfaaaGreatDoor.Math
