namespace Go.Proofs.YtldohjlcckbfaaaGreatDoor.Math
/-! Rotations: the periodic sums. -/
def per (l : List Int) (i : Nat) : Int := l.getD (i % l.length) 0
def S (l : List Int) : Nat → Int
  | 0 => 0
  | i + 1 => S l i + per l i
def good (l : List Int) (r : Nat) : Bool := (List.range l.length).all fun j => decide (S l (r + j + 1) > S l r)
theorem good_iff (l : List Int) (r : Nat) : good l r = true ↔ ∀ j, j < l.length → S l (r + j + 1) > S l r := by
  simp [good]
theorem per_add (l : List Int) (i : Nat) : per l (i + l.length) = per l i := by simp [per]
theorem S_take (l : List Int) : ∀ i, i ≤ l.length → S l i = (l.take i).sum
  | 0, _ => by simp [S]
  | i + 1, h => by
    rw [S, S_take l i (by omega), per, Nat.mod_eq_of_lt (by omega), List.take_add_one, List.sum_append]
    simp [List.getD_eq_getElem?_getD, List.getElem?_eq_getElem (show i < l.length by omega)]
theorem S_per (l : List Int) : ∀ i, S l (i + l.length) = S l i + l.sum
  | 0 => by rw [Nat.zero_add, S_take l _ (Nat.le_refl _), List.take_length]; simp [S]
  | i + 1 => by rw [show i + 1 + l.length = (i + l.length) + 1 by omega, S, S_per l i, per_add, S]; omega
def mini (T : Nat → Int) (a : Nat) : Nat → Int
  | 0 => T a
  | k + 1 => min (mini T a k) (T (a + k + 1))
theorem mini_le (T : Nat → Int) (a : Nat) : ∀ k j, j ≤ k → mini T a k ≤ T (a + j)
  | 0, j, h => by obtain rfl : j = 0 := by omega
                  exact Int.le_refl _
  | k + 1, j, h => by
    rw [mini]
    by_cases e : j = k + 1
    · subst e; exact Int.min_le_right _ _
    · exact Int.le_trans (Int.min_le_left _ _) (mini_le T a k j (by omega))
theorem mini_mem (T : Nat → Int) (a : Nat) : ∀ k, ∃ j, j ≤ k ∧ mini T a k = T (a + j)
  | 0 => ⟨0, Nat.le_refl _, rfl⟩
  | k + 1 => by
    obtain ⟨j, hj, e⟩ := mini_mem T a k
    rw [mini]
    by_cases c : mini T a k ≤ T (a + k + 1)
    · exact ⟨j, by omega, by rw [Int.min_eq_left c, e]⟩
    · exact ⟨k + 1, Nat.le_refl _, by rw [Int.min_eq_right (by omega)]; rfl⟩

/-- One step of the least balance of a turn. -/
theorem mini_step (l : List Int) (p : Nat) (hp : l.length = p + 1) (hs : 0 < l.sum) (r : Nat) :
    (good l r = true → mini (S l) r p = S l r ∧ S l r < mini (S l) (r + 1) p) ∧ (good l r = false → mini (S l) (r + 1) p = mini (S l) r p) := by
  have hper := S_per l r
  rw [hp] at hper
  constructor
  · intro hg
    rw [good_iff] at hg
    constructor
    · obtain ⟨j, hj, e⟩ := mini_mem (S l) r p
      have h1 := mini_le (S l) r p 0 (by omega)
      rw [Nat.add_zero] at h1
      cases j with
      | zero => exact e
      | succ j => have := hg j (by omega); rw [← Nat.add_assoc] at e; omega
    · obtain ⟨j, hj, e⟩ := mini_mem (S l) (r + 1) p
      have := hg j (by omega)
      rw [e, show r + 1 + j = r + j + 1 by omega]; omega
  · intro hg
    have hn : ∃ j, j < l.length ∧ ¬ S l (r + j + 1) > S l r := by
      apply Classical.byContradiction
      intro hc
      have : good l r = true := (good_iff l r).2 fun j hj => by
        apply Classical.byContradiction
        exact fun h => hc ⟨j, hj, h⟩
      rw [hg] at this; cases this
    obtain ⟨j, hj, hle⟩ := hn
    obtain ⟨a, ha, ea⟩ := mini_mem (S l) r p
    obtain ⟨b, hb, eb⟩ := mini_mem (S l) (r + 1) p
    have l1 := mini_le (S l) (r + 1) p j (by omega)
    rw [show r + 1 + j = r + j + 1 by omega] at l1
    have l2 : mini (S l) (r + 1) p ≤ mini (S l) r p := by
      cases a with
      | zero => rw [Nat.add_zero] at ea; omega
      | succ a => have := mini_le (S l) (r + 1) p a (by omega); rw [ea, show r + (a + 1) = r + 1 + a by omega]; exact this
    have l3 : mini (S l) r p ≤ mini (S l) (r + 1) p := by
      by_cases e : b = p
      · subst e
        have := mini_le (S l) r b 0 (by omega)
        rw [Nat.add_zero] at this
        rw [show r + 1 + b = r + (b + 1) by omega] at eb; omega
      · have := mini_le (S l) r p (b + 1) (by omega)
        rw [eb, show r + 1 + b = r + (b + 1) by omega]; exact this
    omega
def goods (l : List Int) (n : Nat) : List Nat := (List.range n).filter (good l)
theorem goods_succ (l : List Int) (n : Nat) : goods l (n + 1) = goods l n ++ (if good l n then [n] else []) := by
  unfold goods
  rw [List.range_succ, List.filter_append]
  congr 1
  by_cases h : good l n = true
  · simp [h]
  · simp [h]
theorem mini_many (l : List Int) (p : Nat) (hp : l.length = p + 1) (hs : 0 < l.sum) : ∀ r, mini (S l) 0 p + (goods l r).length ≤ mini (S l) r p
  | 0 => by simp [goods]
  | r + 1 => by
    have ih := mini_many l p hp hs r
    have st := mini_step l p hp hs r
    rw [goods_succ]
    by_cases h : good l r = true
    · have := st.1 h; simp [h]; omega
    · have := st.2 (by simpa using h); simp [h]; omega
theorem mini_exact (l : List Int) (p : Nat) (hp : l.length = p + 1) (hs : 0 < l.sum) (hl : ∀ x ∈ l, x ≤ 1) : ∀ r, mini (S l) r p = mini (S l) 0 p + (goods l r).length
  | 0 => by simp [goods]
  | r + 1 => by
    have ih := mini_exact l p hp hs hl r
    have st := mini_step l p hp hs r
    rw [goods_succ]
    by_cases h : good l r = true
    · have := st.1 h
      have l1 := mini_le (S l) (r + 1) p 0 (by omega)
      have l2 : per l r ≤ 1 := by
        unfold per
        have hlt : r % l.length < l.length := Nat.mod_lt _ (by omega)
        rw [List.getD_eq_getElem?_getD, List.getElem?_eq_getElem hlt]
        exact hl _ (List.getElem_mem hlt)
      rw [Nat.add_zero, S] at l1
      simp [h]; omega
    · have := st.2 (by simpa using h); simp [h]; omega
theorem mini_none (l : List Int) (p : Nat) (hp : l.length = p + 1) (hs : 0 < l.sum) : ∀ r, goods l r = [] → mini (S l) r p = mini (S l) 0 p
  | 0, _ => rfl
  | r + 1, hg => by
    rw [goods_succ, List.append_eq_nil_iff] at hg
    have ih := mini_none l p hp hs r hg.1
    have st := mini_step l p hp hs r
    by_cases h : good l r = true
    · have := hg.2; simp [h] at this
    · rw [st.2 (by simpa using h), ih]
theorem mini_turn (l : List Int) (p : Nat) : mini (S l) l.length p = mini (S l) 0 p + l.sum := by
  have : ∀ k, mini (S l) l.length k = mini (S l) 0 k + l.sum := by
    intro k
    induction k with
    | zero => have := S_per l 0; rw [Nat.zero_add] at this; exact this
    | succ k ih =>
      rw [mini, mini, ih, show l.length + k + 1 = (0 + k + 1) + l.length by omega, S_per]
      omega
  exact this p

/-- All amounts at most 1: as many rotations as the sum. -/
theorem motzkin (l : List Int) (hs : 0 < l.sum) (hl : ∀ x ∈ l, x ≤ 1) : ((goods l l.length).length : Int) = l.sum := by
  obtain ⟨p, hp⟩ : ∃ p, l.length = p + 1 := by
    cases l with
    | nil => simp at hs
    | cons a t => exact ⟨t.length, rfl⟩
  have h1 := mini_exact l p hp hs hl l.length
  rw [mini_turn] at h1
  omega
/-- The sum 1: one rotation. -/
theorem raney (l : List Int) (hs : l.sum = 1) : ∃ r, goods l l.length = [r] ∧ r < l.length := by
  obtain ⟨p, hp⟩ : ∃ p, l.length = p + 1 := by
    cases l with
    | nil => simp at hs
    | cons a t => exact ⟨t.length, rfl⟩
  have h1 := mini_many l p hp (by omega) l.length
  rw [mini_turn] at h1
  cases hg : goods l l.length with
  | nil =>
    have := mini_none l p hp (by omega) l.length hg
    rw [mini_turn] at this; omega
  | cons r t =>
    cases t with
    | nil =>
      have hm : r ∈ goods l l.length := by rw [hg]; simp
      unfold goods at hm
      exact ⟨r, rfl, by simpa using (List.mem_filter.1 hm).1⟩
    | cons r2 t => rw [hg] at h1; simp at h1; omega
/-- No sum above 0: none. -/
theorem no_good (l : List Int) (hs : l.sum ≤ 0) : goods l l.length = [] := by
  unfold goods
  rw [List.filter_eq_nil_iff]
  intro r hr hg
  rw [List.mem_range] at hr
  rw [good_iff] at hg
  have := hg (l.length - 1) (by omega)
  rw [show r + (l.length - 1) + 1 = r + l.length by omega, S_per] at this
  omega
end Go.Proofs.YtldohjlcckbfaaaGreatDoor.Math
