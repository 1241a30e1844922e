/- The exchange of a walk's parts. -/
import Derived.Test.YtnjimbgfafkogaaDoorEvF
namespace Go.Proofs.YtnjimbgfafkogaaDoor.Pure
open Go.RowKit Go.Proofs.YtnjimbgfafkogaaDoor.Hand Go.Proofs.YtnjimbgfafkogaaDoor.Pre Go.Proofs.YtnjimbgfafkogaaDoor.Bal Go.Proofs.YtnjimbgfafkogaaDoor.Base Go.Proofs.YtnjimbgfafkogaaDoor.Print Go.Proofs.YtnjimbgfafkogaaDoor.Math Go.Proofs.YtnjimbgfafkogaaDoorW.PrintWords Go.Proofs.YtnjimbgfafkogaaDoorW.PrintLast Go.Proofs.YtnjimbgfafkogaaDoorW.PrintMore
set_option linter.unusedVariables false
set_option linter.unusedSimpArgs false

theorem noUp_iff (m : Int) : ∀ (P : List Bool) (b : Int), noUp m b P ↔ ∀ i, (h : i < P.length) → ¬ (fin b (P.take i) = m ∧ P[i] = true)
  | [], b => by simp [noUp]
  | c :: t, b => by
    rw [noUp, noUp_iff m t]
    constructor
    · intro ⟨h1, h2⟩ i hi
      cases i with
      | zero => simpa [fin] using h1
      | succ i =>
        have := h2 i (by simpa using hi)
        rw [List.take_succ_cons, fin]
        simpa using this
    · intro h
      refine ⟨fun g => h 0 (by simp) ⟨g.1, g.2⟩, fun i hi => ?_⟩
      have := h (i + 1) (by simpa using hi)
      rw [List.take_succ_cons, fin] at this
      simpa using this
theorem upAt_iff (m : Int) (P : List Bool) (i : Nat) (h : i < P.length) : upAt m P i ↔ fin 0 (P.take i) = m ∧ P[i] = true := by
  unfold upAt
  rw [fin_take P i h]
  rcases st_cases P[i] with ⟨c, v⟩ | ⟨c, v⟩
  · rw [v, c]
    exact ⟨fun h => ⟨h.1, rfl⟩, fun h => ⟨h.1, by omega⟩⟩
  · rw [v, c]
    exact ⟨fun h => absurd h.2 (by omega), fun h => by cases h.2⟩
theorem firstUp_spec (m : Int) (P : List Bool) (d : Nat) : ∀ i, i + d = P.length → (firstUp m P i d = -1 ∧ ∀ j, i ≤ j → j < P.length → ¬ upAt m P j) ∨ (∃ j, i ≤ j ∧ j < P.length ∧ firstUp m P i d = (j : Int) ∧ upAt m P j ∧ ∀ q, i ≤ q → q < j → ¬ upAt m P q) := by
  induction d with
  | zero => intro i hi; exact .inl ⟨rfl, fun j h1 h2 => by omega⟩
  | succ d ih =>
    intro i hi
    rw [firstUp]
    by_cases c : upAt m P i
    · rw [if_pos c]
      exact .inr ⟨i, Nat.le_refl _, by omega, rfl, c, fun q h1 h2 => by omega⟩
    · rw [if_neg c]
      rcases ih (i + 1) (by omega) with ⟨h1, h2⟩ | ⟨j, h1, h2, h3, h4, h5⟩
      · refine .inl ⟨h1, fun j hj1 hj2 => ?_⟩
        by_cases e : j = i
        · subst e; exact c
        · exact h2 j (by omega) hj2
      · refine .inr ⟨j, by omega, h2, h3, h4, fun q hq1 hq2 => ?_⟩
        by_cases e : q = i
        · subst e; exact c
        · exact h5 q (by omega) hq2
theorem lastUp_spec (m : Int) (P : List Bool) : ∀ i, i ≤ P.length → (lastUp m P i = -1 ∧ ∀ j, j < i → ¬ upAt m P j) ∨ (∃ j, j < i ∧ lastUp m P i = (j : Int) ∧ upAt m P j ∧ ∀ q, j < q → q < i → ¬ upAt m P q)
  | 0, _ => .inl ⟨rfl, fun j h => by omega⟩
  | i + 1, hi => by
    rw [lastUp]
    by_cases c : upAt m P i
    · rw [if_pos c]
      exact .inr ⟨i, by omega, rfl, c, fun q h1 h2 => by omega⟩
    · rw [if_neg c]
      rcases lastUp_spec m P i (by omega) with ⟨h1, h2⟩ | ⟨j, h1, h3, h4, h5⟩
      · refine .inl ⟨h1, fun j hj => ?_⟩
        by_cases e : j = i
        · subst e; exact c
        · exact h2 j (by omega)
      · refine .inr ⟨j, by omega, h3, h4, fun q hq1 hq2 => ?_⟩
        by_cases e : q = i
        · subst e; exact c
        · exact h5 q hq1 (by omega)
theorem split_at (P : List Bool) (i : Nat) (h : i < P.length) (hc : P[i] = true) : P = P.take i ++ true :: P.drop (i + 1) := by
  conv => lhs; rw [← List.take_append_drop i P, List.drop_eq_getElem_cons h, hc]
theorem exch_eq (A B : List Bool) : exch (A ++ true :: B) A.length = B ++ true :: A := by
  unfold exch
  have h1 : (A ++ true :: B).drop (A.length + 1) = B := by simp
  have h2 : (A ++ true :: B).take A.length = A := by simp
  have h3 : ((A ++ true :: B).take (A.length + 1)).drop A.length = [true] := by
    rw [List.drop_take]; simp
  rw [h1, h2, h3]; rfl
theorem take_app {A B : List Bool} {i : Nat} (h : i ≤ A.length) : (A ++ B).take i = A.take i := List.take_append_of_le_length h
/-- Places of A ++ true :: B, for a step up from m at the place between. -/
theorem upAt_left (m : Int) (A B : List Bool) (i : Nat) (h : i < A.length) : upAt m (A ++ true :: B) i ↔ (fin 0 (A.take i) = m ∧ A[i] = true) := by
  rw [upAt_iff m _ i (by simp; omega), take_app (by omega), List.getElem_append_left h]
theorem upAt_mid (m : Int) (A B : List Bool) : upAt m (A ++ true :: B) A.length ↔ fin 0 A = m := by
  rw [upAt_iff m _ _ (by simp), take_app (Nat.le_refl _), List.take_length]
  simp
theorem upAt_right (m : Int) (A B : List Bool) (i : Nat) (h : i < B.length) : upAt m (A ++ true :: B) (A.length + 1 + i) ↔ (fin (fin 0 A + 1) (B.take i) = m ∧ B[i] = true) := by
  rw [upAt_iff m _ _ (by simp; omega)]
  have h1 : (A ++ true :: B).take (A.length + 1 + i) = A ++ true :: B.take i := by
    rw [List.take_append, List.take_of_length_le (by omega), show A.length + 1 + i - A.length = i + 1 by omega, List.take_succ_cons]
  have h2 : (A ++ true :: B)[A.length + 1 + i]'(by simp; omega) = B[i] := by
    rw [List.getElem_append_right (by omega)]
    simp only [show A.length + 1 + i - A.length = i + 1 by omega, List.getElem_cons_succ]
  rw [h1, h2, fin_append, fin]; rfl
theorem firstUp_at (m : Int) (A B : List Bool) (h1 : fin 0 A = m) (h2 : noUp m 0 A) : firstUp m (A ++ true :: B) 0 (A ++ true :: B).length = (A.length : Int) := by
  rcases firstUp_spec m (A ++ true :: B) _ 0 (Nat.zero_add _) with ⟨_, h⟩ | ⟨j, _, hj, he, hu, hq⟩
  · exact absurd ((upAt_mid m A B).2 h1) (h A.length (by omega) (by simp))
  · rw [he]
    by_cases c1 : j < A.length
    · exact absurd ((upAt_left m A B j c1).1 hu) ((noUp_iff m A 0).1 h2 j c1)
    · by_cases c2 : j = A.length
      · rw [c2]
      · exact absurd ((upAt_mid m A B).2 h1) (hq A.length (by omega) (by omega))
theorem lastUp_at (m : Int) (A B : List Bool) (h1 : fin 0 A = m) (h2 : noUp m (m + 1) B) : lastUp m (A ++ true :: B) (A ++ true :: B).length = (A.length : Int) := by
  rcases lastUp_spec m (A ++ true :: B) _ (Nat.le_refl _) with ⟨_, h⟩ | ⟨j, hj, he, hu, hq⟩
  · exact absurd ((upAt_mid m A B).2 h1) (h A.length (by simp))
  · rw [he]
    by_cases c1 : j < A.length
    · exact absurd ((upAt_mid m A B).2 h1) (hq A.length c1 (by simp))
    · by_cases c2 : j = A.length
      · rw [c2]
      · obtain ⟨q, rfl⟩ : ∃ q, j = A.length + 1 + q := ⟨j - (A.length + 1), by omega⟩
        have hql : q < B.length := by simp at hj; omega
        have := (upAt_right m A B q hql).1 hu
        rw [h1] at this
        exact absurd this ((noUp_iff m B (m + 1)).1 h2 q hql)
theorem firstUp_split (m : Int) (P : List Bool) (j : Nat) (h : firstUp m P 0 P.length = (j : Int)) : ∃ A B, P = A ++ true :: B ∧ A.length = j ∧ fin 0 A = m ∧ noUp m 0 A := by
  rcases firstUp_spec m P _ 0 (Nat.zero_add _) with ⟨h1, _⟩ | ⟨i, _, hi, he, hu, hq⟩
  · omega
  · obtain rfl : i = j := by omega
    have hc := (upAt_iff m P i hi).1 hu
    have hl : (P.take i).length = i := by rw [List.length_take]; omega
    refine ⟨P.take i, P.drop (i + 1), split_at P i hi hc.2, hl, hc.1, (noUp_iff m _ 0).2 fun q hql => ?_⟩
    intro hcon
    refine hq q (by omega) (by omega) ((upAt_iff m P q (by omega)).2 ?_)
    rw [List.take_take, Nat.min_eq_left (by omega)] at hcon
    exact ⟨hcon.1, by have := hcon.2; rwa [List.getElem_take] at this⟩
theorem lastUp_split (m : Int) (P : List Bool) (j : Nat) (h : lastUp m P P.length = (j : Int)) : ∃ A B, P = A ++ true :: B ∧ A.length = j ∧ fin 0 A = m ∧ noUp m (m + 1) B := by
  rcases lastUp_spec m P _ (Nat.le_refl _) with ⟨h1, _⟩ | ⟨i, hi, he, hu, hq⟩
  · omega
  · obtain rfl : i = j := by omega
    have hc := (upAt_iff m P i hi).1 hu
    have hl : (P.take i).length = i := by rw [List.length_take]; omega
    have hs := split_at P i hi hc.2
    refine ⟨P.take i, P.drop (i + 1), hs, hl, hc.1, (noUp_iff m _ _).2 fun q hql => ?_⟩
    intro hcon
    have hql' : q < P.length - (i + 1) := by simpa using hql
    refine hq (i + 1 + q) (by omega) (by omega) ?_
    have := (upAt_right m (P.take i) (P.drop (i + 1)) q hql).2 (by rw [hc.1]; exact hcon)
    rw [hl, ← hs] at this
    exact this
theorem firstUp_none (m : Int) (P : List Bool) (h : firstUp m P 0 P.length < 0) : noUp m 0 P := by
  rcases firstUp_spec m P _ 0 (Nat.zero_add _) with ⟨_, h1⟩ | ⟨i, _, hi, he, hu, hq⟩
  · exact (noUp_iff m P 0).2 fun i hi hc => h1 i (by omega) hi ((upAt_iff m P i hi).2 hc)
  · omega
theorem lastUp_none (m : Int) (P : List Bool) (h : lastUp m P P.length < 0) : noUp m 0 P := by
  rcases lastUp_spec m P _ (Nat.le_refl _) with ⟨_, h1⟩ | ⟨i, hi, he, hu, hq⟩
  · exact (noUp_iff m P 0).2 fun i hi hc => h1 i hi ((upAt_iff m P i hi).2 hc)
  · omega
theorem noUp_up1 (A : List Bool) (h : noUp (-1) 0 A) : noUp 0 1 A := by
  have := (noUp_shift (-1) 1 A 0).2 h
  exact this
theorem noUp_down1 (B : List Bool) (h : noUp 0 1 B) : noUp (-1) 0 B := by
  refine (noUp_shift (-1) 1 B 0).1 ?_
  exact h
/-- More: two steps more above, and Less leads back. -/
theorem more_law (P : List Bool) (hf : fin 0 P = 0) (j : Nat) (h : firstUp (-1) P 0 P.length = (j : Int)) :
    fin 0 (exch P j) = 0 ∧ abv 0 (exch P j) = abv 0 P + 2 ∧ ∃ q : Nat, lastUp 0 (exch P j) (exch P j).length = (q : Int) ∧ exch (exch P j) q = P := by
  obtain ⟨A, B, rfl, rfl, h1, h2⟩ := firstUp_split (-1) P j h
  obtain ⟨e1, e2, e3⟩ := exchange_above A B h1 h2 hf
  rw [exch_eq]
  exact ⟨e1, e2, B.length, lastUp_at 0 B A e3 (noUp_up1 A h2), exch_eq B A⟩
/-- Less: two steps fewer above, and More leads back. -/
theorem less_law (P : List Bool) (hf : fin 0 P = 0) (j : Nat) (h : lastUp 0 P P.length = (j : Int)) :
    fin 0 (exch P j) = 0 ∧ abv 0 P = abv 0 (exch P j) + 2 ∧ ∃ q : Nat, firstUp (-1) (exch P j) 0 (exch P j).length = (q : Int) ∧ exch (exch P j) q = P := by
  obtain ⟨A, B, rfl, rfl, h1, h2⟩ := lastUp_split 0 P j h
  have n2 := noUp_down1 B h2
  have hB : fin 0 B = -1 := by
    rw [fin_append, h1, fin] at hf
    have := fin_shift 1 B 0
    have e : fin (0 + st true) B = fin (0 + 1) B := rfl
    rw [e] at hf
    omega
  have hf2 : fin 0 (B ++ true :: A) = 0 := by
    rw [fin_append, hB, fin]
    exact h1
  obtain ⟨e1, e2, e3⟩ := exchange_above B A hB n2 hf2
  rw [exch_eq]
  exact ⟨hf2, e2, B.length, firstUp_at (-1) B A hB n2, exch_eq B A⟩
theorem more_iff (P : List Bool) (hf : fin 0 P = 0) : firstUp (-1) P 0 P.length < 0 ↔ ¬ abv 0 P < P.length := by
  constructor
  · intro h c
    exact up_exists P 0 (.inr c) (by omega) (firstUp_none (-1) P h)
  · intro h
    rcases firstUp_spec (-1) P _ 0 (Nat.zero_add _) with ⟨h1, _⟩ | ⟨i, _, hi, he, hu, hq⟩
    · omega
    · have hc := (upAt_iff (-1) P i hi).1 hu
      have hs := split_at P i hi hc.2
      have h1 := abv_le (P.take i) 0
      have h2 := abv_le (P.drop (i + 1)) (-1 + st true)
      have h3 : abv 0 P = abv 0 (P.take i) + (0 + abv (-1 + st true) (P.drop (i + 1))) := by
        conv => lhs; rw [hs]
        rw [abv_append, hc.1, abv, if_neg (by simp [st])]
      have h4 : P.length = (P.take i).length + ((P.drop (i + 1)).length + 1) := by
        conv => lhs; rw [hs]
        rw [List.length_append, List.length_cons]
      omega
theorem less_iff (P : List Bool) (hf : fin 0 P = 0) : lastUp 0 P P.length < 0 ↔ ¬ 0 < abv 0 P := by
  constructor
  · intro h c
    exact up0_exists P 0 c (by omega) (lastUp_none 0 P h)
  · intro h
    rcases lastUp_spec 0 P _ (Nat.le_refl _) with ⟨h1, _⟩ | ⟨i, hi, he, hu, hq⟩
    · omega
    · have hc := (upAt_iff 0 P i hi).1 hu
      have hs := split_at P i hi hc.2
      have h3 : abv 0 P = abv 0 (P.take i) + (1 + abv (0 + st true) (P.drop (i + 1))) := by
        conv => lhs; rw [hs]
        rw [abv_append, hc.1, abv, if_pos (by simp [st])]
      omega

end Go.Proofs.YtnjimbgfafkogaaDoor.Pure
