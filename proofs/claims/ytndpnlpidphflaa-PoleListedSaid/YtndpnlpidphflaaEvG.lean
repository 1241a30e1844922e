/- Cycles, struck out one by one. -/
import Derived.Test.YtndpnlpidphflaaPrint2
import Derived.Test.YtndpnlpidphflaaEvF
namespace Go.Proofs.Ytndpnlpidphflaa.Pure
open Go.RowKit Go.Proofs.Ytndpnlpidphflaa.Print Go.Proofs.Ytndpnlpidphflaa.Math Go.Proofs.YtndpnlpidphflaaW.PrintWords Go.Proofs.YtndpnlpidphflaaW.PrintLast Go.Proofs.YtndpnlpidphflaaW.PrintMore
set_option linter.unusedVariables false

open Go.Proofs.Ytndpnlpidphflaa.Hand

/-- A list of n customers, each once. -/
structure Perm (l : List Int) (n : Nat) : Prop where
  len : l.length = n
  range : ∀ i : Nat, i < n → 0 ≤ rd l i ∧ rd l i < n
  inj : ∀ i j : Nat, i < n → j < n → rd l i = rd l j → i = j

theorem perm_order (k : Int) (n : Nat) : Perm (jst k n n).1 n := by
  refine ⟨jst_out _ _ _, fun i hi => ?_, fun i j hi hj h => ?_⟩
  · rw [jst_rd k n n (Nat.le_refl _) i hi]
    exact atv_range (n : Int) k i (by omega) (by omega)
  · rw [jst_rd k n n (Nat.le_refl _) i hi, jst_rd k n n (Nat.le_refl _) j hj] at h
    have h1 := turn_at k i n hi
    have h2 := turn_at k j n hj
    rw [h, h2] at h1
    omega

def B (m : List Bool) (i : Nat) : Bool := m.getD i false
theorem rdOf_nat (m : List Bool) (i : Nat) : rdOf false m (i : Int) = B m i := by simp [rdOf, B]
theorem B_set {m : List Bool} {i : Nat} (h : i < m.length) (j : Nat) : B (m.set i true) j = if i = j then true else B m j := by
  unfold B
  rw [List.getD_eq_getElem?_getD, List.getElem?_set]
  by_cases e : i = j
  · subst e; simp [h]
  · simp [e]

/-- From a customer on, till one who is struck out. -/
def wk (l : List Int) : Nat → List Bool → Nat → Int → Option (List Bool × Int)
  | 0, _, _, _ => none
  | f + 1, m, a, long => if B m a then some (m, long) else wk l f (m.set a true) (rd l a).toNat (long + 1)

def U (m : List Bool) : Nat := m.countP (fun b => !b)
theorem U_set {m : List Bool} {a : Nat} (ha : a < m.length) (hb : B m a = false) : U (m.set a true) + 1 = U m := by
  unfold U
  have hm : m[a] = false := by unfold B at hb; simpa [ha] using hb
  rw [List.countP_set ha]
  have : 0 < m.countP (fun b => !b) := List.countP_pos_iff.2 ⟨m[a], List.getElem_mem ha, by simp [hm]⟩
  simp [hm]
  omega

/-- What is known on the way from s. -/
structure Way (l : List Int) (n : Nat) (s a : Nat) (m : List Bool) (t : Bool) : Prop where
  len : m.length = n
  an : a < n
  fwd : ∀ j, j < n → B m j = true → B m (rd l j).toNat = true ∨ (rd l j).toNat = a
  bwd : ∀ j, j < n → B m (rd l j).toNat = true → B m j = true ∨ (rd l j).toNat = s
  from_ : (t = false ∧ a = s) ∨ ∃ j, j < n ∧ B m j = true ∧ (rd l j).toNat = a
  hit : B m a = true → a = s ∧ t = true

def Shut (l : List Int) (n : Nat) (m : List Bool) : Prop := m.length = n ∧ ∀ j, j < n → (B m (rd l j).toNat = B m j)

theorem inj_nat {l : List Int} {n : Nat} (hl : Perm l n) {i j : Nat} (hi : i < n) (hj : j < n) (h : (rd l i).toNat = (rd l j).toNat) : i = j :=
  hl.inj i j hi hj (by have := hl.range i hi; have := hl.range j hj; omega)

theorem ite_or {p : Prop} [Decidable p] {b : Bool} (h : b = true) : (if p then true else b) = true := by split <;> simp [h]
theorem way_step {l : List Int} {n s a : Nat} {m : List Bool} {t : Bool} (hl : Perm l n) (h : Way l n s a m t) (hb : B m a = false) : Way l n s (rd l a).toNat (m.set a true) true := by
  obtain ⟨h1, h2, h3, h4, h5, h6⟩ := h
  have hB := B_set (m := m) (i := a) (by omega)
  have hr := hl.range a h2
  refine ⟨by rw [List.length_set]; exact h1, by omega, fun j hj hm => ?_, fun j hj hm => ?_, .inr ⟨a, h2, by rw [hB]; simp, rfl⟩, fun hm => ⟨?_, rfl⟩⟩
  · rw [hB] at hm ⊢
    by_cases e : a = j
    · subst e; exact .inr rfl
    · rw [if_neg e] at hm
      rcases h3 j hj hm with h | h
      · left; exact ite_or h
      · left; rw [if_pos h.symm]
  · rw [hB] at hm ⊢
    by_cases e : a = (rd l j).toNat
    · rcases h5 with ⟨_, h5⟩ | ⟨j1, hj1, hm1, he1⟩
      · right; omega
      · left
        have : j = j1 := inj_nat hl hj hj1 (by omega)
        subst this
        exact ite_or hm1
    · rw [if_neg e] at hm
      rcases h4 j hj hm with h | h
      · left; exact ite_or h
      · exact .inr h
  · rw [hB] at hm
    by_cases e : a = (rd l a).toNat
    · rcases h5 with ⟨_, h5⟩ | ⟨j1, hj1, hm1, he1⟩
      · omega
      · have : j1 = a := inj_nat hl hj1 h2 (by omega)
        subst this
        rw [hb] at hm1; cases hm1
    · rw [if_neg e] at hm
      rcases h4 a h2 hm with h | h
      · rw [hb] at h; cases h
      · exact h

/-- A fixed customer is struck out by its own way alone. -/
theorem fixed_way {l : List Int} {n s a : Nat} {m : List Bool} {t : Bool} (hl : Perm l n) (h : Way l n s a m t) (hb : B m a = false) (hf : (rd l a).toNat = a) : a = s := by
  rcases h.from_ with ⟨_, h5⟩ | ⟨j1, hj1, hm1, he1⟩
  · exact h5
  · have : j1 = a := inj_nat hl hj1 h.an (by omega)
    subst this
    rw [hb] at hm1; cases hm1

theorem wk_le (l : List Int) (f : Nat) : ∀ m a long m' long', wk l f m a long = some (m', long') → long ≤ long' := by
  induction f with
  | zero => intro m a long m' long' h; simp [wk] at h
  | succ f ih =>
    intro m a long m' long' h
    simp only [wk] at h
    split at h
    · simp at h; omega
    · have := ih _ _ _ _ _ h; omega

theorem wk_stop {l : List Int} {n s a : Nat} {m : List Bool} {t : Bool} {long : Int} (hl : Perm l n) (h : Way l n s a m t) (hb : B m a = true) :
    ∃ f m' long', wk l f m a long = some (m', long') ∧ Shut l n m' ∧ long' + U m' = long + U m ∧ long ≤ long' ∧ (∀ j, B m j = true → B m' j = true) ∧ (∀ j, j < n → (rd l j).toNat = j → B m' j = true → B m j = true ∨ j = s) := by
  obtain ⟨rfl, rfl⟩ := h.hit hb
  refine ⟨1, m, long, by simp [wk, hb], ⟨h.len, fun j hj => ?_⟩, rfl, Int.le_refl _, fun _ h => h, fun _ _ _ h => .inl h⟩
  rw [Bool.eq_iff_iff]
  constructor
  · intro hm
    rcases h.bwd j hj hm with h1 | h1
    · exact h1
    · rcases h.from_ with ⟨h2, _⟩ | ⟨j1, hj1, hm1, he1⟩
      · cases h2
      · have : j = j1 := inj_nat hl hj hj1 (by omega)
        subst this; exact hm1
  · intro hm
    rcases h.fwd j hj hm with h1 | h1
    · exact h1
    · rw [h1]; exact hb

theorem wk_main {l : List Int} {n : Nat} (hl : Perm l n) (s : Nat) (d : Nat) : ∀ (m : List Bool) (a : Nat) (long : Int) (t : Bool), Way l n s a m t → U m ≤ d →
    ∃ f m' long', wk l f m a long = some (m', long') ∧ Shut l n m' ∧ long' + U m' = long + U m ∧ long ≤ long' ∧ (∀ j, B m j = true → B m' j = true) ∧ (∀ j, j < n → (rd l j).toNat = j → B m' j = true → B m j = true ∨ j = s) := by
  induction d with
  | zero =>
    intro m a long t h hU
    by_cases hb : B m a = true
    · exact wk_stop hl h hb
    · have := U_set (m := m) (a := a) (by have := h.len; have := h.an; omega) (by simpa using hb)
      omega
  | succ d ih =>
    intro m a long t h hU
    by_cases hb : B m a = true
    · exact wk_stop hl h hb
    · have hb : B m a = false := by simpa using hb
      have hu := U_set (m := m) (a := a) (by have := h.len; have := h.an; omega) hb
      obtain ⟨f, m', long', e, p1, p2, p3, p4, p5⟩ := ih (m.set a true) (rd l a).toNat (long + 1) true (way_step hl h hb) (by omega)
      have hB := B_set (m := m) (i := a) (by have := h.len; have := h.an; omega)
      refine ⟨f + 1, m', long', by simp only [wk, hb]; exact e, p1, by omega, by omega, fun j hj => p4 j (by rw [hB]; exact ite_or hj), fun j hj hf hm => ?_⟩
      rcases p5 j hj hf hm with h1 | h1
      · rw [hB] at h1
        by_cases ea : a = j
        · subst ea
          exact .inr (fixed_way hl h hb hf)
        · rw [if_neg ea] at h1; exact .inl h1
      · exact .inr h1

/-- A whole way: from a customer who is left. -/
theorem wk_whole {l : List Int} {n : Nat} (hl : Perm l n) {m : List Bool} (hm : Shut l n m) (s : Nat) (hs : s < n) (hb : B m s = false) :
    ∃ f m' long', wk l f m s 0 = some (m', long') ∧ Shut l n m' ∧ long' + U m' = U m ∧ 1 ≤ long' ∧ (∀ j, B m j = true → B m' j = true) ∧ B m' s = true ∧ (∀ j, j < n → (rd l j).toNat = j → B m' j = true → B m j = true ∨ j = s) ∧ (long' = 1 ↔ rd l s = s) := by
  have w0 : Way l n s s m false := ⟨hm.1, hs, fun j hj h => .inl (by rw [hm.2 j hj]; exact h), fun j hj h => .inl (by rw [← hm.2 j hj]; exact h), .inl ⟨rfl, rfl⟩, fun h => by rw [hb] at h; cases h⟩
  have w1 := way_step hl w0 hb
  have hlen := hm.1
  have hB := B_set (m := m) (i := s) (by omega)
  have hu := U_set (m := m) (a := s) (by omega) hb
  have hr := hl.range s hs
  obtain ⟨f, m', long', e, p1, p2, p3, p4, p5⟩ := wk_main hl s _ _ _ 1 true w1 (Nat.le_refl _)
  refine ⟨f + 1, m', long', by simp only [wk, hb]; exact e, p1, by omega, by omega, fun j hj => p4 j (by rw [hB]; exact ite_or hj), p4 s (by rw [hB]; simp), fun j hj hf hmj => ?_, ?_⟩
  · rcases p5 j hj hf hmj with h1 | h1
    · rw [hB] at h1
      by_cases ea : s = j
      · exact .inr ea.symm
      · rw [if_neg ea] at h1; exact .inl h1
    · exact .inr h1
  · constructor
    · intro h1
      -- nothing more was struck out: the next one is s
      cases hn : B (m.set s true) (rd l s).toNat with
      | true =>
        have := (w1.hit hn).1
        omega
      | false =>
        have h2 := p4
        cases f with
        | zero => simp [wk] at e
        | succ f =>
          simp only [wk, hn] at e
          have := wk_le l f _ _ _ _ _ e
          omega
    · intro h1
      have hn : B (m.set s true) (rd l s).toNat = true := by rw [hB, h1]; simp
      cases f with
      | zero => simp [wk] at e
      | succ f =>
        simp only [wk, hn] at e
        simp at e
        omega

end Go.Proofs.Ytndpnlpidphflaa.Pure
