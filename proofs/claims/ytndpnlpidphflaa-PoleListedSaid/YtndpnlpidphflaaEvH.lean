/- Cycles: the lists of the program. -/
import Derived.Test.YtndpnlpidphflaaPrint2
import Derived.Test.YtndpnlpidphflaaEvG
namespace Go.Proofs.Ytndpnlpidphflaa.Pure
open Go.RowKit Go.Proofs.Ytndpnlpidphflaa.Print Go.Proofs.Ytndpnlpidphflaa.Math Go.Proofs.YtndpnlpidphflaaW.PrintWords Go.Proofs.YtndpnlpidphflaaW.PrintLast Go.Proofs.YtndpnlpidphflaaW.PrintMore
set_option linter.unusedVariables false

open Go.Proofs.Ytndpnlpidphflaa.Hand

/-- Customer after customer. -/
inductive WO (l : List Int) (n : Nat) : Nat → List Bool → List Int → List Int → Prop where
  | done (m : List Bool) (out : List Int) : WO l n n m out out
  | skip {i : Nat} {m : List Bool} {out res : List Int} : i < n → B m i = true → WO l n (i + 1) m out res → WO l n i m out res
  | take {i f : Nat} {m m' : List Bool} {out res : List Int} {long : Int} : i < n → B m i = false → wk l f m i 0 = some (m', long) → 1 ≤ long → long ≤ n → WO l n (i + 1) m' (out ++ [long]) res → WO l n i m out res

/-- How many customers below i are called with their own number. -/
def fixed (l : List Int) : Nat → Nat
  | 0 => 0
  | i + 1 => fixed l i + (if rd l i = (i : Int) then 1 else 0)

structure Out (l : List Int) (n i : Nat) (m : List Bool) (out : List Int) : Prop where
  shut : Shut l n m
  sum : out.sum + (U m : Int) = n
  few : out.length + U m ≤ n
  vals : ∀ x ∈ out, 1 ≤ x ∧ x ≤ n
  ones : out.count 1 = fixed l i
  low : ∀ j, j < i → B m j = true
  high : ∀ j, i ≤ j → j < n → (rd l j).toNat = j → B m j = false

theorem wo_ex {l : List Int} {n : Nat} (hl : Perm l n) (d : Nat) : ∀ (i : Nat) (m : List Bool) (out : List Int), i + d = n → Out l n i m out → ∃ res m', WO l n i m out res ∧ Out l n n m' res := by
  induction d with
  | zero =>
    intro i m out h ho
    obtain rfl : i = n := by omega
    exact ⟨out, m, WO.done m out, ho⟩
  | succ d ih =>
    intro i m out h ho
    have hi : i < n := by omega
    have hr := hl.range i hi
    cases hb : B m i with
    | true =>
      have hone : out.count 1 = fixed l (i + 1) := by
        rw [ho.ones, fixed, if_neg, Nat.add_zero]
        intro he
        have := ho.high i (Nat.le_refl _) hi (by omega)
        rw [hb] at this
        cases this
      have hlow : ∀ j, j < i + 1 → B m j = true := fun j hj => by
        by_cases e : j = i
        · subst e; exact hb
        · exact ho.low j (by omega)
      obtain ⟨res, m', hw, hf⟩ := ih (i + 1) m out (by omega) ⟨ho.shut, ho.sum, ho.few, ho.vals, hone, hlow, fun j h1 h2 h3 => ho.high j (by omega) h2 h3⟩
      exact ⟨res, m', WO.skip hi hb hw, hf⟩
    | false =>
      obtain ⟨f, m1, long, e, p1, p2, p3, p4, p5, p6, p7⟩ := wk_whole hl ho.shut i hi hb
      have hsum := ho.sum
      have hfew := ho.few
      have hle : long ≤ n := by
        have : (0 : Int) ≤ out.sum := by
          have : ∀ q : List Int, (∀ x ∈ q, 1 ≤ x ∧ x ≤ (n : Int)) → 0 ≤ q.sum := by
            intro q
            induction q with
            | nil => intro _; simp
            | cons x q ihq =>
              intro hq
              rw [List.sum_cons]
              have h1 := hq x (by simp)
              have h2 := ihq (fun y hy => hq y (by simp [hy]))
              omega
          exact this out ho.vals
        omega
      have hvals : ∀ x ∈ out ++ [long], 1 ≤ x ∧ x ≤ n := fun x hx => by
        rcases List.mem_append.1 hx with hx | hx
        · exact ho.vals x hx
        · simp at hx; omega
      have hone : (out ++ [long]).count 1 = fixed l (i + 1) := by
        rw [List.count_append, ho.ones, fixed]
        congr 1
        by_cases hf : rd l i = (i : Int)
        · rw [if_pos hf, p7.2 hf]; simp
        · rw [if_neg hf]
          have : long ≠ 1 := fun h => hf (p7.1 h)
          simp [this]
      have hlow : ∀ j, j < i + 1 → B m1 j = true := fun j hj => by
        by_cases ej : j = i
        · subst ej; exact p5
        · exact p4 j (ho.low j (by omega))
      have hhigh : ∀ j, i + 1 ≤ j → j < n → (rd l j).toNat = j → B m1 j = false := fun j h1 h2 h3 => by
        cases hbj : B m1 j with
        | false => rfl
        | true =>
          rcases p6 j h2 h3 hbj with h | h
          · rw [ho.high j (by omega) h2 h3] at h; cases h
          · omega
      obtain ⟨res, m', hw, hf⟩ := ih (i + 1) m1 (out ++ [long]) (by omega) ⟨p1, by rw [List.sum_append]; simp; omega, by rw [List.length_append]; simp; omega, hvals, hone, hlow, hhigh⟩
      exact ⟨res, m', WO.take hi hb e p3 hle hw, hf⟩

theorem U_none (n : Nat) : U (List.replicate n false) = n := by simp [U, List.countP_replicate]
theorem B_none (n j : Nat) : B (List.replicate n false) j = false := by
  unfold B
  rw [List.getD_eq_getElem?_getD, List.getElem?_replicate]
  split <;> rfl

theorem wo_all {l : List Int} {n : Nat} (hl : Perm l n) : ∃ res m', WO l n 0 (List.replicate n false) [] res ∧ Out l n n m' res :=
  wo_ex hl n 0 _ [] (by omega) ⟨⟨by simp, fun j _ => by rw [B_none, B_none]⟩, by rw [U_none]; simp, by rw [U_none]; simp, fun x hx => by simp at hx, rfl, fun j hj => by omega, fun j _ _ _ => B_none n j⟩

/-- The program's list: those who are struck out are -1. -/
def Rl (l : List Int) (n : Nat) (left : List Int) (m : List Bool) : Prop := left.length = n ∧ m.length = n ∧ ∀ j : Nat, j < n → rd left j = if B m j then -1 else rd l j

theorem rd_set {l : List Int} {i : Nat} (x : Int) (h : i < l.length) (j : Nat) : rd (l.set i x) (j : Int) = if i = j then x else rd l j := by
  rw [rd_nat, rd_nat, List.getD_eq_getElem?_getD, List.getElem?_set]
  by_cases e : i = j
  · subst e; simp [h]
  · simp [e]

theorem sim_in {l : List Int} {n : Nat} (hl : Perm l n) (f : Nat) : ∀ (left : List Int) (m m' : List Bool) (a : Nat) (long long' : Int), Rl l n left m → a < n → 0 ≤ long → long' ≤ 1000000 → wk l f m a long = some (m', long') →
    ∃ left', Ev (fun k => cyc1 k left a long) (left', long') ∧ Rl l n left' m' := by
  induction f with
  | zero => intro left m m' a long long' hR ha h0 h1 h; simp [wk] at h
  | succ f ih =>
    intro left m m' a long long' hR ha h0 h1 h
    obtain ⟨r1, r2, r3⟩ := hR
    have hv := r3 a ha
    simp only [wk] at h
    cases hb : B m a with
    | true =>
      rw [hb] at h
      simp at h
      obtain ⟨rfl, rfl⟩ := h
      rw [hb] at hv
      simp only [if_true] at hv
      refine ⟨left, Ev.step (f := fun _ => some (left, long)) (fun k => ?_) (Ev.now _), r1, r2, r3⟩
      simp only [cyc1]
      rw [if_pos (by omega), hv, if_neg (by decide)]
    | false =>
      rw [hb] at h hv
      simp only [Bool.false_eq_true, if_false] at h hv
      have hr := hl.range a ha
      have hB := B_set (m := m) (i := a) (by omega)
      have hle := wk_le l f _ _ _ _ _ h
      obtain ⟨left', e, hR'⟩ := ih (left.set a (-1)) (m.set a true) m' (rd l a).toNat (long + 1) long' ⟨by rw [List.length_set]; exact r1, by rw [List.length_set]; exact r2, fun j hj => by
        rw [rd_set _ (by omega), hB, r3 j hj]
        by_cases ea : a = j <;> simp [ea]⟩ (by omega) (by omega) h1 h
      refine ⟨left', Ev.step (fun k => ?_) e, hR'⟩
      simp only [cyc1]
      rw [if_pos (by omega), hv, if_pos (by omega), Int.toNat_natCast, w64 (by omega), Int.toNat_of_nonneg hr.1]

theorem sim_out {l : List Int} {n : Nat} (hn : n ≤ 100000) (hl : Perm l n) {i : Nat} {m : List Bool} {out res : List Int} (hw : WO l n i m out res) : ∀ left, Rl l n left m → out.length ≤ i → Ev (fun k => cyc0 k left out i) res := by
  induction hw with
  | done m out =>
    intro left hR ho
    refine Ev.step (f := fun _ => some out) (fun k => ?_) (Ev.now _)
    simp only [cyc0]
    rw [if_neg (by have := hR.1; omega)]
  | @skip i m out res hi hb hw ih =>
    intro left hR ho
    obtain ⟨left', ⟨K1, e1⟩, hR'⟩ := sim_in hl 1 left m m i 0 0 hR hi (by omega) (by omega) (by simp [wk, hb])
    obtain ⟨K2, e2⟩ := ih left' hR' (by omega)
    dsimp only at e1 e2
    refine ⟨max K1 K2 + 1, fun k hk => ?_⟩
    obtain ⟨g, rfl⟩ : ∃ g, k = g + 1 := ⟨k - 1, by omega⟩
    simp only [cyc0]
    rw [if_pos (by have := hR.1; omega), e1 g (by omega), Option.bind_some, if_neg (by omega), w64 (by omega)]
    exact e2 g (by omega)
  | @take i f m m' out res long hi hb he h1 h2 hw ih =>
    intro left hR ho
    obtain ⟨left', ⟨K1, e1⟩, hR'⟩ := sim_in hl f left m m' i 0 long hR hi (by omega) (by omega) he
    obtain ⟨K2, e2⟩ := ih left' hR' (by rw [List.length_append]; simp; omega)
    dsimp only at e1 e2
    refine ⟨max K1 K2 + 1, fun k hk => ?_⟩
    obtain ⟨g, rfl⟩ : ∃ g, k = g + 1 := ⟨k - 1, by omega⟩
    simp only [cyc0]
    rw [if_pos (by have := hR.1; omega), e1 g (by omega), Option.bind_some, if_pos (by omega), if_pos (by omega), w64 (by omega)]
    exact e2 g (by omega)

theorem ev_cyc {l : List Int} {n : Nat} (hn : n ≤ 100000) (hl : Perm l n) : ∃ res m', WO l n 0 (List.replicate n false) [] res ∧ Out l n n m' res ∧ Ev (fun k => cyc0 k l [] 0) res := by
  obtain ⟨res, m', hw, ho⟩ := wo_all hl
  exact ⟨res, m', hw, ho, sim_out hn hl hw l ⟨hl.len, by simp, fun j hj => by rw [B_none]; rfl⟩ (by simp)⟩

end Go.Proofs.Ytndpnlpidphflaa.Pure
