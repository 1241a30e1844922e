/- What the printed functions of ballots come to. -/
import Derived.Test.YtnjimbgfafkogaaDoorEvA
import Derived.Test.YtnjimbgfafkogaaDoorMathF
import Derived.Test.YtnjimbgfafkogaaDoorPrint3
namespace Go.Proofs.YtnjimbgfafkogaaDoor.Pure
open Go.RowKit Go.Proofs.YtnjimbgfafkogaaDoor.Hand Go.Proofs.YtnjimbgfafkogaaDoor.Pre Go.Proofs.YtnjimbgfafkogaaDoor.Bal Go.Proofs.YtnjimbgfafkogaaDoor.Base Go.Proofs.YtnjimbgfafkogaaDoor.Print Go.Proofs.YtnjimbgfafkogaaDoor.Math Go.Proofs.YtnjimbgfafkogaaDoorW.PrintWords Go.Proofs.YtnjimbgfafkogaaDoorW.PrintLast Go.Proofs.YtnjimbgfafkogaaDoorW.PrintMore
set_option linter.unusedVariables false
set_option linter.unusedSimpArgs false

theorem rdL_tabF (f : Nat → List Int) (n i : Nat) (h : i < n) : Bal.rd_L1 (tabF f n) (i : Int) = f i := by
  unfold Bal.rd_L1 tabF
  rw [Int.toNat_natCast, List.getD_eq_getElem?_getD, ofNat_range _ _ _ h]; rfl
section
variable (a b t : Nat)
def balFull (x : Nat) : List (List Int) := tabF (fun i => if i < x then balRow b t i else []) (a + 1)
def balTab (x y : Nat) : List (List Int) := tabF (fun i => if i < x then balRow b t i else if i = x then balPart b t i y else []) (a + 1)
theorem balTab_full (x : Nat) : balTab a b t x (b + 1) = balFull a b t (x + 1) := tabF_congr fun i hi => by
  by_cases h : i < x
  · rw [if_pos h, if_pos (by omega)]
  · rw [if_neg h]
    by_cases e : i = x
    · subst e; rw [if_pos rfl, if_pos (by omega), balPart_full]
    · rw [if_neg e, if_neg (by omega)]
theorem balTab_start (x : Nat) : (balFull a b t x).set x (List.replicate (b + 1) 0) = balTab a b t x 0 := by
  unfold balFull balTab
  rw [tabF_set, replicate_tabF]
  refine tabF_congr fun i hi => ?_
  by_cases e : i = x
  · subst e; rw [if_pos rfl, if_neg (by omega), if_pos rfl]
    exact tabF_congr fun j hj => by rw [if_neg (by omega)]
  · rw [if_neg e]
    by_cases h : i < x
    · rw [if_pos h, if_pos h]
    · rw [if_neg h, if_neg h, if_neg e]
theorem balTab_set (x y z : Nat) (r : List Int) (hr : r = balPart b t x z) : (balTab a b t x y).set x r = balTab a b t x z := by
  subst hr
  unfold balTab
  rw [tabF_set]
  refine tabF_congr fun i hi => ?_
  by_cases e : i = x
  · subst e; rw [if_pos rfl, if_neg (by omega), if_pos rfl]
  · rw [if_neg e]
    by_cases h : i < x
    · rw [if_pos h, if_pos h]
    · rw [if_neg h, if_neg h, if_neg e, if_neg e]
theorem balTab_length (x y : Nat) : (balTab a b t x y).length = a + 1 := tabF_length _ _
theorem balFull_length (x : Nat) : (balFull a b t x).length = a + 1 := tabF_length _ _
theorem balTab_at (x y : Nat) (hx : x ≤ a) : Bal.rd_L1 (balTab a b t x y) (x : Int) = balPart b t x y := by
  unfold balTab
  rw [rdL_tabF _ _ _ (by omega), if_neg (by omega), if_pos rfl]
theorem balTab_before (x y : Nat) (hx : x + 1 ≤ a) : Bal.rd_L1 (balTab a b t (x + 1) y) (x : Int) = balRow b t x := by
  unfold balTab
  rw [rdL_tabF _ _ _ (by omega), if_pos (by omega)]
end
theorem ev_bal_l1 (a b t : Nat) (ha : a ≤ 30) (hb : b ≤ 30) (ht : t ≤ 30) (x : Nat) (hx : x ≤ a) (v : Int × Int) (hv : Ev (fun k => till_Ballot.l0 k a b t (balFull a b t (x + 1)) ((a + 1 : Nat) : Int) ((x + 1 : Nat) : Int)) v) (d : Nat) :
    ∀ y, y + d = b + 1 → Ev (fun k => till_Ballot.l1 k a b t (balTab a b t x y) x ((a + 1 : Nat) : Int) x ((b + 1 : Nat) : Int) y) v := by
  induction d with
  | zero =>
    intro y hy
    obtain rfl : y = b + 1 := by omega
    refine Ev.step (fun k => ?_) hv
    rw [balTab_full]
    simp (disch := omega) only [till_Ballot.l1, if_neg, w64]
    rfl
  | succ d ih =>
    intro y hy
    have hyb : y ≤ b := by omega
    have i1 := ih (y + 1) (by omega)
    have hty : t * y ≤ 900 := Nat.le_trans (Nat.mul_le_mul ht (show y ≤ 30 by omega)) (by omega)
    have hty' : wrap64 ((t : Int) * (y : Int)) = ((t * y : Nat) : Int) := by rw [← Int.natCast_mul, w64 (by omega)]
    have len1 := balTab_length a b t x y
    have at1 := balTab_at a b t x y hx
    have pl := balPart_length b t x y
    by_cases h0 : x = 0 ∧ y = 0
    · obtain ⟨rfl, rfl⟩ := h0
      refine Ev.step (f := fun k => till_Ballot.j4 k a b t (balTab a b t 0 0) 0 0 ((a + 1 : Nat) : Int) 0 ((b + 1 : Nat) : Int) 0 true) (fun k => ?_) (Ev.step (fun k => ?_) i1)
      · simp (disch := omega) only [till_Ballot.l1, if_pos]; rfl
      · simp only [till_Ballot.j4]
        rw [show (0 : Int) = ((0 : Nat) : Int) from rfl, at1, if_pos trivial]
        simp (disch := omega) only [if_pos, len1, pl, w64, Int.toNat_natCast]
        rw [balPart_set b t 0 0 1 (by rw [bal]; rfl), balTab_set a b t 0 0 1 _ rfl]; rfl
    · have st : ∀ k, till_Ballot.l1 (k + 1) a b t (balTab a b t x y) x ((a + 1 : Nat) : Int) x ((b + 1 : Nat) : Int) y = till_Ballot.j4 k a b t (balTab a b t x y) x y ((a + 1 : Nat) : Int) x ((b + 1 : Nat) : Int) y false := fun k => by
        simp only [till_Ballot.l1]
        rw [if_pos (by omega)]
        by_cases hx0 : x = 0
        · rw [if_pos (by omega), show ((y : Int) == 0) = false from beq_eq_false_iff_ne.2 (by omega)]
        · rw [if_neg (by omega)]
      refine Ev.step st (Ev.step (fun k => ?_) i1)
      simp only [till_Ballot.j4]
      rw [if_neg (by decide), hty']
      by_cases hgt : t * y < x
      · obtain ⟨x, rfl⟩ : ∃ m, x = m + 1 := ⟨x - 1, by omega⟩
        have e1 : wrap64 (((x + 1 : Nat) : Int) - 1) = (x : Int) := by rw [w64 (by omega)]; omega
        have bf := balTab_before a b t x y hx
        have rl := balRow_length b t x
        have rr := rd_balRow b t x y hyb
        rw [if_pos (by omega), e1, bf, at1, rr]
        simp (disch := omega) only [if_pos, len1, pl, rl, Option.bind_some, Int.toNat_natCast]
        by_cases hy0 : y = 0
        · subst hy0
          rw [if_neg (by omega), balPart_set b t (x + 1) 0 _ (by rw [bal]), balTab_set a b t (x + 1) 0 1 _ rfl]
          rw [w64 (by omega)]; rfl
        · obtain ⟨y, rfl⟩ : ∃ m, y = m + 1 := ⟨y - 1, by omega⟩
          have e2 : wrap64 (((y + 1 : Nat) : Int) - 1) = (y : Int) := by rw [w64 (by omega)]; omega
          rw [if_pos (by omega)]
          obtain ⟨R, hR⟩ : ∃ R, (balPart b t (x + 1) (y + 1)).set (y + 1) ((bal t x (y + 1) : Nat) : Int) = R := ⟨_, rfl⟩
          have hRl : R.length = b + 1 := by rw [← hR, List.length_set, balPart_length]
          have hR1 : rd R ((y + 1 : Nat) : Int) = ((bal t x (y + 1) : Nat) : Int) := by
            rw [← hR]; unfold balPart; rw [tabF_set, rd_tabF _ _ _ (by omega), if_pos rfl]
          have hR2 : rd R (y : Int) = ((bal t (x + 1) y : Nat) : Int) := by
            rw [← hR]; unfold balPart; rw [tabF_set, rd_tabF _ _ _ (by omega), if_neg (by omega), if_pos (by omega)]
          have hb1 := bal_small t x (y + 1) (by omega)
          have hb2 := bal_small t (x + 1) y (by omega)
          have hat2 : Bal.rd_L1 ((balTab a b t (x + 1) (y + 1)).set (x + 1) R) ((x + 1 : Nat) : Int) = R := by
            unfold balTab; rw [tabF_set, rdL_tabF _ _ _ (by omega), if_pos rfl]
          rw [hR, hat2, e2, hRl, hR1, hR2]
          simp (disch := omega) only [if_pos, w64]
          rw [List.set_set]
          have hfin : R.set (y + 1) (((bal t x (y + 1) : Nat) : Int) + ((bal t (x + 1) y : Nat) : Int)) = balPart b t (x + 1) (y + 1 + 1) := by
            rw [← hR, List.set_set]
            exact balPart_set b t (x + 1) (y + 1) _ (by rw [bal, if_pos hgt]; omega)
          rw [hfin, balTab_set a b t (x + 1) (y + 1) (y + 1 + 1) _ rfl]; rfl
      · rw [if_neg (by omega)]
        have : balTab a b t x y = balTab a b t x (y + 1) := by
          rw [← balTab_set a b t x y (y + 1) _ rfl, ← balPart_set b t x y _ rfl, bal_low t x y (by omega) (by omega)]
          have e : (balPart b t x y).set y ((0 : Nat) : Int) = balPart b t x y := by
            unfold balPart
            rw [tabF_set]
            refine tabF_congr fun j hj => ?_
            by_cases e : j = y
            · subst e; rw [if_pos rfl, if_neg (by omega)]; rfl
            · rw [if_neg e]
          rw [e, balTab_set a b t x y y _ rfl]
        rw [← this, w64 (by omega)]; rfl
theorem ev_bal_l0 (a b t : Nat) (ha : a ≤ 30) (hb : b ≤ 30) (ht : t ≤ 30) (d : Nat) : ∀ x, x + d = a + 1 → Ev (fun k => till_Ballot.l0 k a b t (balFull a b t x) ((a + 1 : Nat) : Int) x) (((bal t a b : Nat) : Int), 0) := by
  induction d with
  | zero =>
    intro x hx
    obtain rfl : x = a + 1 := by omega
    refine Ev.step (f := fun _ => some (((bal t a b : Nat) : Int), 0)) (fun k => ?_) (Ev.now _)
    have e : Bal.rd_L1 (balFull a b t (a + 1)) (a : Int) = balRow b t a := by
      unfold balFull; rw [rdL_tabF _ _ _ (by omega), if_pos (by omega)]
    have rl := balRow_length b t a
    have fl := balFull_length a b t (a + 1)
    simp only [till_Ballot.l0]
    rw [e]
    simp (disch := omega) only [if_pos, if_neg, rl, fl, rd_balRow]
  | succ d ih =>
    intro x hx
    have h1 := ev_bal_l1 a b t ha hb ht x (by omega) _ (ih (x + 1) (by omega)) (b + 1) 0 (by omega)
    refine Ev.step (fun k => ?_) h1
    have fl := balFull_length a b t x
    have e1 : wrap64 ((b : Int) + 1) = ((b + 1 : Nat) : Int) := by rw [w64 (by omega)]; omega
    simp only [till_Ballot.l0]
    rw [e1]
    simp (disch := omega) only [if_pos, fl, Int.toNat_natCast, Option.bind_some]
    rw [balTab_start, balTab_at a b t x 0 (by omega), balPart_length]; rfl
def ballotR (a b t : Int) : Int × Int := if a < 0 ∨ a > 30 ∨ b < 0 ∨ b > 30 ∨ t < 1 ∨ t > 30 then (0, 2) else (((bal t.toNat a.toNat b.toNat : Nat) : Int), 0)
theorem ev_Ballot (a b t : Int) : Ev (fun k => till_Ballot.f k a b t) (ballotR a b t) := by
  unfold ballotR
  have key : ∀ v, (∀ k, till_Ballot.f k a b t = till_Ballot.j0 k a b t v) → Ev (fun k => till_Ballot.j0 k a b t v) (if v = true then ((0 : Int), (2 : Int)) else (((bal t.toNat a.toNat b.toNat : Nat) : Int), 0)) → (v = true ↔ (a < 0 ∨ a > 30 ∨ b < 0 ∨ b > 30 ∨ t < 1 ∨ t > 30)) → Ev (fun k => till_Ballot.f k a b t) (if a < 0 ∨ a > 30 ∨ b < 0 ∨ b > 30 ∨ t < 1 ∨ t > 30 then (0, 2) else (((bal t.toNat a.toNat b.toNat : Nat) : Int), 0)) := by
    intro v h1 h2 h3
    refine Ev.congr h1 ?_
    by_cases hv : v = true
    · rw [if_pos hv] at h2; rw [if_pos (h3.1 hv)]; exact h2
    · rw [if_neg hv] at h2; rw [if_neg (fun h => hv (h3.2 h))]; exact h2
  have ht : Ev (fun k => till_Ballot.j0 k a b t true) ((0 : Int), (2 : Int)) := Ev.step (f := fun _ => some (0, 2)) (fun k => by simp only [till_Ballot.j0, if_true]) (Ev.now _)
  by_cases ha : a < 0 ∨ a > 30
  · refine key true (fun k => ?_) (by rw [if_pos rfl]; exact ht) (by simp; omega)
    unfold till_Ballot.f till_Ballot_1.f
    by_cases c : a < 0
    · rw [if_pos c]; rfl
    · rw [if_neg c, decide_eq_true (by omega)]; rfl
  have ea : till_Ballot_1.f a 0 = some false := by unfold till_Ballot_1.f; rw [if_neg (by omega), decide_eq_false (by omega)]
  by_cases hb : b < 0 ∨ b > 30
  · refine key true (fun k => ?_) (by rw [if_pos rfl]; exact ht) (by simp; omega)
    unfold till_Ballot.f
    rw [ea]
    unfold till_Ballot_1.f
    by_cases c : b < 0
    · rw [if_pos c]; rfl
    · rw [if_neg c, decide_eq_true (by omega)]; rfl
  have eb : till_Ballot_1.f b 0 = some false := by unfold till_Ballot_1.f; rw [if_neg (by omega), decide_eq_false (by omega)]
  by_cases hc : t < 1 ∨ t > 30
  · refine key true (fun k => ?_) (by rw [if_pos rfl]; exact ht) (by simp; omega)
    unfold till_Ballot.f
    rw [ea, eb]
    unfold till_Ballot_1.f
    by_cases c : t < 1
    · rw [if_pos c]; rfl
    · rw [if_neg c, decide_eq_true (by omega)]; rfl
  have ec : till_Ballot_1.f t 1 = some false := by unfold till_Ballot_1.f; rw [if_neg (by omega), decide_eq_false (by omega)]
  refine key false (fun k => ?_) ?_ (by simp; omega)
  · unfold till_Ballot.f
    rw [ea, eb, ec]; rfl
  · rw [if_neg (by decide)]
    obtain ⟨a, rfl⟩ : ∃ n : Nat, a = (n : Int) := ⟨a.toNat, by omega⟩
    obtain ⟨b, rfl⟩ : ∃ n : Nat, b = (n : Int) := ⟨b.toNat, by omega⟩
    obtain ⟨t, rfl⟩ : ∃ n : Nat, t = (n : Int) := ⟨t.toNat, by omega⟩
    simp only [Int.toNat_natCast]
    by_cases h0 : a = 0 ∧ b = 0
    · obtain ⟨rfl, rfl⟩ := h0
      refine Ev.step (f := fun k => till_Ballot.j1 k ((0 : Nat) : Int) ((0 : Nat) : Int) t true) (fun k => rfl) (Ev.step (f := fun _ => some (1, 0)) (fun k => rfl) ?_)
      rw [bal]; exact Ev.now _
    · refine Ev.step (f := fun k => till_Ballot.j1 k a b t false) (fun k => ?_) ?_
      · simp only [till_Ballot.j0]
        rw [if_neg (by decide)]
        by_cases hx0 : a = 0
        · rw [if_pos (by omega), show ((b : Int) == 0) = false from beq_eq_false_iff_ne.2 (by omega)]
        · rw [if_neg (by omega)]
      · have htb : t * b ≤ 900 := Nat.le_trans (Nat.mul_le_mul (show t ≤ 30 by omega) (show b ≤ 30 by omega)) (by omega)
        have hw : wrap64 ((t : Int) * (b : Int)) = ((t * b : Nat) : Int) := by rw [← Int.natCast_mul, w64 (by omega)]
        by_cases hle : a ≤ t * b
        · rw [bal_low t a b hle (by omega)]
          refine Ev.step (f := fun _ => some (0, 0)) (fun k => ?_) (Ev.now _)
          simp only [till_Ballot.j1]
          rw [if_neg (by decide), hw, if_pos (by omega)]
        · have h1 := ev_bal_l0 a b t (by omega) (by omega) (by omega) (a + 1) 0 (by omega)
          refine Ev.step (fun k => ?_) h1
          have e1 : wrap64 ((a : Int) + 1) = ((a + 1 : Nat) : Int) := by rw [w64 (by omega)]; omega
          simp only [till_Ballot.j1]
          rw [if_neg (by decide), hw, if_neg (by omega), e1]
          simp (disch := omega) only [if_pos, Int.toNat_natCast, Option.bind_some, List.length_replicate]
          have e2 : List.replicate (a + 1) ([] : List Int) = balFull a b t 0 := by
            rw [replicate_tabF]; exact tabF_congr fun i hi => by rw [if_neg (by omega)]
          rw [e2]; rfl
theorem ev_choose_l (n k : Nat) (hn : n ≤ 60) (hk : k ≤ n) (d : Nat) : ∀ i : Nat, i + d = k → Ev (fun f => pomadelaw09_choose.l0 f n k ((C n i : Nat) : Int) ((i + 1 : Nat) : Int)) ((C n k : Nat) : Int) := by
  induction d with
  | zero =>
    intro i hi
    obtain rfl : i = k := by omega
    refine Ev.step (f := fun _ => some ((C n i : Nat) : Int)) (fun f => ?_) (Ev.now _)
    simp (disch := omega) only [pomadelaw09_choose.l0, if_neg]
  | succ d ih =>
    intro i hi
    have h1 := ih (i + 1) (by omega)
    have hx := C_next n i (by omega)
    have hs := C_small n (i + 1) hn
    have hm : (i + 1) * C n (i + 1) ≤ 60 * 118264581564861424 := Nat.mul_le_mul (by omega) hs
    have e0 : wrap64 (wrap64 ((n : Int) - ((i + 1 : Nat) : Int)) + 1) = ((n - i : Nat) : Int) := by rw [w64 (n := (n : Int) - _) (by omega), w64 (by omega)]; omega
    have e1 : wrap64 (((C n i : Nat) : Int) * ((n - i : Nat) : Int)) = (((i + 1) * C n (i + 1) : Nat) : Int) := by
      rw [← Int.natCast_mul, Nat.mul_comm, ← hx, w64 (by omega)]
    have e2 : wrap64 (Int.tdiv (((i + 1) * C n (i + 1) : Nat) : Int) ((i + 1 : Nat) : Int)) = ((C n (i + 1) : Nat) : Int) := by
      rw [Int.tdiv_eq_ediv_of_nonneg (by omega), ← Int.natCast_ediv, Nat.mul_div_cancel_left _ (by omega), w64 (by omega)]
    refine Ev.step (fun f => ?_) h1
    simp only [pomadelaw09_choose.l0]
    rw [if_pos (by omega), if_neg (by omega), e0, e1, e2, w64 (by omega)]; rfl
theorem ev_choose (n k : Nat) (hn : n ≤ 60) (hk : k ≤ n) : Ev (fun f => pomadelaw09_choose.f f n k) ((C n k : Nat) : Int) := by
  have := ev_choose_l n k hn hk k 0 (by omega)
  rw [C_zero] at this
  exact this

end Go.Proofs.YtnjimbgfafkogaaDoor.Pure
