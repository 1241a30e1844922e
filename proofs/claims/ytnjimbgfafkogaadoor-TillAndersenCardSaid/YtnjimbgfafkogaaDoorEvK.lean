/- Where the balance is greatest: what highest, Ahead and the reference's come to. -/
import Derived.Test.YtnjimbgfafkogaaDoorEvA
import Derived.Test.YtnjimbgfafkogaaDoorHi1
namespace Go.Proofs.YtnjimbgfafkogaaDoor.Pure
open Go.RowKit Go.Proofs.YtnjimbgfafkogaaDoor.Hand Go.Proofs.YtnjimbgfafkogaaDoor.Pre Go.Proofs.YtnjimbgfafkogaaDoor.Bal Go.Proofs.YtnjimbgfafkogaaDoor.Base Go.Proofs.YtnjimbgfafkogaaDoor.Print Go.Proofs.YtnjimbgfafkogaaDoor.Math Go.Proofs.YtnjimbgfafkogaaDoorW.PrintWords Go.Proofs.YtnjimbgfafkogaaDoorW.PrintLast Go.Proofs.YtnjimbgfafkogaaDoorW.PrintMore
set_option linter.unusedVariables false
set_option linter.unusedSimpArgs false

open Go.Proofs.YtnjimbgfafkogaaDoor.Hi
/-- The last place at which the balance is greatest. -/
def lstUp (l : List Int) : Nat → Nat
  | 0 => 0
  | i + 1 => if (l.take (i + 1)).sum = top l then i + 1 else lstUp l i
def lst (l : List Int) : Nat := lstUp l l.length
theorem lstUp_le (l : List Int) : ∀ i, lstUp l i ≤ i
  | 0 => Nat.le_refl _
  | i + 1 => by unfold lstUp; have := lstUp_le l i; split <;> omega
theorem lstUp_congr {l l' : List Int} (ht : top l = top l') : ∀ i, (∀ j, j ≤ i → l.take j = l'.take j) → lstUp l i = lstUp l' i
  | 0, _ => rfl
  | i + 1, h => by
    unfold lstUp
    rw [h (i + 1) (Nat.le_refl _), ht, lstUp_congr ht i (fun j hj => h j (by omega))]
theorem lst_snoc (w : List Int) (x : Int) : lst (w ++ [x]) = if w.sum + x = top (w ++ [x]) then w.length + 1 else lst w := by
  unfold lst
  rw [List.length_append, List.length_singleton, lstUp, List.take_of_length_le (by simp), List.sum_append]
  rw [show ([x] : List Int).sum = x by simp]
  by_cases h : w.sum + x = top (w ++ [x])
  · rw [if_pos h, if_pos h]
  · rw [if_neg h, if_neg h]
    refine lstUp_congr ?_ _ (fun j hj => List.take_append_of_le_length hj)
    rw [top_snoc] at h ⊢
    omega
theorem take_le_top : ∀ (l : List Int) (i : Nat), (l.take i).sum ≤ top l
  | [], i => by simp [top]
  | x :: t, 0 => by rw [List.take_zero, top]; simp; omega
  | x :: t, i + 1 => by rw [List.take_succ_cons, List.sum_cons, top]; have := take_le_top t i; omega
theorem fst_spec : ∀ (l : List Int), (l.take (fst l)).sum = top l ∧ ∀ i, i < fst l → (l.take i).sum ≠ top l
  | [] => ⟨rfl, fun i h => absurd h (Nat.not_lt_zero _)⟩
  | x :: t => by
    obtain ⟨h1, h2⟩ := fst_spec t
    rw [fst, top]
    by_cases c : x + top t > 0
    · rw [if_pos c, List.take_succ_cons, List.sum_cons, h1]
      refine ⟨by omega, fun i hi => ?_⟩
      cases i with
      | zero => simp; omega
      | succ i =>
        rw [List.take_succ_cons, List.sum_cons]
        have := h2 i (by omega)
        omega
    · rw [if_neg c]
      refine ⟨by simp; omega, fun i hi => absurd hi (Nat.not_lt_zero _)⟩
theorem foldl_scan : ∀ (l : List Int) (a s : Int), s ≤ a → (scan s l).foldl max a = max a (s + top l)
  | [], a, s, h => by simp [scan, top]; omega
  | x :: t, a, s, h => by
    rw [scan, List.foldl_cons, foldl_scan t _ _ (by omega), top]
    have := top_nonneg t
    omega
theorem max_bal (l : List Int) : Go.Lib.maxOf (0 :: scan 0 l) = top l := by
  unfold Go.Lib.maxOf
  rw [List.headD_cons, List.foldl_cons, foldl_scan l _ _ (by simp)]
  have := top_nonneg l
  omega
theorem bal_get (l : List Int) (i : Nat) (h : i ≤ l.length) : rd (0 :: scan 0 l) (i : Int) = (l.take i).sum := by
  unfold rd
  rw [Int.toNat_natCast, List.getD_eq_getElem?_getD]
  cases i with
  | zero => simp
  | succ i =>
    rw [List.getElem?_cons_succ, scan_get l 0 i (by omega)]
    simp
theorem bal_len (l : List Int) : (0 :: scan 0 l).length = l.length + 1 := by rw [List.length_cons, scan_length]
theorem ev_Idx (l : List Int) (hl : l.length ≤ 1000) (d : Nat) : ∀ i, i + d = fst l → Ev (fun k => slices_Index_int_int.l0 k (0 :: scan 0 l) (top l) (((0 :: scan 0 l).length : Nat) : Int) (i : Int)) (fst l : Int) := by
  have hf := fst_le l
  obtain ⟨h1, h2⟩ := fst_spec l
  induction d with
  | zero =>
    intro i hi
    obtain rfl : i = fst l := by omega
    refine Ev.step (f := fun _ => some _) (fun k => ?_) (Ev.now _)
    simp only [slices_Index_int_int.l0, bal_len]
    rw [if_pos (by omega), if_pos (by omega), if_pos (by omega), bal_get l _ hf, if_pos h1.symm]
  | succ d ih =>
    intro i hi
    refine Ev.step (fun k => ?_) (ih (i + 1) (by omega))
    simp only [slices_Index_int_int.l0, bal_len]
    rw [if_pos (by omega), if_pos (by omega), if_pos (by omega), bal_get l _ (by omega), if_neg (fun e => h2 i (by omega) e.symm), wsucc (by omega)]
theorem ev_high_l (l : List Int) (hl : l.length ≤ 1000) : ∀ i, i ≤ l.length → (∃ j, j ≤ i ∧ (l.take j).sum = top l) → Ev (fun k => till_highest.l0 k (0 :: scan 0 l) (top l) (i : Int)) ((fst l : Int), (lstUp l i : Int)) := by
  have hidx : Ev (fun k => slices_Index_int_int.f k (0 :: scan 0 l) (top l)) (fst l : Int) := by
    refine Ev.congr (fun k => ?_) (ev_Idx l hl (fst l) 0 (by omega))
    unfold slices_Index_int_int.f; rfl
  intro i
  induction i with
  | zero =>
    rintro hi ⟨j, hj, hs⟩
    obtain rfl : j = 0 := by omega
    refine Ev.step (fun k => ?_) (Ev.bind hidx (f := fun _ t => some (t, ((0 : Nat) : Int))) (Ev.now _))
    simp only [till_highest.l0, bal_len]
    rw [if_pos (by omega), if_pos (by omega), bal_get l 0 (by omega), if_pos hs]
  | succ i ih =>
    rintro hi ⟨j, hj, hs⟩
    unfold lstUp
    by_cases c : (l.take (i + 1)).sum = top l
    · rw [if_pos c]
      refine Ev.step (fun k => ?_) (Ev.bind hidx (f := fun _ t => some (t, ((i + 1 : Nat) : Int))) (Ev.now _))
      simp only [till_highest.l0, bal_len]
      rw [if_pos (by omega), if_pos (by omega), bal_get l (i + 1) hi, if_pos c]
    · rw [if_neg c]
      have hj2 : j ≤ i := by
        by_cases e : j = i + 1
        · exact absurd (e ▸ hs) c
        · omega
      refine Ev.step (fun k => ?_) (ih (by omega) ⟨j, hj2, hs⟩)
      simp only [till_highest.l0, bal_len]
      rw [if_pos (by omega), if_pos (by omega), bal_get l (i + 1) hi, if_neg c, show wrap64 (((i + 1 : Nat) : Int) - 1) = (i : Int) by rw [w64 (by omega)]; omega]
theorem ev_highest (l : List Int) (hl : l.length ≤ 1000) (hb : ∀ x ∈ l, -1000000 ≤ x ∧ x ≤ 1000000) : Ev (fun k => till_highest.f k l) ((fst l : Int), (lst l : Int)) := by
  have h := ev_high_l l hl l.length (Nat.le_refl _) ⟨fst l, fst_le l, (fst_spec l).1⟩
  have he : Ev (fun k => (slices_Max_int_int.f (0 :: scan 0 l)).bind fun t => till_highest.l0 k (0 :: scan 0 l) t (wrap64 ((((0 :: scan 0 l).length : Nat) : Int) - 1))) ((fst l : Int), (lst l : Int)) := by
    unfold slices_Max_int_int.f
    rw [if_neg (by simp), max_bal, bal_len, show wrap64 (((l.length + 1 : Nat) : Int) - 1) = (l.length : Int) by rw [w64 (by omega)]; omega]
    exact h
  exact Ev.bind (ev_balances l hl hb) he
theorem sum_bound (l : List Int) (hb : ∀ x ∈ l, -1000000 ≤ x ∧ x ≤ 1000000) : -1000000 * (l.length : Int) ≤ l.sum ∧ l.sum ≤ 1000000 * (l.length : Int) := by
  induction l with
  | nil => simp
  | cons x t ih =>
    have h1 := hb x (by simp)
    have h2 := ih (fun y hy => hb y (by simp [hy]))
    rw [List.sum_cons, List.length_cons]
    omega
theorem ev_ahead_l (l : List Int) (hl : l.length ≤ 1000) (hb : ∀ x ∈ l, -1000000 ≤ x ∧ x ≤ 1000000) (d : Nat) : ∀ i, i + d = l.length →
    Ev (fun k => pomaderef09_ahead.l0 k l (pos 0 (l.take i) : Nat) (fst (l.take i) : Nat) (lst (l.take i) : Nat) (top (l.take i)) (l.take i).sum (i : Int)) ((pos 0 l : Int), (fst l : Int), (lst l : Int)) := by
  induction d with
  | zero =>
    intro i hi
    obtain rfl : i = l.length := by omega
    rw [List.take_length]
    refine Ev.step (f := fun _ => some _) (fun k => ?_) (Ev.now _)
    simp only [pomaderef09_ahead.l0]
    rw [if_neg (by omega)]
  | succ d ih =>
    intro i hi
    have hlt : i < l.length := by omega
    have hx := hb _ (rd_mem hlt)
    obtain ⟨x, hxe⟩ : ∃ x, rd l (i : Int) = x := ⟨_, rfl⟩
    have htk : l.take (i + 1) = l.take i ++ [x] := by rw [List.take_add_one, List.getElem?_eq_getElem hlt, ← hxe, rd_get hlt]; rfl
    have hs := sum_bound (l.take i) (fun y hy => hb y (List.mem_of_mem_take hy))
    rw [List.length_take, Nat.min_eq_left (by omega)] at hs
    rw [hxe] at hx
    have hp := pos_le (l.take i) 0
    have hli : (l.take i).length = i := by rw [List.length_take]; omega
    have hnext := ih (i + 1) (by omega)
    rw [htk, pos_snoc, fst_snoc, lst_snoc, top_snoc, List.sum_append, hli, show ([x] : List Int).sum = x by simp] at hnext
    have hw : wrap64 ((l.take i).sum + x) = (l.take i).sum + x := by rw [w64 (by omega)]
    have hj : ∀ (m : Nat), Ev (fun k => pomaderef09_ahead.l0 k l (m : Int) ((if (l.take i).sum + x > top (l.take i) then i + 1 else fst (l.take i) : Nat) : Int) ((if (l.take i).sum + x = max (top (l.take i)) ((l.take i).sum + x) then i + 1 else lst (l.take i) : Nat) : Int) (max (top (l.take i)) ((l.take i).sum + x)) ((l.take i).sum + x) ((i + 1 : Nat) : Int)) ((pos 0 l : Int), (fst l : Int), (lst l : Int)) →
        Ev (fun k => pomaderef09_ahead.j1 k l (m : Int) (fst (l.take i) : Nat) (lst (l.take i) : Nat) (top (l.take i)) ((l.take i).sum + x) (i : Int)) ((pos 0 l : Int), (fst l : Int), (lst l : Int)) := by
      intro m hm
      refine Ev.step (fun k => ?_) hm
      rw [pomaderef09_ahead.j1, wsucc (by omega)]
      by_cases c1 : (l.take i).sum + x > top (l.take i)
      · rw [if_pos c1, if_pos rfl, if_pos c1, Int.max_eq_right (by omega), if_pos rfl]
      · rw [if_neg c1, if_neg c1, Int.max_eq_left (by omega)]
        by_cases c2 : (l.take i).sum + x = top (l.take i)
        · rw [if_pos c2, if_pos c2]
        · rw [if_neg c2, if_neg c2]
    by_cases c : (l.take i).sum + x > 0
    · rw [if_pos (by omega)] at hnext
      refine Ev.step (fun k => ?_) (hj _ hnext)
      simp only [pomaderef09_ahead.l0]
      rw [if_pos (by omega), if_pos (by omega), hxe, hw, if_pos c, wsucc (by omega)]
    · rw [if_neg (by omega), Nat.add_zero] at hnext
      refine Ev.step (fun k => ?_) (hj _ hnext)
      simp only [pomaderef09_ahead.l0]
      rw [if_pos (by omega), if_pos (by omega), hxe, hw, if_neg c]
theorem ev_ahead (l : List Int) (hl : l.length ≤ 1000) (hb : ∀ x ∈ l, -1000000 ≤ x ∧ x ≤ 1000000) : Ev (fun k => pomaderef09_ahead.f k l) ((pos 0 l : Int), (fst l : Int), (lst l : Int)) :=
  ev_ahead_l l hl hb l.length 0 (by omega)
def aheadR (l : List Int) : Int × Int × Int × Int := if amountsE l = 0 then ((pos 0 l : Int), (fst l : Int), (lst l : Int), 0) else (0, 0, 0, amountsE l)
theorem ev_tAhead (l : List Int) (hl : l.length ≤ 1000) : Ev (fun k => till_Ahead.f k l) (aheadR l) := by
  unfold till_Ahead.f aheadR
  refine Ev.bind (ev_counted l hl) ?_
  by_cases h : amountsE l = 0
  · have hb := (amounts_ok h).2
    simp only [if_pos h]
    exact Ev.bind (ev_highest l hl hb) (Ev.bind (ev_above l hl hb) (Ev.now _))
  · simp only [if_neg h]; exact Ev.now _
theorem ev_rAhead (l : List Int) (hl : l.length ≤ 1000) : Ev (fun k => pomaderef09_Ahead.f k l) (aheadR l) := by
  unfold pomaderef09_Ahead.f aheadR
  refine Ev.bind (ev_Amounts l hl) ?_
  by_cases h : amountsE l = 0
  · have hb := (amounts_ok h).2
    simp only [if_pos h]
    exact Ev.bind (ev_ahead l hl hb) (Ev.now _)
  · simp only [if_neg h]; exact Ev.now _

end Go.Proofs.YtnjimbgfafkogaaDoor.Pure
