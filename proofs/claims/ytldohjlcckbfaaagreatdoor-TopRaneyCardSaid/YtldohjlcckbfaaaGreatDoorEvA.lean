/- What the printed functions of amounts and rotations come to. -/
import Derived.Test.YtldohjlcckbfaaaGreatDoorProg
import Derived.Below
import Derived.Deep.Draws
import Derived.Deep.AppendLies
import Derived.Maps.AppendAt
import Derived.OwnWalk
import Derived.Laws.BytesArg
import Derived.Laws.MakeOwn
import Derived.Laws.OwnMore
import Derived.Deep.OwnRows
import Derived.Tactics
import Derived.Lib.ConvBytes
import Derived.Laws.Slices
import Derived.WalkKit
import Derived.KernelRfl
import Derived.RowKit3
import Derived.Deep.LoopGhost
import Derived.Deep.QuietTactic
import Derived.BigQuiet
import Derived.WideLaws
import Derived.Deep.DeepCutAuto
import Derived.Deep.CutBlock
import Derived.Deep.RegionHeld3
import Derived.Laws.Rows
import Derived.Lib.AppendStr
import Derived.ArgAppend
import Derived.Laws.IdiomCopy
import Derived.OrdersHeld
import Derived.Laws.BitsLemmas
import Derived.RowKit
import Derived.Test.YtldohjlcckbfaaaGreatDoorWWords
import Derived.Test.YtldohjlcckbfaaaGreatDoorWLast
import Derived.Test.YtldohjlcckbfaaaGreatDoorWTab
import Derived.Test.YtldohjlcckbfaaaGreatDoorWFour
import Derived.Test.YtldohjlcckbfaaaGreatDoorWQPut
import Derived.Test.YtldohjlcckbfaaaGreatDoorWApart
import Derived.Test.YtldohjlcckbfaaaGreatDoorWArr
import Derived.Test.YtldohjlcckbfaaaGreatDoorWZeros
import Derived.Test.YtldohjlcckbfaaaGreatDoorWFoot
import Derived.Test.YtldohjlcckbfaaaGreatDoorWKept
import Derived.Test.YtldohjlcckbfaaaGreatDoorWShare
import Derived.Test.YtldohjlcckbfaaaGreatDoorWN
import Derived.Test.YtldohjlcckbfaaaGreatDoorWFootNe
import Derived.Test.YtldohjlcckbfaaaGreatDoorWAt
import Derived.Test.YtldohjlcckbfaaaGreatDoorWEqStruct
import Derived.Test.YtldohjlcckbfaaaGreatDoorWRepsOne
import Derived.Test.YtldohjlcckbfaaaGreatDoorWInv
import Derived.Test.YtldohjlcckbfaaaGreatDoorWInvWords
import Derived.Test.YtldohjlcckbfaaaGreatDoorWGuard
import Derived.Test.YtldohjlcckbfaaaGreatDoorWNEv
import Derived.Test.YtldohjlcckbfaaaGreatDoorWMore
import Derived.Test.YtldohjlcckbfaaaGreatDoorEvT
import Derived.Test.YtldohjlcckbfaaaGreatDoorBase1
import Derived.Test.YtldohjlcckbfaaaGreatDoorHandD
import Derived.Test.YtldohjlcckbfaaaGreatDoorMathA
import Derived.Test.YtldohjlcckbfaaaGreatDoorMathB
namespace Go.Proofs.YtldohjlcckbfaaaGreatDoor.Hand
open Go.RowKit Go.Proofs.YtldohjlcckbfaaaGreatDoorW.PrintWords Go.Proofs.YtldohjlcckbfaaaGreatDoorW.PrintLast Go.Proofs.YtldohjlcckbfaaaGreatDoorW.PrintMore
set_option linter.unusedVariables false
set_option linter.unusedSimpArgs false

open Go.Proofs.YtldohjlcckbfaaaGreatDoor.Pre Go.Proofs.YtldohjlcckbfaaaGreatDoor.Base Go.Proofs.YtldohjlcckbfaaaGreatDoor.Math
theorem rd_last {l : List Int} {s : Int} {i : Nat} (h : l.length = i) : rd (l ++ [s]) (i : Int) = s := by subst h; simp [rd, List.getD_eq_getElem?_getD]
def bad (x : Int) : Bool := decide (x < -1000000 ∨ x > 1000000)
def amountsE (l : List Int) : Int := if l.length > 60 then 3 else if l.any bad then 2 else 0
theorem amounts_ok {l : List Int} (h : amountsE l = 0) : l.length ≤ 60 ∧ ∀ x ∈ l, -1000000 ≤ x ∧ x ≤ 1000000 := by
  unfold amountsE at h
  split at h
  · cases h
  · rename_i h1
    split at h
    · cases h
    · rename_i h2
      refine ⟨by omega, fun x hx => ?_⟩
      have : ¬ bad x = true := fun hb => h2 (List.any_eq_true.2 ⟨x, hx, hb⟩)
      unfold bad at this
      simp at this
      omega
theorem ev_IndexFunc (l : List Int) (hl : l.length ≤ 1000) (d : Nat) : ∀ i : Nat, i + d = l.length → ∃ r : Int, Ev (fun k => slices_IndexFunc_int_int.l0 k l (l.length : Int) i) r ∧ (r ≥ 0 ↔ (l.drop i).any bad = true) := by
  induction d with
  | zero =>
    intro i hi
    refine ⟨-1, Ev.step (f := fun _ => some (-1)) (fun k => ?_) (Ev.now _), ?_⟩
    · simp (disch := omega) only [slices_IndexFunc_int_int.l0, if_neg]
    · rw [List.drop_of_length_le (by omega)]; simp
  | succ d ih =>
    intro i hi
    have hlt : i < l.length := by omega
    rw [drop_rd hlt]
    have h1 : till_counted_1.f (rd l i) = some (bad (rd l i)) := by
      unfold till_counted_1.f bad
      split
      · rename_i h; simp [h]
      · rename_i h; simp [h]
    by_cases hb : bad (rd l i) = true
    · refine ⟨i, Ev.step (f := fun _ => some (i : Int)) (fun k => ?_) (Ev.now _), ?_⟩
      · simp (disch := omega) only [slices_IndexFunc_int_int.l0, if_pos, h1, hb, Option.bind_some]
        rfl
      · simp [hb]
    · obtain ⟨r, hr, hiff⟩ := ih (i + 1) (by omega)
      refine ⟨r, Ev.step (fun k => ?_) hr, ?_⟩
      · simp (disch := omega) only [slices_IndexFunc_int_int.l0, if_pos, h1, Option.bind_some, w64]
        rw [if_neg hb]; rfl
      · rw [hiff]; simp [hb]
theorem ev_counted (l : List Int) (hl : l.length ≤ 1000) : Ev (fun k => till_counted.f k l) (amountsE l) := by
  obtain ⟨r, ⟨K, h⟩, hiff⟩ := ev_IndexFunc l hl l.length 0 (by omega)
  refine ⟨K, fun k hk => ?_⟩
  have h1 := h k hk
  dsimp only at h1 ⊢
  unfold till_counted.f amountsE
  by_cases c : l.length > 60
  · rw [if_pos (by omega), if_pos c]
  · rw [if_neg (by omega), if_neg c]
    unfold slices_ContainsFunc_int_int.f slices_IndexFunc_int_int.f
    rw [show (0 : Int) = ((0 : Nat) : Int) from rfl, h1]
    simp only [Option.bind_some]
    rw [List.drop_zero] at hiff
    by_cases hb : l.any bad = true
    · have := hiff.2 hb
      rw [if_pos (by simpa using this), if_pos hb]
    · rw [if_neg (by simpa using fun h => hb (hiff.1 h)), if_neg hb]
def scan (s : Int) : List Int → List Int
  | [] => []
  | x :: t => (s + x) :: scan (s + x) t
theorem scan_length (l : List Int) : ∀ s, (scan s l).length = l.length := by
  induction l with
  | nil => intro s; rfl
  | cons x t ih => intro s; simp [scan, ih]
theorem ev_sums (l : List Int) (hl : l.length ≤ 1000) (hb : ∀ x ∈ l, -1000000 ≤ x ∧ x ≤ 1000000) (d : Nat) : ∀ (i : Nat) (out : List Int) (s : Int), i + d = l.length → out.length = i → -1000000 * (i : Int) ≤ s → s ≤ 1000000 * (i : Int) →
    Ev (fun k => till_sums_int.l0 k (out ++ [s]) l (l.length : Int) i) (out ++ s :: scan s (l.drop i)) := by
  induction d with
  | zero =>
    intro i out s hi ho _ _
    rw [List.drop_of_length_le (by omega)]
    refine Ev.step (f := fun _ => some (out ++ [s])) (fun k => ?_) (Ev.now _)
    simp (disch := omega) only [till_sums_int.l0, if_neg]
  | succ d ih =>
    intro i out s hi ho h1 h2
    have hlt : i < l.length := by omega
    have hx := hb _ (rd_mem hlt)
    have := ih (i + 1) (out ++ [s]) (s + rd l i) (by omega) (by simp [ho]) (by omega) (by omega)
    rw [drop_rd hlt, scan]
    simp only [List.append_assoc, List.singleton_append] at this
    refine Ev.step (fun k => ?_) this
    have hlen2 : (out ++ [s]).length = i + 1 := by simp [ho]
    have hrd : rd (out ++ [s]) (i : Int) = s := rd_last ho
    simp (disch := omega) only [till_sums_int.l0, till_balances_1.f, hlen2, Int.natCast_add, Int.natCast_one, Int.add_sub_cancel, if_pos, Option.bind_some, hrd, w64]
    simp
theorem ev_balances (l : List Int) (hl : l.length ≤ 1000) (hb : ∀ x ∈ l, -1000000 ≤ x ∧ x ≤ 1000000) : Ev (fun k => till_balances.f k l) (0 :: scan 0 l) := by
  obtain ⟨K, h⟩ := ev_sums l hl hb l.length 0 [] 0 (by omega) rfl (by omega) (by omega)
  refine ⟨K, fun k hk => ?_⟩
  have h1 := h k hk
  dsimp only at h1 ⊢
  unfold till_balances.f till_sums_int.f
  rw [show till_sums_int.l0 k [0] l (l.length : Int) 0 = some (0 :: scan 0 l) from h1]; rfl
theorem ev_above_l (l : List Int) (hl : l.length ≤ 1000) (d : Nat) : ∀ (i m : Nat), i + d = l.length → m ≤ i → Ev (fun k => till_above.l0 k m l (l.length : Int) i) ((m + (l.drop i).countP (fun b => decide (b > 0)) : Nat) : Int) := by
  induction d with
  | zero =>
    intro i m hi hm
    rw [List.drop_of_length_le (by omega)]
    refine Ev.step (f := fun _ => some (m : Int)) (fun k => ?_) (Ev.now _)
    simp (disch := omega) only [till_above.l0, if_neg]
  | succ d ih =>
    intro i m hi hm
    have hlt : i < l.length := by omega
    rw [drop_rd hlt, List.countP_cons]
    by_cases hb : rd l i > 0
    · refine Ev.step (fun k => ?_) (by have := ih (i + 1) (m + 1) (by omega) (by omega); rw [show m + 1 + (l.drop (i + 1)).countP (fun b => decide (b > 0)) = m + ((l.drop (i + 1)).countP (fun b => decide (b > 0)) + if decide (rd l (i : Int) > 0) = true then 1 else 0) by rw [if_pos (by simpa using hb)]; omega] at this; exact this)
      simp (disch := omega) only [till_above.l0, if_pos, w64]
      rfl
    · refine Ev.step (fun k => ?_) (by have := ih (i + 1) m (by omega) (by omega); rw [show m + (l.drop (i + 1)).countP (fun b => decide (b > 0)) = m + ((l.drop (i + 1)).countP (fun b => decide (b > 0)) + if decide (rd l (i : Int) > 0) = true then 1 else 0) by rw [if_neg (by simpa using hb)]; rfl] at this; exact this)
      simp (disch := omega) only [till_above.l0, if_pos, if_neg, w64]
      rfl
theorem countP_scan (l : List Int) : ∀ s, (scan s l).countP (fun b => decide (b > 0)) = pos s l := by
  induction l with
  | nil => intro s; rfl
  | cons x t ih => intro s; rw [scan, List.countP_cons, ih, pos]; simp [Nat.add_comm]
theorem ev_above (l : List Int) (hl : l.length ≤ 1000) (hb : ∀ x ∈ l, -1000000 ≤ x ∧ x ≤ 1000000) : Ev (fun k => till_above.f k l) (pos 0 l : Int) := by
  obtain ⟨K1, h1⟩ := ev_balances l hl hb
  obtain ⟨K2, h2⟩ := ev_above_l (scan 0 l) (by rw [scan_length]; exact hl) (scan 0 l).length 0 0 (by omega) (by omega)
  refine ⟨max K1 K2, fun k hk => ?_⟩
  have h1' := h1 k (by omega)
  have h2' := h2 k (by omega)
  dsimp only at h1' h2' ⊢
  unfold till_above.f
  rw [h1']
  simp only [Option.bind_some, List.length_cons, List.drop_succ_cons, List.drop_zero]
  rw [if_pos (by omega)]
  rw [List.drop_zero, countP_scan, Nat.zero_add] at h2'
  exact h2'
theorem w64n {n : Nat} (h : n ≤ 9223372036854775807) : wrap64 (n : Int) = n := w64 (by omega)
theorem w64mul {a b c : Nat} (h : a * b ≤ c) (hc : c ≤ 9223372036854775807) : wrap64 ((a : Int) * (b : Int)) = ((a * b : Nat) : Int) := by
  rw [← Int.natCast_mul]; exact w64n (Nat.le_trans h hc)
theorem w64div {c h : Nat} (hc : c ≤ 9223372036854775807) : wrap64 (Int.tdiv (c : Int) (h : Int)) = ((c / h : Nat) : Int) := by
  rw [Int.tdiv_eq_ediv_of_nonneg (by omega), ← Int.natCast_ediv]
  exact w64n (Nat.le_trans (Nat.div_le_self c h) hc)
theorem tmodn (c h : Nat) : Int.tmod (c : Int) (h : Int) = ((c % h : Nat) : Int) := by rw [Int.tmod_eq_emod_of_nonneg (by omega), ← Int.natCast_emod]
theorem wf_u8 {a : Int} (h : (Lit.int .u8 a).wf = true) : 0 ≤ a ∧ a ≤ 255 := by
  simp [Lit.wf, IntKind.min, IntKind.max, IntKind.signed, IntKind.bits] at h; omega
theorem wf_i8 {a : Int} (h : (Lit.int .i8 a).wf = true) : -128 ≤ a ∧ a ≤ 127 := by
  simp [Lit.wf, IntKind.min, IntKind.max, IntKind.signed, IntKind.bits] at h; omega
theorem wf_i64 {a : Int} (h : (Lit.int .i64 a).wf = true) : -9223372036854775808 ≤ a ∧ a ≤ 9223372036854775807 := by
  simp [Lit.wf, IntKind.min, IntKind.max, IntKind.signed, IntKind.bits] at h; omega
theorem scan_get (l : List Int) : ∀ (s : Int) (i : Nat), i < l.length → (scan s l)[i]? = some (s + (l.take (i + 1)).sum) := by
  induction l with
  | nil => intro s i hi; simp at hi
  | cons x t ih =>
    intro s i hi
    cases i with
    | zero => simp [scan]
    | succ i =>
      rw [scan, List.getElem?_cons_succ, ih (s + x) i (by simpa using hi), List.take_succ_cons, List.sum_cons]
      congr 1; omega
theorem wsucc {i : Nat} (h : i ≤ 1000000) : wrap64 ((i : Int) + 1) = ((i + 1 : Nat) : Int) := by rw [w64 (by omega)]; omega
open Go.Proofs.YtldohjlcckbfaaaGreatDoor.Pre Go.Proofs.YtldohjlcckbfaaaGreatDoor.Base Go.Proofs.YtldohjlcckbfaaaGreatDoor.Math
theorem per_bound (l : List Int) (hb : ∀ x ∈ l, -1000000 ≤ x ∧ x ≤ 1000000) (i : Nat) : -1000000 ≤ per l i ∧ per l i ≤ 1000000 := by
  unfold per
  rw [List.getD_eq_getElem?_getD]
  cases h : l[i % l.length]? with
  | none => simp
  | some v => exact hb v (List.mem_of_getElem? h)
theorem S_bound (l : List Int) (hb : ∀ x ∈ l, -1000000 ≤ x ∧ x ≤ 1000000) (a : Nat) : ∀ m : Nat, -1000000 * (m : Int) ≤ S l (a + m) - S l a ∧ S l (a + m) - S l a ≤ 1000000 * (m : Int)
  | 0 => by simp
  | m + 1 => by
    have h1 := S_bound l hb a m
    have h2 := per_bound l hb (a + m)
    rw [← Nat.add_assoc, S]; omega
theorem turn_get (l : List Int) (r m : Nat) (hr : r < l.length) (hm : m < l.length) : (l.drop r ++ l.take r)[m]? = some (per l (r + m)) := by
  unfold per
  by_cases h : m < l.length - r
  · rw [List.getElem?_append_left (by simp; omega), List.getElem?_drop, Nat.mod_eq_of_lt (by omega), List.getD_eq_getElem?_getD, List.getElem?_eq_getElem (by omega)]; rfl
  · rw [List.getElem?_append_right (by simp; omega), List.length_drop, List.getElem?_take_of_lt (by omega), Nat.mod_eq_sub_mod (by omega), Nat.mod_eq_of_lt (by omega), List.getD_eq_getElem?_getD, show m - (l.length - r) = r + m - l.length by omega, List.getElem?_eq_getElem (by omega)]; rfl
theorem turn_sum (l : List Int) (r : Nat) (hr : r < l.length) : ∀ m, m ≤ l.length → S l (r + m) = S l r + ((l.drop r ++ l.take r).take m).sum
  | 0, _ => by simp
  | m + 1, h => by
    rw [← Nat.add_assoc, S, turn_sum l r hr m (by omega), List.take_add_one, turn_get l r m hr (by omega), List.sum_append]
    simp; omega
theorem pos_full : ∀ (w : List Int) (s : Int), pos s w = w.length ↔ ∀ j, j < w.length → s + (w.take (j + 1)).sum > 0
  | [], s => by simp [pos]
  | x :: t, s => by
    have ih := pos_full t (s + x)
    have hle := pos_le t (s + x)
    rw [pos, List.length_cons]
    constructor
    · intro h j hj
      by_cases c : s + x > 0
      · rw [if_pos c] at h
        cases j with
        | zero => simp; omega
        | succ j =>
          have := ih.1 (by omega) j (by omega)
          rw [List.take_succ_cons, List.sum_cons]; omega
      · rw [if_neg c] at h; omega
    · intro h
      have h0 := h 0 (by omega)
      simp at h0
      have h1 := ih.2 fun j hj => by
        have := h (j + 1) (by omega)
        rw [List.take_succ_cons, List.sum_cons] at this; omega
      rw [if_pos h0]; omega
theorem turn_length (l : List Int) (r : Nat) (hr : r < l.length) : (l.drop r ++ l.take r).length = l.length := by
  rw [List.length_append, List.length_drop, List.length_take]; omega
theorem pos_turn (l : List Int) (r : Nat) (hr : r < l.length) : (pos 0 (l.drop r ++ l.take r) : Int) = l.length ↔ good l r = true := by
  have hl := turn_length l r hr
  rw [good_iff, Int.natCast_inj]
  have := pos_full (l.drop r ++ l.take r) 0
  rw [hl] at this
  rw [this]
  constructor
  · intro h j hj
    have h1 := h j hj
    have h2 := turn_sum l r hr (j + 1) (by omega)
    rw [← Nat.add_assoc] at h2; omega
  · intro h j hj
    have h1 := h j hj
    have h2 := turn_sum l r hr (j + 1) (by omega)
    rw [← Nat.add_assoc] at h2; omega
def goodsI (l : List Int) (n : Nat) : List Int := (goods l n).map fun r : Nat => (r : Int)
theorem goodsI_succ (l : List Int) (n : Nat) : goodsI l (n + 1) = if good l n = true then goodsI l n ++ [(n : Int)] else goodsI l n := by
  unfold goodsI
  rw [goods_succ]
  by_cases h : good l n = true
  · simp [h]
  · simp [h]
theorem goodsI_length (l : List Int) (n : Nat) : (goodsI l n).length ≤ n := by
  unfold goodsI goods
  rw [List.length_map]
  have := List.length_filter_le (good l) (List.range n)
  simpa using this
theorem turn_ok (l : List Int) (r : Nat) (hb : ∀ x ∈ l, -1000000 ≤ x ∧ x ≤ 1000000) : ∀ x ∈ l.drop r ++ l.take r, -1000000 ≤ x ∧ x ≤ 1000000 := by
  intro x hx
  rcases List.mem_append.1 hx with h | h
  · exact hb x (List.mem_of_mem_drop h)
  · exact hb x (List.mem_of_mem_take h)
theorem ev_rots (l : List Int) (hl : l.length ≤ 1000) (hb : ∀ x ∈ l, -1000000 ≤ x ∧ x ≤ 1000000) (d : Nat) : ∀ i, i + d = l.length → Ev (fun k => rotsFrom k l i d (goodsI l i)) (goodsI l l.length) := by
  induction d with
  | zero =>
    intro i hi
    obtain rfl : i = l.length := by omega
    exact Ev.now _
  | succ d ih =>
    intro i hi
    obtain ⟨K1, h1⟩ := ev_above (l.drop i ++ l.take i) (by rw [turn_length l i (by omega)]; exact hl) (turn_ok l i hb)
    obtain ⟨K2, h2⟩ := ih (i + 1) (by omega)
    refine ⟨max K1 K2, fun k hk => ?_⟩
    have h1' := h1 k (by omega)
    have h2' := h2 k (by omega)
    dsimp only at h1' h2' ⊢
    rw [rotsFrom, h1']
    simp only [Option.bind_some]
    rw [← h2', goodsI_succ]
    congr 1
    by_cases hg : good l i = true
    · rw [if_pos hg, if_pos ((pos_turn l i (by omega)).2 hg)]
    · rw [if_neg hg, if_neg (fun h => hg ((pos_turn l i (by omega)).1 h))]
theorem ev_Rotations (l : List Int) (hl : l.length ≤ 1000) : Ev (fun k => till_Rotations.f k l) (if amountsE l = 0 then (goodsI l l.length, 0) else ([], amountsE l)) := by
  obtain ⟨K1, h1⟩ := ev_counted l hl
  by_cases h : amountsE l = 0
  · obtain ⟨K2, h2⟩ := ev_rots l hl (amounts_ok h).2 l.length 0 (by omega)
    refine ⟨max K1 K2, fun k hk => ?_⟩
    have h1' := h1 k (by omega)
    have h2' := h2 k (by omega)
    dsimp only at h1' h2' ⊢
    unfold till_Rotations.f
    rw [h1', if_pos h]
    simp only [Option.bind_some]
    rw [if_pos h, show ([] : List Int) = goodsI l 0 from rfl, h2']; rfl
  · refine ⟨K1, fun k hk => ?_⟩
    have h1' := h1 k (by omega)
    dsimp only at h1' ⊢
    unfold till_Rotations.f
    rw [h1', if_neg h]
    simp only [Option.bind_some]
    rw [if_neg h]
theorem bal_last (l : List Int) : rd (0 :: scan 0 l) (l.length : Int) = l.sum := by
  cases hl : l.length with
  | zero => obtain rfl := List.eq_nil_of_length_eq_zero hl; simp [rd]
  | succ n =>
    have := scan_get l 0 n (by omega)
    rw [← hl, List.take_length] at this
    simp [rd, List.getD_eq_getElem?_getD, this]
def raneyR (l : List Int) : Int × Int := if amountsE l = 0 then (if l.sum = 1 then (rd (goodsI l l.length) 0, 0) else (0, 10)) else (0, amountsE l)
theorem goodsI_one (l : List Int) (h : l.sum = 1) : ∃ r : Nat, goodsI l l.length = [(r : Int)] := by
  obtain ⟨r, hr, _⟩ := raney l h
  exact ⟨r, by simp [goodsI, hr]⟩
theorem ev_Raney (l : List Int) (hl : l.length ≤ 1000) : Ev (fun k => till_Raney.f k l) (raneyR l) := by
  obtain ⟨K1, h1⟩ := ev_Rotations l hl
  unfold raneyR
  by_cases h : amountsE l = 0
  · obtain ⟨K2, h2⟩ := ev_balances l hl (amounts_ok h).2
    refine ⟨max K1 K2, fun k hk => ?_⟩
    have h1' := h1 k (by omega)
    have h2' := h2 k (by omega)
    dsimp only at h1' h2' ⊢
    unfold till_Raney.f
    rw [h1', if_pos h, if_pos h]
    simp only [Option.bind_some, if_true, h2', bal_last, List.length_cons, scan_length]
    rw [if_pos (by omega), if_pos (by omega)]
    by_cases hs : l.sum = 1
    · obtain ⟨r, hr⟩ := goodsI_one l hs
      rw [if_pos hs, if_pos hs, hr]; rfl
    · rw [if_neg hs, if_neg hs]
  · refine ⟨K1, fun k hk => ?_⟩
    have h1' := h1 k (by omega)
    dsimp only at h1' ⊢
    unfold till_Raney.f
    rw [h1', if_neg h, if_neg h]
    simp only [Option.bind_some]
    rw [if_neg h]

end Go.Proofs.YtldohjlcckbfaaaGreatDoor.Hand
