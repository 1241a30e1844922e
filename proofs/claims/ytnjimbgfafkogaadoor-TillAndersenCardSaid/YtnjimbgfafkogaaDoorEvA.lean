/- What the printed functions of amounts come to. -/
import Derived.Test.YtnjimbgfafkogaaDoorHandC
import Derived.Test.YtnjimbgfafkogaaDoorHandD
import Derived.Test.YtnjimbgfafkogaaDoorBase1
import Derived.Test.YtnjimbgfafkogaaDoorMathA
import Derived.Test.YtnjimbgfafkogaaDoorMathB
import Derived.Test.YtnjimbgfafkogaaDoorPrint1
namespace Go.Proofs.YtnjimbgfafkogaaDoor.Pure
open Go.RowKit Go.Proofs.YtnjimbgfafkogaaDoor.Hand Go.Proofs.YtnjimbgfafkogaaDoor.Pre Go.Proofs.YtnjimbgfafkogaaDoor.Bal Go.Proofs.YtnjimbgfafkogaaDoor.Base Go.Proofs.YtnjimbgfafkogaaDoor.Print Go.Proofs.YtnjimbgfafkogaaDoor.Math Go.Proofs.YtnjimbgfafkogaaDoorW.PrintWords Go.Proofs.YtnjimbgfafkogaaDoorW.PrintLast Go.Proofs.YtnjimbgfafkogaaDoorW.PrintMore
set_option linter.unusedVariables false
set_option linter.unusedSimpArgs false

theorem w64 {n : Int} (h : -9223372036854775808 ≤ n ∧ n ≤ 9223372036854775807) : wrap64 n = n := by unfold wrap64; omega
theorem rd_get {l : List Int} {i : Nat} (h : i < l.length) : rd l (i : Int) = l[i] := by simp [rd, List.getD_eq_getElem?_getD, h]
theorem drop_rd {l : List Int} {i : Nat} (h : i < l.length) : l.drop i = rd l (i : Int) :: l.drop (i + 1) := by rw [rd_get h]; exact List.drop_eq_getElem_cons h
theorem rd_mem {l : List Int} {i : Nat} (h : i < l.length) : rd l (i : Int) ∈ l := by rw [rd_get h]; exact List.getElem_mem h
theorem rd_last {l : List Int} {s : Int} {i : Nat} (h : l.length = i) : rd (l ++ [s]) (i : Int) = s := by subst h; simp [rd, List.getD_eq_getElem?_getD]
def bad (x : Int) : Bool := decide (x < -1000000 ∨ x > 1000000)
def amountsE (l : List Int) : Int := if l.length > 60 then 3 else if l.any bad then 2 else 0
theorem amounts_ok {l : List Int} (h : amountsE l = 0) : l.length ≤ 60 ∧ ∀ x ∈ l, -1000000 ≤ x ∧ x ≤ 1000000 := by
  unfold amountsE at h
  split at h
  · cases h
  · rename_i h1
    split at h
    · cases h
    · rename_i h2
      refine ⟨by omega, fun x hx => ?_⟩
      have : ¬ bad x = true := fun hb => h2 (List.any_eq_true.2 ⟨x, hx, hb⟩)
      unfold bad at this
      simp at this
      omega
theorem ev_IndexFunc (l : List Int) (hl : l.length ≤ 1000) (d : Nat) : ∀ i : Nat, i + d = l.length → ∃ r : Int, Ev (fun k => slices_IndexFunc_int_int.l0 k l (l.length : Int) i) r ∧ (r ≥ 0 ↔ (l.drop i).any bad = true) := by
  induction d with
  | zero =>
    intro i hi
    refine ⟨-1, Ev.step (f := fun _ => some (-1)) (fun k => ?_) (Ev.now _), ?_⟩
    · simp (disch := omega) only [slices_IndexFunc_int_int.l0, if_neg]
    · rw [List.drop_of_length_le (by omega)]; simp
  | succ d ih =>
    intro i hi
    have hlt : i < l.length := by omega
    rw [drop_rd hlt]
    have h1 : till_counted_1.f (rd l i) = some (bad (rd l i)) := by
      unfold till_counted_1.f bad
      split
      · rename_i h; simp [h]
      · rename_i h; simp [h]
    by_cases hb : bad (rd l i) = true
    · refine ⟨i, Ev.step (f := fun _ => some (i : Int)) (fun k => ?_) (Ev.now _), ?_⟩
      · simp (disch := omega) only [slices_IndexFunc_int_int.l0, if_pos, h1, hb, Option.bind_some]
        rfl
      · simp [hb]
    · obtain ⟨r, hr, hiff⟩ := ih (i + 1) (by omega)
      refine ⟨r, Ev.step (fun k => ?_) hr, ?_⟩
      · simp (disch := omega) only [slices_IndexFunc_int_int.l0, if_pos, h1, Option.bind_some, w64]
        rw [if_neg hb]; rfl
      · rw [hiff]; simp [hb]
theorem ev_counted (l : List Int) (hl : l.length ≤ 1000) : Ev (fun k => till_counted.f k l) (amountsE l) := by
  obtain ⟨r, ⟨K, h⟩, hiff⟩ := ev_IndexFunc l hl l.length 0 (by omega)
  refine ⟨K, fun k hk => ?_⟩
  have h1 := h k hk
  dsimp only at h1 ⊢
  unfold till_counted.f amountsE
  by_cases c : l.length > 60
  · rw [if_pos (by omega), if_pos c]
  · rw [if_neg (by omega), if_neg c]
    unfold slices_ContainsFunc_int_int.f slices_IndexFunc_int_int.f
    rw [show (0 : Int) = ((0 : Nat) : Int) from rfl, h1]
    simp only [Option.bind_some]
    rw [List.drop_zero] at hiff
    by_cases hb : l.any bad = true
    · have := hiff.2 hb
      rw [if_pos (by simpa using this), if_pos hb]
    · rw [if_neg (by simpa using fun h => hb (hiff.1 h)), if_neg hb]
theorem ev_Amounts_l (l : List Int) (hl : l.length ≤ 1000) (d : Nat) : ∀ i : Nat, i + d = l.length → Ev (fun k => pomaderef09_Amounts.l0 k l i) (if (l.drop i).any bad then 2 else 0) := by
  induction d with
  | zero =>
    intro i hi
    rw [List.drop_of_length_le (by omega)]
    refine Ev.step (f := fun _ => some 0) (fun k => ?_) (Ev.now _)
    simp (disch := omega) only [pomaderef09_Amounts.l0, if_neg]
  | succ d ih =>
    intro i hi
    have hlt : i < l.length := by omega
    rw [drop_rd hlt, List.any_cons]
    by_cases hb : bad (rd l i) = true
    · rw [hb, Bool.true_or]
      refine Ev.step (f := fun _ => some 2) (fun k => ?_) (Ev.now _)
      simp (disch := omega) only [pomaderef09_Amounts.l0, if_pos]
      unfold bad at hb
      simp only [decide_eq_true_eq] at hb
      by_cases c : rd l (i : Int) < -1000000
      · rw [if_pos c]
      · rw [if_neg c, if_pos (by omega)]
    · rw [Bool.eq_false_iff.2 hb, Bool.false_or]
      refine Ev.step (fun k => ?_) (ih (i + 1) (by omega))
      unfold bad at hb
      simp only [decide_eq_true_eq] at hb
      simp (disch := omega) only [pomaderef09_Amounts.l0, if_pos, if_neg, w64]
      rfl
theorem ev_Amounts (l : List Int) (hl : l.length ≤ 1000) : Ev (fun k => pomaderef09_Amounts.f k l) (amountsE l) := by
  obtain ⟨K, h⟩ := ev_Amounts_l l hl l.length 0 (by omega)
  refine ⟨K, fun k hk => ?_⟩
  have h1 := h k hk
  dsimp only at h1 ⊢
  unfold pomaderef09_Amounts.f amountsE
  by_cases c : l.length > 60
  · rw [if_pos (by omega), if_pos c]
  · rw [if_neg (by omega), if_neg c, show (0 : Int) = ((0 : Nat) : Int) from rfl, h1, List.drop_zero]; rfl
/-- The balances after each amount. -/
def scan (s : Int) : List Int → List Int
  | [] => []
  | x :: t => (s + x) :: scan (s + x) t
theorem scan_length (l : List Int) : ∀ s, (scan s l).length = l.length := by
  induction l with
  | nil => intro s; rfl
  | cons x t ih => intro s; simp [scan, ih]
theorem ev_sums (l : List Int) (hl : l.length ≤ 1000) (hb : ∀ x ∈ l, -1000000 ≤ x ∧ x ≤ 1000000) (d : Nat) : ∀ (i : Nat) (out : List Int) (s : Int), i + d = l.length → out.length = i → -1000000 * (i : Int) ≤ s → s ≤ 1000000 * (i : Int) →
    Ev (fun k => till_sums_int.l0 k (out ++ [s]) l (l.length : Int) i) (out ++ s :: scan s (l.drop i)) := by
  induction d with
  | zero =>
    intro i out s hi ho _ _
    rw [List.drop_of_length_le (by omega)]
    refine Ev.step (f := fun _ => some (out ++ [s])) (fun k => ?_) (Ev.now _)
    simp (disch := omega) only [till_sums_int.l0, if_neg]
  | succ d ih =>
    intro i out s hi ho h1 h2
    have hlt : i < l.length := by omega
    have hx := hb _ (rd_mem hlt)
    have := ih (i + 1) (out ++ [s]) (s + rd l i) (by omega) (by simp [ho]) (by omega) (by omega)
    rw [drop_rd hlt, scan]
    simp only [List.append_assoc, List.singleton_append] at this
    refine Ev.step (fun k => ?_) this
    have hlen2 : (out ++ [s]).length = i + 1 := by simp [ho]
    have hrd : rd (out ++ [s]) (i : Int) = s := rd_last ho
    simp (disch := omega) only [till_sums_int.l0, till_balances_1.f, hlen2, Int.natCast_add, Int.natCast_one, Int.add_sub_cancel, if_pos, Option.bind_some, hrd, w64]
    simp
theorem ev_balances (l : List Int) (hl : l.length ≤ 1000) (hb : ∀ x ∈ l, -1000000 ≤ x ∧ x ≤ 1000000) : Ev (fun k => till_balances.f k l) (0 :: scan 0 l) := by
  obtain ⟨K, h⟩ := ev_sums l hl hb l.length 0 [] 0 (by omega) rfl (by omega) (by omega)
  refine ⟨K, fun k hk => ?_⟩
  have h1 := h k hk
  dsimp only at h1 ⊢
  unfold till_balances.f till_sums_int.f
  rw [show till_sums_int.l0 k [0] l (l.length : Int) 0 = some (0 :: scan 0 l) from h1]; rfl
theorem ev_above_l (l : List Int) (hl : l.length ≤ 1000) (d : Nat) : ∀ (i m : Nat), i + d = l.length → m ≤ i → Ev (fun k => till_above.l0 k m l (l.length : Int) i) ((m + (l.drop i).countP (fun b => decide (b > 0)) : Nat) : Int) := by
  induction d with
  | zero =>
    intro i m hi hm
    rw [List.drop_of_length_le (by omega)]
    refine Ev.step (f := fun _ => some (m : Int)) (fun k => ?_) (Ev.now _)
    simp (disch := omega) only [till_above.l0, if_neg]
  | succ d ih =>
    intro i m hi hm
    have hlt : i < l.length := by omega
    rw [drop_rd hlt, List.countP_cons]
    by_cases hb : rd l i > 0
    · refine Ev.step (fun k => ?_) (by have := ih (i + 1) (m + 1) (by omega) (by omega); rw [show m + 1 + (l.drop (i + 1)).countP (fun b => decide (b > 0)) = m + ((l.drop (i + 1)).countP (fun b => decide (b > 0)) + if decide (rd l (i : Int) > 0) = true then 1 else 0) by rw [if_pos (by simpa using hb)]; omega] at this; exact this)
      simp (disch := omega) only [till_above.l0, if_pos, w64]
      rfl
    · refine Ev.step (fun k => ?_) (by have := ih (i + 1) m (by omega) (by omega); rw [show m + (l.drop (i + 1)).countP (fun b => decide (b > 0)) = m + ((l.drop (i + 1)).countP (fun b => decide (b > 0)) + if decide (rd l (i : Int) > 0) = true then 1 else 0) by rw [if_neg (by simpa using hb)]; rfl] at this; exact this)
      simp (disch := omega) only [till_above.l0, if_pos, if_neg, w64]
      rfl
theorem countP_scan (l : List Int) : ∀ s, (scan s l).countP (fun b => decide (b > 0)) = pos s l := by
  induction l with
  | nil => intro s; rfl
  | cons x t ih => intro s; rw [scan, List.countP_cons, ih, pos]; simp [Nat.add_comm]
theorem ev_above (l : List Int) (hl : l.length ≤ 1000) (hb : ∀ x ∈ l, -1000000 ≤ x ∧ x ≤ 1000000) : Ev (fun k => till_above.f k l) (pos 0 l : Int) := by
  obtain ⟨K1, h1⟩ := ev_balances l hl hb
  obtain ⟨K2, h2⟩ := ev_above_l (scan 0 l) (by rw [scan_length]; exact hl) (scan 0 l).length 0 0 (by omega) (by omega)
  refine ⟨max K1 K2, fun k hk => ?_⟩
  have h1' := h1 k (by omega)
  have h2' := h2 k (by omega)
  dsimp only at h1' h2' ⊢
  unfold till_above.f
  rw [h1']
  simp only [Option.bind_some, List.length_cons, List.drop_succ_cons, List.drop_zero]
  rw [if_pos (by omega)]
  rw [List.drop_zero, countP_scan, Nat.zero_add] at h2'
  exact h2'
theorem w64n {n : Nat} (h : n ≤ 9223372036854775807) : wrap64 (n : Int) = n := w64 (by omega)
theorem w64mul {a b c : Nat} (h : a * b ≤ c) (hc : c ≤ 9223372036854775807) : wrap64 ((a : Int) * (b : Int)) = ((a * b : Nat) : Int) := by
  rw [← Int.natCast_mul]; exact w64n (Nat.le_trans h hc)
theorem w64div {c h : Nat} (hc : c ≤ 9223372036854775807) : wrap64 (Int.tdiv (c : Int) (h : Int)) = ((c / h : Nat) : Int) := by
  rw [Int.tdiv_eq_ediv_of_nonneg (by omega), ← Int.natCast_ediv]
  exact w64n (Nat.le_trans (Nat.div_le_self c h) hc)
theorem tmodn (c h : Nat) : Int.tmod (c : Int) (h : Int) = ((c % h : Nat) : Int) := by rw [Int.tmod_eq_emod_of_nonneg (by omega), ← Int.natCast_emod]
theorem ev_same_l (a b : List Int) (hlen : a.length = b.length) (hl : a.length ≤ 1000000) (d : Nat) : ∀ i : Nat, i + d = a.length → Ev (fun k => pomadelaw09_same.l0 k a b i) (decide (a.drop i = b.drop i)) := by
  induction d with
  | zero =>
    intro i hi
    rw [List.drop_of_length_le (by omega), List.drop_of_length_le (by omega)]
    refine Ev.step (f := fun _ => some true) (fun k => ?_) (Ev.now _)
    simp (disch := omega) only [pomadelaw09_same.l0, if_neg]
  | succ d ih =>
    intro i hi
    rw [drop_rd (l := a) (by omega), drop_rd (l := b) (by omega)]
    by_cases c : rd a (i : Int) = rd b (i : Int)
    · refine Ev.step (fun k => ?_) (by have := ih (i + 1) (by omega); simpa [c] using this)
      simp (disch := omega) only [pomadelaw09_same.l0, if_pos, w64]
      first | done | rw [if_pos c]
    · refine Ev.step (f := fun _ => some false) (fun k => ?_) (by simpa [c] using Ev.now false)
      simp (disch := omega) only [pomadelaw09_same.l0, if_pos]
      rw [if_neg c]
theorem ev_same (a b : List Int) (hl : a.length ≤ 1000000) : Ev (fun k => pomadelaw09_same.f k a b) (decide (a = b)) := by
  by_cases h : a.length = b.length
  · have := ev_same_l a b h hl a.length 0 (by omega)
    rw [List.drop_zero, List.drop_zero] at this
    refine Ev.congr (fun k => ?_) this
    unfold pomadelaw09_same.f
    rw [if_pos (by omega)]; rfl
  · rw [decide_eq_false (fun e => h (by rw [e]))]
    refine Ev.congr (fun k => ?_) (Ev.now false)
    unfold pomadelaw09_same.f
    rw [if_neg (by omega)]
theorem alive_true : Ev (fun k => pomadelaw09_alive.f k) true := by
  refine Ev.of pomadelaw09_alive.mono (k := 60) ?_
  decide +kernel
theorem wf_u8 {a : Int} (h : (Lit.int .u8 a).wf = true) : 0 ≤ a ∧ a ≤ 255 := by
  simp [Lit.wf, IntKind.min, IntKind.max, IntKind.signed, IntKind.bits] at h; omega
theorem wf_i8 {a : Int} (h : (Lit.int .i8 a).wf = true) : -128 ≤ a ∧ a ≤ 127 := by
  simp [Lit.wf, IntKind.min, IntKind.max, IntKind.signed, IntKind.bits] at h; omega
theorem wf_i64 {a : Int} (h : (Lit.int .i64 a).wf = true) : -9223372036854775808 ≤ a ∧ a ≤ 9223372036854775807 := by
  simp [Lit.wf, IntKind.min, IntKind.max, IntKind.signed, IntKind.bits] at h; omega
theorem scan_get (l : List Int) : ∀ (s : Int) (i : Nat), i < l.length → (scan s l)[i]? = some (s + (l.take (i + 1)).sum) := by
  induction l with
  | nil => intro s i hi; simp at hi
  | cons x t ih =>
    intro s i hi
    cases i with
    | zero => simp [scan]
    | succ i =>
      rw [scan, List.getElem?_cons_succ, ih (s + x) i (by simpa using hi), List.take_succ_cons, List.sum_cons]
      congr 1; omega
theorem wsucc {i : Nat} (h : i ≤ 1000000) : wrap64 ((i : Int) + 1) = ((i + 1 : Nat) : Int) := by rw [w64 (by omega)]; omega

end Go.Proofs.YtnjimbgfafkogaaDoor.Pure
