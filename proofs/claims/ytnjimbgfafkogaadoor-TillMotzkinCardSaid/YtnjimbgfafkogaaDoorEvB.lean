/- What the printed functions of rotations come to. -/
import Derived.Test.YtnjimbgfafkogaaDoorEvA
namespace Go.Proofs.YtnjimbgfafkogaaDoor.Pure
open Go.RowKit Go.Proofs.YtnjimbgfafkogaaDoor.Hand Go.Proofs.YtnjimbgfafkogaaDoor.Pre Go.Proofs.YtnjimbgfafkogaaDoor.Bal Go.Proofs.YtnjimbgfafkogaaDoor.Print Go.Proofs.YtnjimbgfafkogaaDoor.Math Go.Proofs.YtnjimbgfafkogaaDoorW.PrintWords Go.Proofs.YtnjimbgfafkogaaDoorW.PrintLast Go.Proofs.YtnjimbgfafkogaaDoorW.PrintMore
set_option linter.unusedVariables false
set_option linter.unusedSimpArgs false

theorem per_bound (l : List Int) (hb : ∀ x ∈ l, -1000000 ≤ x ∧ x ≤ 1000000) (i : Nat) : -1000000 ≤ per l i ∧ per l i ≤ 1000000 := by
  unfold per
  rw [List.getD_eq_getElem?_getD]
  cases h : l[i % l.length]? with
  | none => simp
  | some v => exact hb v (List.mem_of_getElem? h)
theorem S_bound (l : List Int) (hb : ∀ x ∈ l, -1000000 ≤ x ∧ x ≤ 1000000) (a : Nat) : ∀ m : Nat, -1000000 * (m : Int) ≤ S l (a + m) - S l a ∧ S l (a + m) - S l a ≤ 1000000 * (m : Int)
  | 0 => by simp
  | m + 1 => by
    have h1 := S_bound l hb a m
    have h2 := per_bound l hb (a + m)
    rw [← Nat.add_assoc, S]; omega
theorem turn_get (l : List Int) (r m : Nat) (hr : r < l.length) (hm : m < l.length) : (l.drop r ++ l.take r)[m]? = some (per l (r + m)) := by
  unfold per
  by_cases h : m < l.length - r
  · rw [List.getElem?_append_left (by simp; omega), List.getElem?_drop, Nat.mod_eq_of_lt (by omega), List.getD_eq_getElem?_getD, List.getElem?_eq_getElem (by omega)]; rfl
  · rw [List.getElem?_append_right (by simp; omega), List.length_drop, List.getElem?_take_of_lt (by omega), Nat.mod_eq_sub_mod (by omega), Nat.mod_eq_of_lt (by omega), List.getD_eq_getElem?_getD, show m - (l.length - r) = r + m - l.length by omega, List.getElem?_eq_getElem (by omega)]; rfl
theorem turn_sum (l : List Int) (r : Nat) (hr : r < l.length) : ∀ m, m ≤ l.length → S l (r + m) = S l r + ((l.drop r ++ l.take r).take m).sum
  | 0, _ => by simp
  | m + 1, h => by
    rw [← Nat.add_assoc, S, turn_sum l r hr m (by omega), List.take_add_one, turn_get l r m hr (by omega), List.sum_append]
    simp; omega
theorem pos_full : ∀ (w : List Int) (s : Int), pos s w = w.length ↔ ∀ j, j < w.length → s + (w.take (j + 1)).sum > 0
  | [], s => by simp [pos]
  | x :: t, s => by
    have ih := pos_full t (s + x)
    have hle := pos_le t (s + x)
    rw [pos, List.length_cons]
    constructor
    · intro h j hj
      by_cases c : s + x > 0
      · rw [if_pos c] at h
        cases j with
        | zero => simp; omega
        | succ j =>
          have := ih.1 (by omega) j (by omega)
          rw [List.take_succ_cons, List.sum_cons]; omega
      · rw [if_neg c] at h; omega
    · intro h
      have h0 := h 0 (by omega)
      simp at h0
      have h1 := ih.2 fun j hj => by
        have := h (j + 1) (by omega)
        rw [List.take_succ_cons, List.sum_cons] at this; omega
      rw [if_pos h0]; omega
theorem turn_length (l : List Int) (r : Nat) (hr : r < l.length) : (l.drop r ++ l.take r).length = l.length := by
  rw [List.length_append, List.length_drop, List.length_take]; omega
theorem pos_turn (l : List Int) (r : Nat) (hr : r < l.length) : (pos 0 (l.drop r ++ l.take r) : Int) = l.length ↔ good l r = true := by
  have hl := turn_length l r hr
  rw [good_iff, Int.natCast_inj]
  have := pos_full (l.drop r ++ l.take r) 0
  rw [hl] at this
  rw [this]
  constructor
  · intro h j hj
    have h1 := h j hj
    have h2 := turn_sum l r hr (j + 1) (by omega)
    rw [← Nat.add_assoc] at h2; omega
  · intro h j hj
    have h1 := h j hj
    have h2 := turn_sum l r hr (j + 1) (by omega)
    rw [← Nat.add_assoc] at h2; omega
def goodsI (l : List Int) (n : Nat) : List Int := (goods l n).map fun r : Nat => (r : Int)
theorem goodsI_succ (l : List Int) (n : Nat) : goodsI l (n + 1) = if good l n = true then goodsI l n ++ [(n : Int)] else goodsI l n := by
  unfold goodsI
  rw [goods_succ]
  by_cases h : good l n = true
  · simp [h]
  · simp [h]
theorem goodsI_length (l : List Int) (n : Nat) : (goodsI l n).length ≤ n := by
  unfold goodsI goods
  rw [List.length_map]
  have := List.length_filter_le (good l) (List.range n)
  simpa using this
theorem turn_ok (l : List Int) (r : Nat) (hb : ∀ x ∈ l, -1000000 ≤ x ∧ x ≤ 1000000) : ∀ x ∈ l.drop r ++ l.take r, -1000000 ≤ x ∧ x ≤ 1000000 := by
  intro x hx
  rcases List.mem_append.1 hx with h | h
  · exact hb x (List.mem_of_mem_drop h)
  · exact hb x (List.mem_of_mem_take h)
theorem ev_rots (l : List Int) (hl : l.length ≤ 1000) (hb : ∀ x ∈ l, -1000000 ≤ x ∧ x ≤ 1000000) (d : Nat) : ∀ i, i + d = l.length → Ev (fun k => rotsFrom k l i d (goodsI l i)) (goodsI l l.length) := by
  induction d with
  | zero =>
    intro i hi
    obtain rfl : i = l.length := by omega
    exact Ev.now _
  | succ d ih =>
    intro i hi
    obtain ⟨K1, h1⟩ := ev_above (l.drop i ++ l.take i) (by rw [turn_length l i (by omega)]; exact hl) (turn_ok l i hb)
    obtain ⟨K2, h2⟩ := ih (i + 1) (by omega)
    refine ⟨max K1 K2, fun k hk => ?_⟩
    have h1' := h1 k (by omega)
    have h2' := h2 k (by omega)
    dsimp only at h1' h2' ⊢
    rw [rotsFrom, h1']
    simp only [Option.bind_some]
    rw [← h2', goodsI_succ]
    congr 1
    by_cases hg : good l i = true
    · rw [if_pos hg, if_pos ((pos_turn l i (by omega)).2 hg)]
    · rw [if_neg hg, if_neg (fun h => hg ((pos_turn l i (by omega)).1 h))]
theorem ev_Rotations (l : List Int) (hl : l.length ≤ 1000) : Ev (fun k => till_Rotations.f k l) (if amountsE l = 0 then (goodsI l l.length, 0) else ([], amountsE l)) := by
  obtain ⟨K1, h1⟩ := ev_counted l hl
  by_cases h : amountsE l = 0
  · obtain ⟨K2, h2⟩ := ev_rots l hl (amounts_ok h).2 l.length 0 (by omega)
    refine ⟨max K1 K2, fun k hk => ?_⟩
    have h1' := h1 k (by omega)
    have h2' := h2 k (by omega)
    dsimp only at h1' h2' ⊢
    unfold till_Rotations.f
    rw [h1', if_pos h]
    simp only [Option.bind_some]
    rw [if_pos h, show ([] : List Int) = goodsI l 0 from rfl, h2']; rfl
  · refine ⟨K1, fun k hk => ?_⟩
    have h1' := h1 k (by omega)
    dsimp only at h1' ⊢
    unfold till_Rotations.f
    rw [h1', if_neg h]
    simp only [Option.bind_some]
    rw [if_neg h]
theorem ev_rl1 (l : List Int) (hl : l.length ≤ 1000) (hb : ∀ x ∈ l, -1000000 ≤ x ∧ x ≤ 1000000) (r : Nat) (hr : r < l.length) (out v : List Int)
    (hv : Ev (fun k => pomaderef09_rotations.l0 k l (if good l r = true then out ++ [(r : Int)] else out) ((r + 1 : Nat) : Int)) v) (ho : out.length ≤ 1000) (d : Nat) :
    ∀ m, m + d = l.length → (∀ j, j < m → S l (r + j + 1) > S l r) → Ev (fun k => pomaderef09_rotations.l1 k l out r (S l (r + m) - S l r) true m) v := by
  induction d with
  | zero =>
    intro m hm hok
    obtain rfl : m = l.length := by omega
    have hg : good l r = true := (good_iff l r).2 hok
    rw [if_pos hg] at hv
    refine Ev.step (fun k => ?_) hv
    simp (disch := omega) only [pomaderef09_rotations.l1, if_pos, if_neg, w64]
    rw [if_pos trivial]; rfl
  | succ d ih =>
    intro m hm hok
    have hp : Int.tmod (wrap64 ((r : Int) + m)) (l.length : Int) = (((r + m) % l.length : Nat) : Int) := by
      rw [w64 (by omega), Int.tmod_eq_emod_of_nonneg (by omega)]; simp
    have hlt : (r + m) % l.length < l.length := Nat.mod_lt _ (by omega)
    have hrd : rd l (((r + m) % l.length : Nat) : Int) = per l (r + m) := by unfold rd per; rw [Int.toNat_natCast]
    have hS : S l (r + m) - S l r + per l (r + m) = S l (r + m + 1) - S l r := by rw [S]; omega
    have hB := S_bound l hb r (m + 1)
    rw [← Nat.add_assoc] at hB
    have hwS : wrap64 (S l (r + m + 1) - S l r) = S l (r + m + 1) - S l r := w64 (by omega)
    have one : ∀ k, pomaderef09_rotations.l1 (k + 1) l out r (S l (r + m) - S l r) true m = pomaderef09_rotations.l1 k l out r (S l (r + m + 1) - S l r) (decide (S l (r + m + 1) - S l r > 0)) ((m + 1 : Nat) : Int) := fun k => by
      simp only [pomaderef09_rotations.l1, hp, hrd, hS, hwS]
      simp (disch := omega) only [if_pos, if_neg, w64]
      rw [if_pos trivial]; rfl
    refine Ev.step one ?_
    by_cases c : S l (r + m + 1) > S l r
    · rw [decide_eq_true (by omega)]
      have := ih (m + 1) (by omega) fun j hj => by
        by_cases e : j = m
        · subst e; exact c
        · exact hok j (by omega)
      exact this
    · rw [decide_eq_false (by omega)]
      have hg : ¬ good l r = true := fun h => c ((good_iff l r).1 h m (by omega))
      rw [if_neg hg] at hv
      refine Ev.step (fun k => ?_) hv
      simp (disch := omega) only [pomaderef09_rotations.l1, w64]
      rw [if_neg (by decide : ¬ false = true)]
      split <;> rfl
theorem ev_rl0 (l : List Int) (hl : l.length ≤ 1000) (hb : ∀ x ∈ l, -1000000 ≤ x ∧ x ≤ 1000000) (d : Nat) : ∀ r, r + d = l.length → Ev (fun k => pomaderef09_rotations.l0 k l (goodsI l r) r) (goodsI l l.length) := by
  induction d with
  | zero =>
    intro r hr
    obtain rfl : r = l.length := by omega
    refine Ev.step (f := fun _ => some (goodsI l l.length)) (fun k => ?_) (Ev.now _)
    simp (disch := omega) only [pomaderef09_rotations.l0, if_neg]
  | succ d ih =>
    intro r hr
    have h1 := ih (r + 1) (by omega)
    rw [goodsI_succ] at h1
    have h2 := ev_rl1 l hl hb r (by omega) (goodsI l r) _ h1 (by have := goodsI_length l r; omega) l.length 0 (by omega) (fun j hj => by omega)
    rw [Nat.add_zero, Int.sub_self] at h2
    refine Ev.step (fun k => ?_) h2
    simp (disch := omega) only [pomaderef09_rotations.l0, if_pos]
    rfl
theorem ev_refrot (l : List Int) (h : amountsE l = 0) : Ev (fun k => pomaderef09_rotations.f k l) (goodsI l l.length) := by
  have := ev_rl0 l (by have := (amounts_ok h).1; omega) (amounts_ok h).2 l.length 0 (by omega)
  exact this
theorem ev_refRotations (l : List Int) (hl : l.length ≤ 1000) : Ev (fun k => pomaderef09_Rotations.f k l) (if amountsE l = 0 then (goodsI l l.length, 0) else ([], amountsE l)) := by
  obtain ⟨K1, h1⟩ := ev_Amounts l hl
  by_cases h : amountsE l = 0
  · obtain ⟨K2, h2⟩ := ev_refrot l h
    refine ⟨max K1 K2, fun k hk => ?_⟩
    have h1' := h1 k (by omega)
    have h2' := h2 k (by omega)
    dsimp only at h1' h2' ⊢
    unfold pomaderef09_Rotations.f
    rw [h1', if_pos h]
    simp only [Option.bind_some]
    rw [if_pos h, h2']; rfl
  · refine ⟨K1, fun k hk => ?_⟩
    have h1' := h1 k (by omega)
    dsimp only at h1' ⊢
    unfold pomaderef09_Rotations.f
    rw [h1', if_neg h]
    simp only [Option.bind_some]
    rw [if_neg h]
theorem ev_total_l (l : List Int) (hl : l.length ≤ 1000) (hb : ∀ x ∈ l, -1000000 ≤ x ∧ x ≤ 1000000) (d : Nat) : ∀ (i : Nat) (s : Int), i + d = l.length → -1000000 * (i : Int) ≤ s → s ≤ 1000000 * (i : Int) → Ev (fun k => pomaderef09_total.l0 k l s i) (s + (l.drop i).sum) := by
  induction d with
  | zero =>
    intro i s hi _ _
    rw [List.drop_of_length_le (by omega)]
    refine Ev.step (f := fun _ => some s) (fun k => ?_) (by simpa using Ev.now s)
    simp (disch := omega) only [pomaderef09_total.l0, if_neg]
  | succ d ih =>
    intro i s hi h1 h2
    have hlt : i < l.length := by omega
    have hx := hb _ (rd_mem hlt)
    have := ih (i + 1) (s + rd l i) (by omega) (by omega) (by omega)
    rw [drop_rd hlt, List.sum_cons, ← Int.add_assoc]
    refine Ev.step (fun k => ?_) this
    simp (disch := omega) only [pomaderef09_total.l0, if_pos, w64]
    rfl
theorem ev_total (l : List Int) (h : amountsE l = 0) : Ev (fun k => pomaderef09_total.f k l) l.sum := by
  have := ev_total_l l (by have := (amounts_ok h).1; omega) (amounts_ok h).2 l.length 0 0 (by omega) (by omega) (by omega)
  simpa [pomaderef09_total.f] using this
theorem scan_get (l : List Int) : ∀ (s : Int) (i : Nat), i < l.length → (scan s l)[i]? = some (s + (l.take (i + 1)).sum) := by
  induction l with
  | nil => intro s i hi; simp at hi
  | cons x t ih =>
    intro s i hi
    cases i with
    | zero => simp [scan]
    | succ i =>
      rw [scan, List.getElem?_cons_succ, ih (s + x) i (by simpa using hi), List.take_succ_cons, List.sum_cons]
      congr 1; omega
theorem bal_last (l : List Int) : rd (0 :: scan 0 l) (l.length : Int) = l.sum := by
  cases hl : l.length with
  | zero => obtain rfl := List.eq_nil_of_length_eq_zero hl; simp [rd]
  | succ n =>
    have := scan_get l 0 n (by omega)
    rw [← hl, List.take_length] at this
    simp [rd, List.getD_eq_getElem?_getD, this]
def raneyR (l : List Int) : Int × Int := if amountsE l = 0 then (if l.sum = 1 then (rd (goodsI l l.length) 0, 0) else (0, 10)) else (0, amountsE l)
theorem goodsI_one (l : List Int) (h : l.sum = 1) : ∃ r : Nat, goodsI l l.length = [(r : Int)] := by
  obtain ⟨r, hr, _⟩ := raney l h
  exact ⟨r, by simp [goodsI, hr]⟩
theorem ev_Raney (l : List Int) (hl : l.length ≤ 1000) : Ev (fun k => till_Raney.f k l) (raneyR l) := by
  obtain ⟨K1, h1⟩ := ev_Rotations l hl
  unfold raneyR
  by_cases h : amountsE l = 0
  · obtain ⟨K2, h2⟩ := ev_balances l hl (amounts_ok h).2
    refine ⟨max K1 K2, fun k hk => ?_⟩
    have h1' := h1 k (by omega)
    have h2' := h2 k (by omega)
    dsimp only at h1' h2' ⊢
    unfold till_Raney.f
    rw [h1', if_pos h, if_pos h]
    simp only [Option.bind_some, if_true, h2', bal_last, List.length_cons, scan_length]
    rw [if_pos (by omega), if_pos (by omega)]
    by_cases hs : l.sum = 1
    · obtain ⟨r, hr⟩ := goodsI_one l hs
      rw [if_pos hs, if_pos hs, hr]; rfl
    · rw [if_neg hs, if_neg hs]
  · refine ⟨K1, fun k hk => ?_⟩
    have h1' := h1 k (by omega)
    dsimp only at h1' ⊢
    unfold till_Raney.f
    rw [h1', if_neg h, if_neg h]
    simp only [Option.bind_some]
    rw [if_neg h]
theorem ev_refRaney (l : List Int) (hl : l.length ≤ 1000) : Ev (fun k => pomaderef09_Raney.f k l) (raneyR l) := by
  obtain ⟨K1, h1⟩ := ev_Amounts l hl
  unfold raneyR
  by_cases h : amountsE l = 0
  · obtain ⟨K2, h2⟩ := ev_refrot l h
    obtain ⟨K3, h3⟩ := ev_total l h
    refine ⟨max K1 (max K2 K3), fun k hk => ?_⟩
    have h1' := h1 k (by omega)
    have h2' := h2 k (by omega)
    have h3' := h3 k (by omega)
    dsimp only at h1' h2' h3' ⊢
    unfold pomaderef09_Raney.f
    rw [h1', if_pos h]
    simp only [Option.bind_some]
    rw [if_pos h, h2', h3']
    simp only [Option.bind_some]
    by_cases hs : l.sum = 1
    · obtain ⟨r, hr⟩ := goodsI_one l hs
      rw [if_pos hs, if_pos hs, hr]; rfl
    · rw [if_neg hs, if_neg hs]
  · refine ⟨K1, fun k hk => ?_⟩
    have h1' := h1 k (by omega)
    dsimp only at h1' ⊢
    unfold pomaderef09_Raney.f
    rw [h1', if_neg h]
    simp only [Option.bind_some]
    rw [if_neg h]
theorem ev_same_l (a b : List Int) (hlen : a.length = b.length) (hl : a.length ≤ 1000000) (d : Nat) : ∀ i : Nat, i + d = a.length → Ev (fun k => pomadelaw09_same.l0 k a b i) (decide (a.drop i = b.drop i)) := by
  induction d with
  | zero =>
    intro i hi
    rw [List.drop_of_length_le (by omega), List.drop_of_length_le (by omega)]
    refine Ev.step (f := fun _ => some true) (fun k => ?_) (Ev.now _)
    simp (disch := omega) only [pomadelaw09_same.l0, if_neg]
  | succ d ih =>
    intro i hi
    rw [drop_rd (l := a) (by omega), drop_rd (l := b) (by omega)]
    by_cases c : rd a (i : Int) = rd b (i : Int)
    · refine Ev.step (fun k => ?_) (by have := ih (i + 1) (by omega); simpa [c] using this)
      simp (disch := omega) only [pomadelaw09_same.l0, if_pos, w64]
      first | done | rw [if_pos c]
    · refine Ev.step (f := fun _ => some false) (fun k => ?_) (by simpa [c] using Ev.now false)
      simp (disch := omega) only [pomadelaw09_same.l0, if_pos]
      rw [if_neg c]
theorem ev_same (a b : List Int) (hl : a.length ≤ 1000000) : Ev (fun k => pomadelaw09_same.f k a b) (decide (a = b)) := by
  by_cases h : a.length = b.length
  · have := ev_same_l a b h hl a.length 0 (by omega)
    rw [List.drop_zero, List.drop_zero] at this
    refine Ev.congr (fun k => ?_) this
    unfold pomadelaw09_same.f
    rw [if_pos (by omega)]; rfl
  · rw [decide_eq_false (fun e => h (by rw [e]))]
    refine Ev.congr (fun k => ?_) (Ev.now false)
    unfold pomadelaw09_same.f
    rw [if_neg (by omega)]
theorem alive_true : Ev (fun k => pomadelaw09_alive.f k) true := by
  refine Ev.of pomadelaw09_alive.mono (k := 60) ?_
  decide +kernel

end Go.Proofs.YtnjimbgfafkogaaDoor.Pure
