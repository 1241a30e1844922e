/- What the printed functions that look at a walk come to. -/
import Derived.Test.YtnjimbgfafkogaaDoorEvE
import Derived.Test.YtnjimbgfafkogaaDoorPrint2
namespace Go.Proofs.YtnjimbgfafkogaaDoor.Pure
open Go.RowKit Go.Proofs.YtnjimbgfafkogaaDoor.Hand Go.Proofs.YtnjimbgfafkogaaDoor.Pre Go.Proofs.YtnjimbgfafkogaaDoor.Bal Go.Proofs.YtnjimbgfafkogaaDoor.Base Go.Proofs.YtnjimbgfafkogaaDoor.Print Go.Proofs.YtnjimbgfafkogaaDoor.Math Go.Proofs.YtnjimbgfafkogaaDoorW.PrintWords Go.Proofs.YtnjimbgfafkogaaDoorW.PrintLast Go.Proofs.YtnjimbgfafkogaaDoorW.PrintMore
set_option linter.unusedVariables false
set_option linter.unusedSimpArgs false

theorem fin_sum : ∀ (P : List Bool) (b : Int), fin b P = b + (P.map st).sum
  | [], b => by simp [fin]
  | c :: t, b => by rw [fin, fin_sum t, List.map_cons, List.sum_cons]; omega
theorem rd_bals (P : List Bool) (i : Nat) (h : i ≤ P.length) : rd (bals P) (i : Int) = fin 0 (P.take i) := by
  unfold rd
  rw [Int.toNat_natCast, List.getD_eq_getElem?_getD, bals_get P i h, fin_sum]; simp
theorem fin_take (P : List Bool) (i : Nat) (h : i < P.length) : fin 0 (P.take (i + 1)) = fin 0 (P.take i) + st P[i] := by
  rw [List.take_add_one, List.getElem?_eq_getElem h, fin_append]; rfl
theorem fin_range (P : List Bool) : ∀ b : Int, b - P.length ≤ fin b P ∧ fin b P ≤ b + P.length := by
  induction P with
  | nil => intro b; simp [fin]
  | cons c t ih =>
    intro b
    have := ih (b + st c)
    rw [fin, List.length_cons]
    rcases st_cases c with h | h <;> omega
def balE (s : ByteArray) : Int := if walkE s = 0 then (if fin 0 (steps s) = 0 then 0 else 2) else walkE s
theorem bal_ok {s : ByteArray} (h : balE s = 0) : s = ofS (steps s) ∧ s.size ≤ 60 ∧ Hand.signs s = true ∧ fin 0 (steps s) = 0 := by
  unfold balE at h
  split at h
  · rename_i hw
    obtain ⟨h1, h2⟩ := walk_ok hw
    split at h
    · exact ⟨steps_of s h2, h1, h2, by assumption⟩
    · cases h
  · exact absurd h (by assumption)
theorem bal_ofS {P : List Bool} (h : P.length ≤ 60) (hf : fin 0 P = 0) : balE (ofS P) = 0 := by
  unfold balE
  rw [if_pos (walk_ofS h), steps_ofS, if_pos hf]
theorem ev_balanced (s : ByteArray) : Ev (fun k => till_balanced.f k s) (balE s) := by
  unfold balE
  by_cases h : walkE s = 0
  · obtain ⟨hs, hg⟩ := walk_ok h
    have hP := steps_of s hg
    have hl := steps_length s
    rw [if_pos h]
    obtain ⟨P, hPd⟩ : ∃ P, steps s = P := ⟨_, rfl⟩
    rw [hPd] at hP hl ⊢
    subst hP
    obtain ⟨K1, h1⟩ := ev_path P (by omega)
    refine ⟨K1, fun k hk => ?_⟩
    have h1' := h1 k hk
    have hr := rd_bals P P.length (Nat.le_refl _)
    rw [List.take_length] at hr
    dsimp only at h1' ⊢
    unfold till_balanced.f
    rw [walked_eq, h, Option.bind_some, if_pos rfl, h1', Option.bind_some, ofS_size, bals_length, hr, if_pos (by omega), if_pos (by omega)]
    split <;> rfl
  · rw [if_neg h]
    refine Ev.congr (fun k => ?_) (Ev.now _)
    unfold till_balanced.f
    rw [walked_eq, Option.bind_some, if_neg h]
theorem ev_refWalk_l (s : ByteArray) (hs : s.size ≤ 60) (d : Nat) : ∀ i : Nat, i + d = s.size → Ev (fun k => pomaderef09_Walk.l0 k s i) (if ((bytesOf s).drop i).all (fun b => decide (b = 43 ∨ b = 45)) then 0 else 5) := by
  have hbl := bytesOf_length s
  induction d with
  | zero =>
    intro i hi
    rw [List.drop_of_length_le (by omega)]
    refine Ev.step (f := fun _ => some 0) (fun k => ?_) (Ev.now _)
    simp (disch := omega) only [pomaderef09_Walk.l0, if_neg]
  | succ d ih =>
    intro i hi
    have hlt : i < (bytesOf s).length := by omega
    rw [drop_rd hlt, rd_bytesOf, List.all_cons]
    have := ih (i + 1) (by omega)
    by_cases c1 : bt s (i : Int) = 43
    · rw [decide_eq_true (Or.inl c1), Bool.true_and]
      refine Ev.step (fun k => ?_) this
      simp (disch := omega) only [pomaderef09_Walk.l0, if_pos, w64]
      rfl
    · by_cases c2 : bt s (i : Int) = 45
      · rw [decide_eq_true (Or.inr c2), Bool.true_and]
        refine Ev.step (fun k => ?_) this
        simp (disch := omega) only [pomaderef09_Walk.l0, if_pos, w64]
        rw [if_neg c1]; rfl
      · rw [decide_eq_false (by omega), Bool.false_and]
        refine Ev.step (f := fun _ => some 5) (fun k => ?_) (Ev.now _)
        simp (disch := omega) only [pomaderef09_Walk.l0, if_pos, if_neg]
theorem signs_bytes (s : ByteArray) : ((bytesOf s).all fun b => decide (b = 43 ∨ b = 45)) = Hand.signs s := by
  unfold bytesOf Hand.signs
  rw [List.all_map]
  congr 1
  funext b
  simp only [Function.comp, List.contains_cons, List.contains_nil, Bool.or_false]
  rw [Bool.eq_iff_iff, decide_eq_true_iff, Bool.or_eq_true, beq_iff_eq, beq_iff_eq]
  constructor
  · rintro (h | h)
    · exact .inl (UInt8.toNat_inj.1 (by have : (43 : UInt8).toNat = 43 := rfl; omega))
    · exact .inr (UInt8.toNat_inj.1 (by have : (45 : UInt8).toNat = 45 := rfl; omega))
  · rintro (rfl | rfl)
    · exact .inl rfl
    · exact .inr rfl
theorem ev_refWalk (s : ByteArray) : Ev (fun k => pomaderef09_Walk.f k s) (walkE s) := by
  unfold walkE
  by_cases h : s.size > 60
  · rw [if_pos h]
    refine Ev.congr (fun k => ?_) (Ev.now _)
    unfold pomaderef09_Walk.f
    rw [if_pos (by omega)]
  · have := ev_refWalk_l s (by omega) s.size 0 (by omega)
    rw [List.drop_zero, signs_bytes] at this
    rw [if_neg h]
    refine Ev.congr (fun k => ?_) this
    unfold pomaderef09_Walk.f
    rw [if_neg (by omega)]; rfl
theorem ev_refbal_l (P : List Bool) (hl : P.length ≤ 60) (d : Nat) : ∀ (i : Nat) (out : List Int) (s : Int), i + d = P.length → out.length = i → -(i : Int) ≤ s → s ≤ (i : Int) →
    Ev (fun k => pomaderef09_balances.l0 k (ofS P) (out ++ [s]) i) (out ++ s :: scan s ((P.drop i).map st)) := by
  induction d with
  | zero =>
    intro i out s hi ho _ _
    have hsz := ofS_size P
    rw [List.drop_of_length_le (by omega)]
    refine Ev.step (f := fun _ => some (out ++ [s])) (fun k => ?_) (Ev.now _)
    simp (disch := omega) only [pomaderef09_balances.l0, if_neg]
  | succ d ih =>
    intro i out s hi ho h1 h2
    have hlt : i < P.length := by omega
    have hsb := st_cases P[i]
    have := ih (i + 1) (out ++ [s]) (s + st P[i]) (by omega) (by simp [ho]) (by omega) (by omega)
    rw [List.drop_eq_getElem_cons hlt, List.map_cons, scan]
    simp only [List.append_assoc, List.singleton_append] at this
    refine Ev.step (fun k => ?_) this
    have hlen2 : (out ++ [s]).length = i + 1 := by simp [ho]
    have hrd : rd (out ++ [s]) (i : Int) = s := rd_last ho
    simp only [pomaderef09_balances.l0]
    rw [ofS_size, bt_ofS P i hlt, hrd, hlen2, if_pos (by omega), if_pos (by omega), if_pos (by omega), w64 (n := s + 1) (by omega), w64 (n := s - 1) (by omega), w64 (by omega)]
    rcases hsb with ⟨c, v⟩ | ⟨c, v⟩
    · rw [c, if_pos (show si true = 43 from rfl), if_pos (by omega)]
      simp [st]
    · rw [c, if_neg (show ¬ si false = 43 by decide), if_pos (by omega)]
      simp [st, Int.sub_eq_add_neg]
theorem ev_refbal (P : List Bool) (hl : P.length ≤ 60) : Ev (fun k => pomaderef09_balances.f k (ofS P)) (bals P) := by
  have := ev_refbal_l P hl P.length 0 [] 0 (by omega) rfl (by omega) (by omega)
  exact this
theorem ev_refBalanced (s : ByteArray) : Ev (fun k => pomaderef09_Balanced.f k s) (balE s) := by
  obtain ⟨K0, h0⟩ := ev_refWalk s
  unfold balE
  by_cases h : walkE s = 0
  · obtain ⟨hs, hg⟩ := walk_ok h
    have hP := steps_of s hg
    have hl := steps_length s
    rw [if_pos h]
    obtain ⟨P, hPd⟩ : ∃ P, steps s = P := ⟨_, rfl⟩
    rw [hPd] at hP hl ⊢
    subst hP
    obtain ⟨K1, h1⟩ := ev_refbal P (by omega)
    refine ⟨max K0 K1, fun k hk => ?_⟩
    have h0' := h0 k (by omega)
    have h1' := h1 k (by omega)
    have hr := rd_bals P P.length (Nat.le_refl _)
    rw [List.take_length] at hr
    dsimp only at h0' h1' ⊢
    unfold pomaderef09_Balanced.f
    rw [h0', h, Option.bind_some, if_pos rfl, h1', Option.bind_some, ofS_size, bals_length, hr, if_pos (by omega), if_pos (by omega)]
    split <;> rfl
  · rw [if_neg h]
    refine ⟨K0, fun k hk => ?_⟩
    have h0' := h0 k hk
    dsimp only at h0' ⊢
    unfold pomaderef09_Balanced.f
    rw [h0', Option.bind_some, if_neg h]

end Go.Proofs.YtnjimbgfafkogaaDoor.Pure
