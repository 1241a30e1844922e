/- What the printed functions of walks come to. -/
import Derived.Test.YtnjimbgfafkogaaDoorEvA
import Derived.Test.YtnjimbgfafkogaaDoorMathE
namespace Go.Proofs.YtnjimbgfafkogaaDoor.Pure
open Go.RowKit Go.Proofs.YtnjimbgfafkogaaDoor.Hand Go.Proofs.YtnjimbgfafkogaaDoor.Pre Go.Proofs.YtnjimbgfafkogaaDoor.Bal Go.Proofs.YtnjimbgfafkogaaDoor.Base Go.Proofs.YtnjimbgfafkogaaDoor.Print Go.Proofs.YtnjimbgfafkogaaDoor.Math Go.Proofs.YtnjimbgfafkogaaDoorW.PrintWords Go.Proofs.YtnjimbgfafkogaaDoorW.PrintLast Go.Proofs.YtnjimbgfafkogaaDoorW.PrintMore
set_option linter.unusedVariables false
set_option linter.unusedSimpArgs false

/-- The byte of a step. -/
def sb (c : Bool) : UInt8 := if c then 43 else 45
def si (c : Bool) : Int := if c then 43 else 45
def ofS (P : List Bool) : ByteArray := ⟨(P.map sb).toArray⟩
def steps (s : ByteArray) : List Bool := s.data.toList.map (· == 43)
theorem sb_toNat (c : Bool) : ((sb c).toNat : Int) = si c := by cases c <;> rfl
theorem ofS_size (P : List Bool) : (ofS P).size = P.length := by
  show (P.map sb).toArray.size = _
  simp
theorem ofS_list (P : List Bool) : (ofS P).data.toList = P.map sb := by simp [ofS]
theorem ofS_inj {P Q : List Bool} (h : ofS P = ofS Q) : P = Q := by
  have h1 : P.map sb = Q.map sb := by rw [← ofS_list, ← ofS_list, h]
  exact (List.map_inj_right (fun a b hab => by cases a <;> cases b <;> first | rfl | (exact absurd hab (by decide)))).1 h1
theorem steps_length (s : ByteArray) : (steps s).length = s.size := by simp [steps]
theorem steps_of (s : ByteArray) (h : Hand.signs s = true) : s = ofS (steps s) := by
  obtain ⟨⟨l⟩⟩ := s
  unfold Hand.signs at h
  simp only [List.all_eq_true] at h
  unfold ofS steps
  congr 2
  simp only [List.map_map]
  symm
  conv => rhs; rw [← List.map_id l]
  refine List.map_congr_left fun x hx => ?_
  have hxx := h x hx
  simp only [List.contains_cons, List.contains_nil, Bool.or_false, Bool.or_eq_true, beq_iff_eq] at hxx
  rcases hxx with rfl | rfl <;> rfl
theorem steps_ofS (P : List Bool) : steps (ofS P) = P := by
  unfold steps
  rw [ofS_list, List.map_map]
  conv => rhs; rw [← List.map_id P]
  refine List.map_congr_left fun x hx => by cases x <;> rfl
theorem signs_ofS (P : List Bool) : Hand.signs (ofS P) = true := by
  unfold Hand.signs
  rw [ofS_list, List.all_eq_true]
  intro x hx
  obtain ⟨c, _, rfl⟩ := List.mem_map.1 hx
  cases c <;> rfl
theorem bytesOf_ofS (P : List Bool) : bytesOf (ofS P) = P.map si := by
  unfold bytesOf
  rw [ofS_list, List.map_map]
  exact List.map_congr_left fun c _ => sb_toNat c
theorem bt_ofS (P : List Bool) (i : Nat) (h : i < P.length) : bt (ofS P) (i : Int) = si P[i] := by
  rw [← rd_bytesOf, bytesOf_ofS, rd_get (by simpa using h)]; simp
theorem extract_ofS (P : List Bool) (i j : Nat) : (ofS P).extract i j = ofS ((P.take j).drop i) := by
  have : ((ofS P).extract i j).data = (ofS ((P.take j).drop i)).data := by
    rw [ByteArray.data_extract]
    show (P.map sb).toArray.extract i j = _
    simp [ofS, List.extract_toArray, List.extract_eq_take_drop, List.map_drop, List.map_take, List.drop_take]
  exact ByteArray.ext this
theorem append_ofS (P Q : List Bool) : ofS P ++ ofS Q = ofS (P ++ Q) := by
  have : (ofS P ++ ofS Q).data = (ofS (P ++ Q)).data := by
    rw [ByteArray.data_append]; simp [ofS]
  exact ByteArray.ext this
theorem empty_ofS : (⟨#[]⟩ : ByteArray) = ofS [] := rfl
theorem str_ofS (P : List Bool) : strOfNums (P.map si) = ofS P := by
  unfold strOfNums ofS
  rw [List.map_map]
  congr 2
  exact List.map_congr_left fun c _ => by cases c <;> rfl
def walkE (s : ByteArray) : Int := if s.size > 60 then 3 else if Hand.signs s = true then 0 else 5
theorem walked_eq (s : ByteArray) : till_walked.f s = some (walkE s) := by
  unfold till_walked.f walkE
  by_cases c : s.size > 60
  · rw [if_pos (by omega), if_pos c]
  · rw [if_neg (by omega), if_neg c]
    split <;> rfl
theorem walk_ok {s : ByteArray} (h : walkE s = 0) : s.size ≤ 60 ∧ Hand.signs s = true := by
  unfold walkE at h
  split at h
  · cases h
  · split at h
    · exact ⟨by omega, by assumption⟩
    · cases h
theorem walk_ofS {P : List Bool} (h : P.length ≤ 60) : walkE (ofS P) = 0 := by
  unfold walkE
  rw [ofS_size, if_neg (by omega), if_pos (signs_ofS P)]
/-- The balances of a walk. -/
def bals (P : List Bool) : List Int := 0 :: scan 0 (P.map st)
theorem bals_length (P : List Bool) : (bals P).length = P.length + 1 := by simp [bals, scan_length]
theorem ev_bsums (P : List Bool) (hl : P.length ≤ 1000) (d : Nat) : ∀ (i : Nat) (out : List Int) (s : Int), i + d = P.length → out.length = i → -(i : Int) ≤ s → s ≤ (i : Int) →
    Ev (fun k => till_sums_byte.l0 k (out ++ [s]) (P.map si) (P.length : Int) i) (out ++ s :: scan s ((P.drop i).map st)) := by
  induction d with
  | zero =>
    intro i out s hi ho _ _
    rw [List.drop_of_length_le (by omega)]
    refine Ev.step (f := fun _ => some (out ++ [s])) (fun k => ?_) (Ev.now _)
    simp (disch := omega) only [till_sums_byte.l0, if_neg]
  | succ d ih =>
    intro i out s hi ho h1 h2
    have hlt : i < P.length := by omega
    have hml : (P.map si).length = P.length := by simp
    have hr : rd (P.map si) (i : Int) = si P[i] := by rw [rd_get (by omega)]; simp
    have hst : till_step.f (si P[i]) = some (st P[i]) := by cases P[i] <;> rfl
    have hsb : -1 ≤ st P[i] ∧ st P[i] ≤ 1 := by cases P[i] <;> simp [st]
    have := ih (i + 1) (out ++ [s]) (s + st P[i]) (by omega) (by simp [ho]) (by omega) (by omega)
    rw [List.drop_eq_getElem_cons hlt, List.map_cons, scan]
    simp only [List.append_assoc, List.singleton_append] at this
    refine Ev.step (fun k => ?_) this
    have hlen2 : (out ++ [s]).length = i + 1 := by simp [ho]
    have hrd : rd (out ++ [s]) (i : Int) = s := rd_last ho
    simp (disch := omega) only [till_sums_byte.l0, hml, hr, hst, hlen2, Int.natCast_add, Int.natCast_one, Int.add_sub_cancel, if_pos, Option.bind_some, hrd, w64]
    simp
theorem ev_path (P : List Bool) (hl : P.length ≤ 1000) : Ev (fun k => till_path.f k (ofS P)) (bals P) := by
  have h1 := ev_bsums P hl P.length 0 [] 0 (by omega) rfl (by omega) (by omega)
  refine Ev.congr (fun k => ?_) h1
  unfold till_path.f till_sums_byte.f
  rw [if_pos (by rw [ofS_size]; omega), bytesOf_ofS, List.length_map]; rfl
/-- The first place of a number, from i on. -/
def fi (x : Int) : Nat → List Int → Int
  | _, [] => -1
  | i, y :: t => if x = y then i else fi x (i + 1) t
theorem ev_Index_l (l : List Int) (x : Int) (hl : l.length ≤ 1000) (d : Nat) : ∀ i : Nat, i + d = l.length → Ev (fun k => slices_Index_int_int.l0 k l x (l.length : Int) i) (fi x i (l.drop i)) := by
  induction d with
  | zero =>
    intro i hi
    rw [List.drop_of_length_le (by omega)]
    refine Ev.step (f := fun _ => some (-1)) (fun k => ?_) (Ev.now _)
    simp (disch := omega) only [slices_Index_int_int.l0, if_neg]
  | succ d ih =>
    intro i hi
    have hlt : i < l.length := by omega
    rw [drop_rd hlt, fi]
    by_cases c : x = rd l (i : Int)
    · rw [if_pos c]
      refine Ev.step (f := fun _ => some (i : Int)) (fun k => ?_) (Ev.now _)
      simp (disch := omega) only [slices_Index_int_int.l0, if_pos]
    · rw [if_neg c]
      refine Ev.step (fun k => ?_) (ih (i + 1) (by omega))
      simp (disch := omega) only [slices_Index_int_int.l0, if_pos, w64]
      rw [if_neg c]; rfl
theorem ev_Index (l : List Int) (x : Int) (hl : l.length ≤ 1000) : Ev (fun k => slices_Index_int_int.f k l x) (fi x 0 l) := by
  have := ev_Index_l l x hl l.length 0 (by omega)
  exact this
theorem fi_range (x : Int) : ∀ (l : List Int) (i : Nat), fi x i l = -1 ∨ ∃ j, j < l.length ∧ fi x i l = ((i + j : Nat) : Int) ∧ l[j]? = some x ∧ ∀ q, q < j → l[q]? ≠ some x
  | [], i => .inl rfl
  | y :: t, i => by
    rw [fi]
    by_cases c : x = y
    · rw [if_pos c]; right
      exact ⟨0, by simp, rfl, by simp [c], fun q hq => by omega⟩
    · rw [if_neg c]
      rcases fi_range x t (i + 1) with h | ⟨j, hj, he, hx, hq⟩
      · exact .inl h
      · right
        refine ⟨j + 1, by simp; omega, by rw [he]; congr 1; omega, by simpa using hx, fun q hq2 => ?_⟩
        cases q with
        | zero => simpa using fun h => c h.symm
        | succ q => simpa using hq q (by omega)
theorem fi_first (x : Int) : ∀ (l : List Int) (i j : Nat), l[j]? = some x → (∀ q, q < j → l[q]? ≠ some x) → fi x i l = ((i + j : Nat) : Int)
  | [], i, j, h, _ => by simp at h
  | y :: t, i, j, h, hq => by
    rw [fi]
    cases j with
    | zero =>
      have : y = x := by simpa using h
      rw [if_pos this.symm]; rfl
    | succ j =>
      have h0 := hq 0 (by omega)
      have : ¬ x = y := fun e => h0 (by simp [e])
      rw [if_neg this, fi_first x t (i + 1) j (by simpa using h) (fun q hq2 => by simpa using hq (q + 1) (by omega))]
      congr 1; omega
/-- The steps from a place on turned. -/
def flipAt (P : List Bool) (i : Nat) : List Bool := P.take i ++ (P.drop i).map (!·)
theorem flipAt_length (P : List Bool) (i : Nat) : (flipAt P i).length = P.length := by
  unfold flipAt
  rw [List.length_append, List.length_map, List.length_take, List.length_drop]; omega
theorem mirr_flip (P : List Bool) (d : Nat) : ∀ i, i + d = P.length → ∀ Q : List Bool, Q.length = i → mirr ((Q ++ P.drop i).map si) i d = (Q ++ (P.drop i).map (!·)).map si := by
  induction d with
  | zero =>
    intro i hi Q hQ
    rw [List.drop_of_length_le (by omega)]; rfl
  | succ d ih =>
    intro i hi Q hQ
    have hlt : i < P.length := by omega
    have := ih (i + 1) (by omega) (Q ++ [!P[i]]) (by simp [hQ])
    rw [List.drop_eq_getElem_cons hlt, mirr]
    have hset : ((Q ++ P[i] :: P.drop (i + 1)).map si).set i (IntKind.u8.wrap (88 - ((Q ++ P[i] :: P.drop (i + 1)).map si).getD i 0)) = ((Q ++ [!P[i]]) ++ P.drop (i + 1)).map si := by
      subst hQ
      have hg : ((Q ++ P[Q.length] :: P.drop (Q.length + 1)).map si).getD Q.length 0 = si P[Q.length] := by
        rw [List.getD_eq_getElem?_getD, List.map_append, List.map_cons, List.getElem?_append_right (by simp)]; simp
      rw [hg]
      have hw : IntKind.u8.wrap (88 - si P[Q.length]) = si (!P[Q.length]) := by cases P[Q.length] <;> decide
      rw [hw, List.map_append, List.map_cons, List.set_append_right _ _ (by simp)]
      simp
    rw [hset, this, List.append_assoc]; rfl
def mirR (s : ByteArray) (level : Int) : ByteArray × Int :=
  if walkE s = 0 then (if fi level 0 (bals (steps s)) < 0 then (⟨#[]⟩, 10) else (ofS (flipAt (steps s) (fi level 0 (bals (steps s))).toNat), 0)) else (⟨#[]⟩, walkE s)
theorem ev_Mirror (s : ByteArray) (level : Int) : Ev (fun k => till_Mirror.f k s level) (mirR s level) := by
  unfold mirR
  by_cases h : walkE s = 0
  · rw [if_pos h]
    obtain ⟨hs, hg⟩ := walk_ok h
    have hP := steps_of s hg
    have hl := steps_length s
    obtain ⟨P, hPd⟩ : ∃ P, steps s = P := ⟨_, rfl⟩
    rw [hPd] at hP hl ⊢
    subst hP
    obtain ⟨K1, h1⟩ := ev_path P (by omega)
    obtain ⟨K2, h2⟩ := ev_Index (bals P) level (by rw [bals_length]; omega)
    refine ⟨max K1 K2, fun k hk => ?_⟩
    have h1' := h1 k (by omega)
    have h2' := h2 k (by omega)
    dsimp only at h1' h2' ⊢
    unfold till_Mirror.f
    rw [walked_eq, h, Option.bind_some, if_pos rfl, h1', Option.bind_some, h2', Option.bind_some]
    rcases fi_range level (bals P) 0 with he | ⟨j, hj, he, _⟩
    · rw [he, if_pos (by omega), if_pos (by omega)]
    · rw [bals_length] at hj
      rw [he, if_neg (by omega), if_pos (by rw [ofS_size]; omega), if_neg (by omega), ofS_size, bytesOf_ofS, Nat.zero_add, Int.toNat_natCast]
      have := mirr_flip P (P.length - j) j (by omega) (P.take j) (by rw [List.length_take]; omega)
      rw [List.take_append_drop] at this
      rw [this, str_ofS]; rfl
  · rw [if_neg h]
    refine Ev.congr (fun k => ?_) (Ev.now _)
    unfold till_Mirror.f
    rw [walked_eq, Option.bind_some, if_neg h]
theorem scan_append (a : List Int) : ∀ (b : List Int) (s : Int), scan s (a ++ b) = scan s a ++ scan (s + a.sum) b := by
  induction a with
  | nil => intro b s; simp [scan]
  | cons x t ih => intro b s; simp [scan, ih, Int.add_assoc]
theorem bals_get (P : List Bool) (i : Nat) (h : i ≤ P.length) : (bals P)[i]? = some ((P.take i).map st).sum := by
  unfold bals
  cases i with
  | zero => simp
  | succ i =>
    rw [List.getElem?_cons_succ, scan_get _ _ _ (by simp; omega), ← List.map_take, Int.zero_add]
theorem bals_flip_le (P : List Bool) (i q : Nat) (hi : i ≤ P.length) (hq : q ≤ i) : (bals (flipAt P i))[q]? = (bals P)[q]? := by
  rw [bals_get _ _ (by rw [flipAt_length]; omega), bals_get _ _ (by omega)]
  congr 2
  unfold flipAt
  rw [List.take_append_of_le_length (by rw [List.length_take]; omega), List.take_take, Nat.min_eq_left hq]
theorem flip_flip (P : List Bool) (i : Nat) (hi : i ≤ P.length) : flipAt (flipAt P i) i = P := by
  unfold flipAt
  have h1 : (P.take i).length = i := by rw [List.length_take]; omega
  rw [List.take_append_of_le_length (by omega), List.drop_append_of_le_length (by omega), List.take_of_length_le (by omega), List.drop_of_length_le (by omega), List.nil_append, List.map_map]
  have : ((fun x : Bool => !x) ∘ fun x => !x) = id := by funext x; simp
  rw [this, List.map_id, List.take_append_drop]
theorem flip_sum (Q : List Bool) : ((Q.map (!·)).map st).sum = -(Q.map st).sum := by
  induction Q with
  | nil => rfl
  | cons c t ih =>
    simp only [List.map_cons, List.sum_cons, ih]
    cases c <;> simp [st] <;> omega
theorem empty_toList : (⟨#[]⟩ : ByteArray).toList = [] := by
  unfold ByteArray.toList ByteArray.toList.loop
  rfl

end Go.Proofs.YtnjimbgfafkogaaDoor.Pure
