/- What the printed functions of balanced walks come to. -/
import Derived.Test.YtnjimbgfafkogaaDoorEvF0
import Derived.Test.YtnjimbgfafkogaaDoorHandF
import Derived.Test.YtnjimbgfafkogaaDoorPrint13
import Derived.Test.YtnjimbgfafkogaaDoorPrint14
import Derived.Test.YtnjimbgfafkogaaDoorPrint15
namespace Go.Proofs.YtnjimbgfafkogaaDoor.Pure
open Go.RowKit Go.Proofs.YtnjimbgfafkogaaDoor.Hand Go.Proofs.YtnjimbgfafkogaaDoor.Pre Go.Proofs.YtnjimbgfafkogaaDoor.Bal Go.Proofs.YtnjimbgfafkogaaDoor.Base Go.Proofs.YtnjimbgfafkogaaDoor.Print Go.Proofs.YtnjimbgfafkogaaDoor.Math Go.Proofs.YtnjimbgfafkogaaDoorW.PrintWords Go.Proofs.YtnjimbgfafkogaaDoorW.PrintLast Go.Proofs.YtnjimbgfafkogaaDoorW.PrintMore
set_option linter.unusedVariables false
set_option linter.unusedSimpArgs false

theorem abvFrom_eq (P : List Bool) (d : Nat) : ∀ (i : Nat) (m : Int), i + d = P.length → abvFrom (bals P) i d m = m + (abv (fin 0 (P.take i)) (P.drop i) : Int) := by
  induction d with
  | zero => intro i m hi; rw [List.drop_of_length_le (by omega)]; simp [abvFrom, abv]
  | succ d ih =>
    intro i m hi
    have hlt : i < P.length := by omega
    have h1 := rd_bals P (i + 1) (by omega)
    rw [Int.natCast_succ] at h1
    rw [abvFrom, ih (i + 1) _ (by omega), rd_bals P i (by omega), h1, fin_take P i hlt, List.drop_eq_getElem_cons hlt, abv]
    split <;> omega
def aboveR (s : ByteArray) : Int × Int := if balE s = 0 then ((abv 0 (steps s) : Int), 0) else (0, balE s)
theorem ev_tAbove (s : ByteArray) : Ev (fun k => till_Above.f k s) (aboveR s) := by
  obtain ⟨K0, h0⟩ := ev_balanced s
  unfold aboveR
  by_cases h : balE s = 0
  · obtain ⟨hP, hs, hg, hf⟩ := bal_ok h
    have hl := steps_length s
    rw [if_pos h]
    obtain ⟨P, hPd⟩ : ∃ P, steps s = P := ⟨_, rfl⟩
    rw [hPd] at hP hl hf ⊢
    subst hP
    obtain ⟨K1, h1⟩ := ev_path P (by omega)
    refine ⟨max K0 K1, fun k hk => ?_⟩
    have h0' := h0 k (by omega)
    have h1' := h1 k (by omega)
    dsimp only at h0' h1' ⊢
    unfold till_Above.f
    rw [h0', h, Option.bind_some, if_pos rfl, h1', Option.bind_some, if_pos ⟨by rw [bals_length, ofS_size], hg, hs⟩, ofS_size, abvFrom_eq P P.length 0 0 (by omega)]
    simp [fin]
  · rw [if_neg h]
    refine ⟨K0, fun k hk => ?_⟩
    have h0' := h0 k hk
    dsimp only at h0' ⊢
    unfold till_Above.f
    rw [h0', Option.bind_some, if_neg h]
theorem ev_refAbove_l (P : List Bool) (hl : P.length ≤ 60) (d : Nat) : ∀ (i : Nat) (m : Int), i + d = P.length → 0 ≤ m → m ≤ i → Ev (fun k => pomaderef09_Above.l0 k (ofS P) (bals P) m i) (m + (abv (fin 0 (P.take i)) (P.drop i) : Int), 0) := by
  induction d with
  | zero =>
    intro i m hi _ _
    rw [List.drop_of_length_le (by omega)]
    refine Ev.step (f := fun _ => some (m, 0)) (fun k => ?_) (by simpa [abv] using Ev.now (m, (0 : Int)))
    have hsz := ofS_size P
    simp (disch := omega) only [pomaderef09_Above.l0, if_neg]
  | succ d ih =>
    intro i m hi m0 m1
    have hlt : i < P.length := by omega
    have hsz := ofS_size P
    have hbl := bals_length P
    have r0 := rd_bals P i (by omega)
    have r1 := rd_bals P (i + 1) (by omega)
    have ft := fin_take P i hlt
    rw [List.drop_eq_getElem_cons hlt, abv, ← ft]
    by_cases c : fin 0 (P.take i) > 0 ∨ fin 0 (P.take (i + 1)) > 0
    · have := ih (i + 1) (m + 1) (by omega) (by omega) (by omega)
      rw [if_pos c]
      rw [show m + 1 + (abv (fin 0 (P.take (i + 1))) (P.drop (i + 1)) : Int) = m + ((1 + abv (fin 0 (P.take (i + 1))) (P.drop (i + 1)) : Nat) : Int) by omega] at this
      refine Ev.step (fun k => ?_) this
      simp only [pomaderef09_Above.l0]
      rw [wsucc (i := i) (by omega), r0, r1, hsz, hbl]
      rw [if_pos (by omega), if_pos (by omega), if_pos (by omega), w64 (n := m + 1) (by omega)]
      by_cases c0 : fin 0 (P.take i) > 0
      · rw [if_pos c0]
      · rw [if_neg c0, if_pos (by omega), if_pos (by omega), if_pos (by omega)]
    · have := ih (i + 1) m (by omega) (by omega) (by omega)
      rw [if_neg c, Nat.zero_add]
      refine Ev.step (fun k => ?_) this
      simp only [pomaderef09_Above.l0]
      rw [wsucc (i := i) (by omega), r0, r1, hsz, hbl]
      rw [if_pos (by omega), if_pos (by omega), if_pos (by omega), if_neg (by omega), if_pos (by omega), if_pos (by omega), if_neg (by omega)]
theorem ev_refAbove (s : ByteArray) : Ev (fun k => pomaderef09_Above.f k s) (aboveR s) := by
  obtain ⟨K0, h0⟩ := ev_refBalanced s
  unfold aboveR
  by_cases h : balE s = 0
  · obtain ⟨hP, hs, hg, hf⟩ := bal_ok h
    have hl := steps_length s
    rw [if_pos h]
    obtain ⟨P, hPd⟩ : ∃ P, steps s = P := ⟨_, rfl⟩
    rw [hPd] at hP hl hf ⊢
    subst hP
    obtain ⟨K1, h1⟩ := ev_refbal P (by omega)
    obtain ⟨K2, h2⟩ := ev_refAbove_l P (by omega) P.length 0 0 (by omega) (by omega) (by omega)
    refine ⟨max K0 (max K1 K2), fun k hk => ?_⟩
    have h0' := h0 k (by omega)
    have h1' := h1 k (by omega)
    have h2' := h2 k (by omega)
    dsimp only at h0' h1' h2' ⊢
    unfold pomaderef09_Above.f
    rw [h0', h, Option.bind_some, if_pos rfl, h1', Option.bind_some, show pomaderef09_Above.l0 k (ofS P) (bals P) 0 0 = _ from h2']
    simp [fin]
  · rw [if_neg h]
    refine ⟨K0, fun k hk => ?_⟩
    have h0' := h0 k hk
    dsimp only at h0' ⊢
    unfold pomaderef09_Above.f
    rw [h0', Option.bind_some, if_neg h]
/-- Is there a step up from level m at place i? -/
def upAt (m : Int) (P : List Bool) (i : Nat) : Prop := fin 0 (P.take i) = m ∧ fin 0 (P.take (i + 1)) = m + 1
instance (m : Int) (P : List Bool) (i : Nat) : Decidable (upAt m P i) := by unfold upAt; infer_instance
/-- The first such place from i on, d places; -1: none. -/
def firstUp (m : Int) (P : List Bool) : Nat → Nat → Int
  | _, 0 => -1
  | i, d + 1 => if upAt m P i then (i : Int) else firstUp m P (i + 1) d
/-- The last such place below i; -1: none. -/
def lastUp (m : Int) (P : List Bool) : Nat → Int
  | 0 => -1
  | i + 1 => if upAt m P i then (i : Int) else lastUp m P i
def exch (P : List Bool) (i : Nat) : List Bool := P.drop (i + 1) ++ ((P.take (i + 1)).drop i ++ P.take i)
def exR (P : List Bool) (at_ : Int) : ByteArray × Int := if at_ < 0 then (⟨#[]⟩, 10) else (ofS (exch P at_.toNat), 0)
theorem exch_length (P : List Bool) (i : Nat) (h : i < P.length) : (exch P i).length = P.length := by
  unfold exch
  simp only [List.length_append, List.length_drop, List.length_take]; omega
theorem exchanged_eq (P : List Bool) (hl : P.length ≤ 60) (at_ : Int) (h : at_ < P.length) : till_exchanged.f (ofS P) at_ = some (exR P at_) := by
  unfold till_exchanged.f exR
  by_cases h0 : at_ < 0
  · rw [if_pos h0, if_pos h0]
  · obtain ⟨i, rfl⟩ : ∃ i : Nat, at_ = (i : Int) := ⟨at_.toNat, by omega⟩
    have l1 : (P.drop (i + 1)).length = P.length - (i + 1) := List.length_drop
    have l2 : ((P.take (i + 1)).drop i).length = 1 := by rw [List.length_drop, List.length_take]; omega
    have l3 : (P.take i).length = i := by rw [List.length_take]; omega
    rw [if_neg h0, if_neg h0, wsucc (i := i) (by omega)]
    simp only [Int.toNat_natCast, extract_ofS, ofS_size, List.take_length, append_ofS, List.drop_zero, List.length_append, l1, l2, l3]
    rw [if_pos (by omega), if_pos (by omega), if_pos (by omega), if_pos (by omega), if_pos (by omega), if_pos (by omega), if_pos (by omega)]
    unfold exch
    rw [List.append_assoc]
theorem around_eq (P : List Bool) (hl : P.length ≤ 60) (i : Nat) (h : i < P.length) : pomaderef09_around.f (ofS P) i = some (ofS (exch P i)) := by
  unfold pomaderef09_around.f
  have l1 : (P.drop (i + 1)).length = P.length - (i + 1) := List.length_drop
  have l2 : ((P.take (i + 1)).drop i).length = 1 := by rw [List.length_drop, List.length_take]; omega
  have l3 : (P.take i).length = i := by rw [List.length_take]; omega
  rw [wsucc (i := i) (by omega)]
  simp only [Int.toNat_natCast, extract_ofS, ofS_size, List.take_length, append_ofS, List.drop_zero, List.length_append, l1, l2, l3]
  rw [if_pos (by omega), if_pos (by omega), if_pos (by omega), if_pos (by omega), if_pos (by omega), if_pos (by omega), if_pos (by omega)]
  unfold exch
  rw [List.append_assoc]
theorem firstUp_lt (m : Int) (P : List Bool) : ∀ (d i : Nat), i + d = P.length → firstUp m P i d < P.length
  | 0, i, h => by rw [firstUp]; omega
  | d + 1, i, h => by
    rw [firstUp]
    split
    · omega
    · exact firstUp_lt m P d (i + 1) (by omega)
theorem lastUp_lt (m : Int) (P : List Bool) : ∀ (i : Nat), lastUp m P i < i
  | 0 => by rw [lastUp]; omega
  | i + 1 => by
    rw [lastUp]
    split
    · omega
    · have := lastUp_lt m P i; omega
theorem lessFrom_eq (P : List Bool) (d : Nat) : ∀ i, i + d = P.length → ∀ r, lessFrom (bals P) i d (lastUp 0 P i) = r → lastUp 0 P P.length = r := by
  induction d with
  | zero =>
    intro i hi r h
    obtain rfl : i = P.length := by omega
    exact h
  | succ d ih =>
    intro i hi r h
    have h1 := rd_bals P (i + 1) (by omega)
    rw [Int.natCast_succ] at h1
    rw [lessFrom, rd_bals P i (by omega), h1] at h
    refine ih (i + 1) (by omega) r ?_
    rw [lastUp]
    by_cases c : upAt 0 P i
    · rw [if_pos c]
      rw [if_pos ⟨c.1, by have := c.2; omega⟩] at h
      exact h
    · rw [if_neg c]
      rw [if_neg (fun g => c ⟨g.1, by omega⟩)] at h
      exact h
theorem ev_tMore_l (P : List Bool) (hl : P.length ≤ 60) : ∀ i : Nat, i ≤ P.length → Ev (fun k => till_More.l0 k (ofS P) (bals P) (firstUp (-1) P i (P.length - i)) ((i : Int) - 1)) (exR P (firstUp (-1) P 0 P.length))
  | 0, _ => by
    rw [Nat.sub_zero]
    refine Ev.step (f := fun _ => some (exR P (firstUp (-1) P 0 P.length))) (fun k => ?_) (Ev.now _)
    simp only [till_More.l0]
    rw [if_neg (by omega), exchanged_eq P hl _ (firstUp_lt _ P _ 0 (by omega))]; rfl
  | i + 1, hi => by
    have := ev_tMore_l P hl i (by omega)
    have hbl := bals_length P
    have r0 := rd_bals P i (by omega)
    have r1 := rd_bals P (i + 1) (by omega)
    have e0 : ((i + 1 : Nat) : Int) - 1 = (i : Int) := by omega
    rw [show P.length - i = (P.length - (i + 1)) + 1 by omega, firstUp] at this
    refine Ev.step (fun k => ?_) this
    rw [e0]
    simp only [till_More.l0]
    rw [wsucc (i := i) (by omega), w64 (n := (i : Int) - 1) (by omega), r0, r1, hbl]
    clear e0
    rw [if_pos (by omega), if_pos (by omega), if_pos (by omega)]
    by_cases c0 : fin 0 (P.take i) = -1
    · rw [if_pos c0, if_pos (by omega), if_pos (by omega)]
      by_cases c1 : fin 0 (P.take (i + 1)) = 0
      · rw [if_pos c1, if_pos (show upAt (-1) P i from ⟨c0, by omega⟩)]
      · rw [if_neg c1, if_neg (fun h : upAt (-1) P i => c1 (by have := h.2; omega))]
    · rw [if_neg c0, if_neg (fun h : upAt (-1) P i => c0 h.1)]
def moreR (s : ByteArray) : ByteArray × Int := if balE s = 0 then exR (steps s) (firstUp (-1) (steps s) 0 (steps s).length) else (⟨#[]⟩, balE s)
def lessR (s : ByteArray) : ByteArray × Int := if balE s = 0 then exR (steps s) (lastUp 0 (steps s) (steps s).length) else (⟨#[]⟩, balE s)
theorem ev_tMore (s : ByteArray) : Ev (fun k => till_More.f k s) (moreR s) := by
  obtain ⟨K0, h0⟩ := ev_balanced s
  unfold moreR
  by_cases h : balE s = 0
  · obtain ⟨hP, hs, hg, hf⟩ := bal_ok h
    have hl := steps_length s
    rw [if_pos h]
    obtain ⟨P, hPd⟩ : ∃ P, steps s = P := ⟨_, rfl⟩
    rw [hPd] at hP hl hf ⊢
    subst hP
    obtain ⟨K1, h1⟩ := ev_path P (by omega)
    obtain ⟨K2, h2⟩ := ev_tMore_l P (by omega) P.length (Nat.le_refl _)
    rw [Nat.sub_self] at h2
    refine ⟨max K0 (max K1 K2), fun k hk => ?_⟩
    have h0' := h0 k (by omega)
    have h1' := h1 k (by omega)
    have h2' := h2 k (by omega)
    dsimp only [firstUp] at h0' h1' h2' ⊢
    unfold till_More.f
    rw [h0', h, Option.bind_some, if_pos rfl, h1', Option.bind_some, ofS_size, w64 (by omega), h2']
  · rw [if_neg h]
    refine ⟨K0, fun k hk => ?_⟩
    have h0' := h0 k hk
    dsimp only at h0' ⊢
    unfold till_More.f
    rw [h0', Option.bind_some, if_neg h]
theorem ev_tLess (s : ByteArray) : Ev (fun k => till_Less.f k s) (lessR s) := by
  obtain ⟨K0, h0⟩ := ev_balanced s
  unfold lessR
  by_cases h : balE s = 0
  · obtain ⟨hP, hs, hg, hf⟩ := bal_ok h
    have hl := steps_length s
    rw [if_pos h]
    obtain ⟨P, hPd⟩ : ∃ P, steps s = P := ⟨_, rfl⟩
    rw [hPd] at hP hl hf ⊢
    subst hP
    obtain ⟨K1, h1⟩ := ev_path P (by omega)
    refine ⟨max K0 K1, fun k hk => ?_⟩
    have h0' := h0 k (by omega)
    have h1' := h1 k (by omega)
    have hle := lessFrom_eq P P.length 0 (by omega) _ rfl
    rw [lastUp] at hle
    dsimp only at h0' h1' ⊢
    unfold till_Less.f
    rw [h0', h, Option.bind_some, if_pos rfl, h1', Option.bind_some, if_pos ⟨by rw [bals_length, ofS_size], hg, hs⟩, ofS_size, ← hle, exchanged_eq P (by omega) _ (lastUp_lt 0 P P.length)]
  · rw [if_neg h]
    refine ⟨K0, fun k hk => ?_⟩
    have h0' := h0 k hk
    dsimp only at h0' ⊢
    unfold till_Less.f
    rw [h0', Option.bind_some, if_neg h]
theorem ev_rMore_l (P : List Bool) (hl : P.length ≤ 60) (d : Nat) : ∀ i : Nat, i + d = P.length → Ev (fun k => pomaderef09_More.l0 k (ofS P) (bals P) i) (exR P (firstUp (-1) P i d)) := by
  induction d with
  | zero =>
    intro i hi
    have hsz := ofS_size P
    rw [firstUp]
    refine Ev.step (f := fun _ => some ((⟨#[]⟩ : ByteArray), (10 : Int))) (fun k => ?_) (Ev.now _)
    simp (disch := omega) only [pomaderef09_More.l0, if_neg]
  | succ d ih =>
    intro i hi
    have hlt : i < P.length := by omega
    have hsz := ofS_size P
    have hbl := bals_length P
    have r0 := rd_bals P i (by omega)
    have r1 := rd_bals P (i + 1) (by omega)
    have step : ∀ k, pomaderef09_More.l0 (k + 1) (ofS P) (bals P) i = if upAt (-1) P i then some (ofS (exch P i), 0) else pomaderef09_More.l0 k (ofS P) (bals P) ((i + 1 : Nat) : Int) := fun k => by
      simp only [pomaderef09_More.l0]
      rw [wsucc (i := i) (by omega), r0, r1, hbl, hsz, around_eq P hl i hlt]
      rw [if_pos (by omega), if_pos (by omega), if_pos (by omega)]
      by_cases c0 : fin 0 (P.take i) = -1
      · rw [if_pos c0, if_pos (by omega), if_pos (by omega)]
        by_cases c1 : fin 0 (P.take (i + 1)) = 0
        · rw [if_pos c1, if_pos (show upAt (-1) P i from ⟨c0, by omega⟩)]; rfl
        · rw [if_neg c1, if_neg (fun h : upAt (-1) P i => c1 (by have := h.2; omega))]
      · rw [if_neg c0, if_neg (fun h : upAt (-1) P i => c0 h.1)]
    rw [firstUp]
    by_cases c : upAt (-1) P i
    · rw [if_pos c]
      refine Ev.step (f := fun _ => some (ofS (exch P i), (0 : Int))) (fun k => by rw [step, if_pos c]) ?_
      unfold exR
      rw [if_neg (by omega), Int.toNat_natCast]; exact Ev.now _
    · rw [if_neg c]
      exact Ev.step (fun k => by rw [step, if_neg c]) (ih (i + 1) (by omega))
theorem ev_rLess_l (P : List Bool) (hl : P.length ≤ 60) : ∀ i : Nat, i ≤ P.length → Ev (fun k => pomaderef09_Less.l0 k (ofS P) (bals P) ((i : Int) - 1)) (exR P (lastUp 0 P i))
  | 0, _ => by
    rw [lastUp]
    refine Ev.step (f := fun _ => some ((⟨#[]⟩ : ByteArray), (10 : Int))) (fun k => ?_) (Ev.now _)
    simp (disch := omega) only [pomaderef09_Less.l0, if_neg]
  | i + 1, hi => by
    have hlt : i < P.length := by omega
    have hbl := bals_length P
    have r0 := rd_bals P i (by omega)
    have r1 := rd_bals P (i + 1) (by omega)
    have e0 : ((i + 1 : Nat) : Int) - 1 = (i : Int) := by omega
    have step : ∀ k, pomaderef09_Less.l0 (k + 1) (ofS P) (bals P) (((i + 1 : Nat) : Int) - 1) = if upAt 0 P i then some (ofS (exch P i), 0) else pomaderef09_Less.l0 k (ofS P) (bals P) ((i : Int) - 1) := fun k => by
      rw [e0]
      simp only [pomaderef09_Less.l0]
      rw [wsucc (i := i) (by omega), w64 (n := (i : Int) - 1) (by omega), r0, r1, hbl, around_eq P hl i hlt]
      clear e0
      rw [if_pos (by omega), if_pos (by omega), if_pos (by omega)]
      by_cases c0 : fin 0 (P.take i) = 0
      · rw [if_pos c0, if_pos (by omega), if_pos (by omega)]
        by_cases c1 : fin 0 (P.take (i + 1)) = 1
        · rw [if_pos c1, if_pos (show upAt 0 P i from ⟨c0, by omega⟩)]; rfl
        · rw [if_neg c1, if_neg (fun h : upAt 0 P i => c1 (by have := h.2; omega))]
      · rw [if_neg c0, if_neg (fun h : upAt 0 P i => c0 h.1)]
    rw [lastUp]
    by_cases c : upAt 0 P i
    · rw [if_pos c]
      refine Ev.step (f := fun _ => some (ofS (exch P i), (0 : Int))) (fun k => by rw [step, if_pos c]) ?_
      unfold exR
      rw [if_neg (by omega), Int.toNat_natCast]; exact Ev.now _
    · rw [if_neg c]
      exact Ev.step (fun k => by rw [step, if_neg c]) (ev_rLess_l P hl i (by omega))
theorem ev_rMore (s : ByteArray) : Ev (fun k => pomaderef09_More.f k s) (moreR s) := by
  obtain ⟨K0, h0⟩ := ev_refBalanced s
  unfold moreR
  by_cases h : balE s = 0
  · obtain ⟨hP, hs, hg, hf⟩ := bal_ok h
    have hl := steps_length s
    rw [if_pos h]
    obtain ⟨P, hPd⟩ : ∃ P, steps s = P := ⟨_, rfl⟩
    rw [hPd] at hP hl hf ⊢
    subst hP
    obtain ⟨K1, h1⟩ := ev_refbal P (by omega)
    obtain ⟨K2, h2⟩ := ev_rMore_l P (by omega) P.length 0 (by omega)
    refine ⟨max K0 (max K1 K2), fun k hk => ?_⟩
    have h0' := h0 k (by omega)
    have h1' := h1 k (by omega)
    have h2' := h2 k (by omega)
    dsimp only at h0' h1' h2' ⊢
    unfold pomaderef09_More.f
    rw [h0', h, Option.bind_some, if_pos rfl, h1', Option.bind_some]
    exact h2'
  · rw [if_neg h]
    refine ⟨K0, fun k hk => ?_⟩
    have h0' := h0 k hk
    dsimp only at h0' ⊢
    unfold pomaderef09_More.f
    rw [h0', Option.bind_some, if_neg h]
theorem ev_rLess (s : ByteArray) : Ev (fun k => pomaderef09_Less.f k s) (lessR s) := by
  obtain ⟨K0, h0⟩ := ev_refBalanced s
  unfold lessR
  by_cases h : balE s = 0
  · obtain ⟨hP, hs, hg, hf⟩ := bal_ok h
    have hl := steps_length s
    rw [if_pos h]
    obtain ⟨P, hPd⟩ : ∃ P, steps s = P := ⟨_, rfl⟩
    rw [hPd] at hP hl hf ⊢
    subst hP
    obtain ⟨K1, h1⟩ := ev_refbal P (by omega)
    obtain ⟨K2, h2⟩ := ev_rLess_l P (by omega) P.length (Nat.le_refl _)
    refine ⟨max K0 (max K1 K2), fun k hk => ?_⟩
    have h0' := h0 k (by omega)
    have h1' := h1 k (by omega)
    have h2' := h2 k (by omega)
    dsimp only at h0' h1' h2' ⊢
    unfold pomaderef09_Less.f
    rw [h0', h, Option.bind_some, if_pos rfl, h1', Option.bind_some, ofS_size, w64 (by omega)]
    exact h2'
  · rw [if_neg h]
    refine ⟨K0, fun k hk => ?_⟩
    have h0' := h0 k hk
    dsimp only at h0' ⊢
    unfold pomaderef09_Less.f
    rw [h0', Option.bind_some, if_neg h]

end Go.Proofs.YtnjimbgfafkogaaDoor.Pure
