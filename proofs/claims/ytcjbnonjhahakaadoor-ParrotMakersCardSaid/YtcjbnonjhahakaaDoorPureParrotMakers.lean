/- Makers and Shortest, the program's and the reference's, return the same: for all words and numbers: no condition. -/
import Derived.Test.YtcjbnonjhahakaaDoorHandK
import Derived.Test.YtcjbnonjhahakaaDoorFit1
namespace Go.Proofs.YtcjbnonjhahakaaDoor.Pure
open Go.RowKit Go.Proofs.YtcjbnonjhahakaaDoor.Hand Go.Proofs.YtcjbnonjhahakaaDoor.Print Go.Proofs.YtcjbnonjhahakaaDoor.Math Go.Proofs.YtcjbnonjhahakaaDoorW.PrintWords Go.Proofs.YtcjbnonjhahakaaDoorW.PrintLast Go.Proofs.YtcjbnonjhahakaaDoorW.PrintMore
set_option linter.unusedVariables false
set_option linter.unusedSimpArgs false

open Go.Proofs.YtcjbnonjhahakaaDoor.Fir
theorem Make_is (s : ByteArray) : parrot_Make.f s = some (B (make (L s)).1, (make (L s)).2) := by
  unfold parrot_Make.f parrot_word.f make
  rw [Option.bind_some]
  by_cases h : wordE (L s) = 0
  · have hw := wordE_ok.1 h
    have hl := hw.1
    rw [L_length] at hl
    rw [if_pos h, if_neg (show ¬ (wordE (L s) ≠ 0) from fun hh => hh h)]
    unfold parrot_made.f
    rw [if_pos ⟨hw.2.1, by omega⟩, Option.bind_some]
  · rw [if_neg h, if_pos h]; rfl
theorem alive_true : pomadelaw08_alive.f = some true := by decide +kernel
theorem alive_b : (pomadelaw08_alive.f.bind fun t => some t) = some true := by rw [alive_true]; rfl
theorem Short_is (s : ByteArray) : parrot_Shortest.f s = some (shortS s) := by
  unfold parrot_Shortest.f parrot_Makers.f shortS
  by_cases c : wordE (L s) = 0
  · rw [if_neg (show ¬ wordE (L s) ≠ 0 by simpa using c), if_neg (by omega), if_neg (show ¬ wordE (L s) ≠ 0 by simpa using c), Option.bind_some]
    dsimp only
    rw [if_pos rfl, show (8 : Int).toNat = 8 from rfl]
    cases sortW (mkL 8 (L s)) with
    | nil => rw [if_pos (by rfl)]
    | cons x t => rw [if_neg (by simp; omega), if_pos (by simp)]; rfl
  · rw [if_pos c, if_pos c, Option.bind_some]
    dsimp only
    rw [if_neg c]
open Go.Proofs.YtcjbnonjhahakaaDoor.Fir Go.Proofs.YtcjbnonjhahakaaDoor.Fit
theorem ev_texts_l (l : List ByteArray) (hl : l.length ≤ 1000000) (j : Nat) : ∀ i, i + j = l.length → Ev (fun k => pomadelaw08_texts.l0 k l l (i : Int)) true := by
  induction j with
  | zero =>
    intro i hi
    refine Ev.step (f := fun _ => some true) (fun k => ?_) (Ev.now _)
    simp only [pomadelaw08_texts.l0]
    rw [if_neg (by omega)]
  | succ j ih =>
    intro i hi
    have hup : wrap64 ((i : Int) + 1) = ((i + 1 : Nat) : Int) := by rw [w64 (by omega)]; omega
    refine Ev.step (fun k => ?_) (ih (i + 1) (by omega))
    simp only [pomadelaw08_texts.l0]
    rw [if_pos (by omega), if_pos (by omega), if_pos (by omega), if_pos trivial, hup]
theorem ev_texts (l : List ByteArray) (hl : l.length ≤ 1000000) : Ev (fun k => pomadelaw08_texts.f k l l) true := by
  refine Ev.congr (fun k => ?_) (ev_texts_l l hl l.length 0 (by omega))
  unfold pomadelaw08_texts.f
  rw [if_pos rfl]; rfl
theorem Makers_len (a0 : ByteArray) (a1 : Int) (h : a1 ≤ 5 ∨ a1 > 8) : ∃ R : List ByteArray × Int, parrot_Makers.f a0 a1 = some R ∧ R.1.length ≤ 1000000 := by
  unfold parrot_Makers.f
  by_cases c : wordE (L a0) = 0
  · rw [if_neg (show ¬ wordE (L a0) ≠ 0 by simpa using c)]
    by_cases c8 : a1 < 1 ∨ a1 > 8
    · rw [if_pos c8]; exact ⟨_, rfl, by simp⟩
    · rw [if_neg c8]
      refine ⟨_, rfl, ?_⟩
      have h1 := mkL_many a1.toNat (L a0)
      have h2 : 14 ^ a1.toNat ≤ 14 ^ 5 := Nat.pow_le_pow_right (by decide) (by omega)
      have h3 := (sortW_perm (mkL a1.toNat (L a0))).length_eq
      rw [List.length_map]
      omega
  · rw [if_pos c]; exact ⟨_, rfl, by simp⟩
theorem ParrotMakers : pomadelaw08_ParrotMakers.Pure := by
  intro a0 a1 w0 w1
  refine Ev.rounds ?_
  have hend : Ev (fun k => pomadelaw08_ParrotMakers.j2 k a0 true) true := Ev.step (f := fun _ => some true) (fun k => by simp only [pomadelaw08_ParrotMakers.j2, if_true]; exact alive_b) (Ev.now _)
  have hS : Ev (fun k => pomadelaw08_ParrotMakers.j2 k a0 false) true := by
    refine Ev.step (f := fun _ => some true) (fun k => ?_) (Ev.now _)
    simp only [pomadelaw08_ParrotMakers.j2]
    rw [if_neg (by decide), Short_is, show pomaderef08_Shortest.f a0 = some (shortS a0) from rfl, Option.bind_some, Option.bind_some, if_pos rfl, if_pos rfl]
    exact alive_b
  have h2 : ∀ b, Ev (fun k => pomadelaw08_ParrotMakers.j2 k a0 b) true := fun b => by cases b <;> assumption
  have h1 : Ev (fun k => pomadelaw08_ParrotMakers.j1 k a0) true := by
    have : Ev (fun k => (pomaderef08_IsWord.f k a0).bind fun t113 => (if t113 = 0 then (pomadelaw08_ParrotMakers.j2 k a0 (decide ((a0.size : Int) ≤ 3))) else (pomadelaw08_ParrotMakers.j2 k a0 false))) true := by
      refine Ev.bind (ev_IsWord a0) ?_
      by_cases c : wordE (L a0) = 0
      · simp only [if_pos c]; exact h2 _
      · simp only [if_neg c]; exact h2 _
    refine Ev.step (fun k => ?_) this
    simp only [pomadelaw08_ParrotMakers.j1]
  have h0F : Ev (fun k => pomadelaw08_ParrotMakers.j0 k a0 a1 false) true := Ev.step (fun k => by simp only [pomadelaw08_ParrotMakers.j0]; rw [if_neg (by decide)]) h1
  have h0T : (a1 ≤ 5 ∨ a1 > 8) → Ev (fun k => pomadelaw08_ParrotMakers.j0 k a0 a1 true) true := fun h => by
    obtain ⟨R, hR, hl⟩ := Makers_len a0 a1 h
    have he : Ev (fun k => (pomadelaw08_texts.f k R.1 R.1).bind fun t112 => if t112 = true then pomadelaw08_ParrotMakers.j1 k a0 else some false) true := by
      refine Ev.bind (ev_texts R.1 hl) ?_
      simp only [if_true]
      exact h1
    refine Ev.step (fun k => ?_) he
    simp only [pomadelaw08_ParrotMakers.j0]
    rw [if_pos trivial, show pomaderef08_Makers.f a0 a1 = parrot_Makers.f a0 a1 from rfl, hR, Option.bind_some, Option.bind_some]
    simp only [eq_self, if_true]
  unfold pomadelaw08_ParrotMakers.f
  by_cases c : (a0.size : Int) > 300
  · simp only [if_pos c]
    exact Ev.congr (f := fun _ => some true) (fun k => alive_b) (Ev.now _)
  · simp only [if_neg c]
    by_cases c5 : a1 ≤ 5
    · simp only [if_pos c5]; exact h0T (.inl c5)
    · simp only [if_neg c5]
      by_cases c8 : a1 > 8
      · simp only [decide_eq_true c8]; exact h0T (.inr c8)
      · simp only [decide_eq_false c8]; exact h0F

end Go.Proofs.YtcjbnonjhahakaaDoor.Pure
