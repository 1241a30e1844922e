/- The word that Self returns makes what the operations make of it; Self of none is 323: for all strings: no condition. -/
import Derived.Test.YtcjbnonjhahakaaDoorEvB
import Derived.Test.YtcjbnonjhahakaaDoorPrint12
namespace Go.Proofs.YtcjbnonjhahakaaDoor.Pure
open Go.RowKit Go.Proofs.YtcjbnonjhahakaaDoor.Hand Go.Proofs.YtcjbnonjhahakaaDoor.Print Go.Proofs.YtcjbnonjhahakaaDoor.Math Go.Proofs.YtcjbnonjhahakaaDoorW.PrintWords Go.Proofs.YtcjbnonjhahakaaDoorW.PrintLast Go.Proofs.YtcjbnonjhahakaaDoorW.PrintMore
set_option linter.unusedVariables false
set_option linter.unusedSimpArgs false

theorem alive_b : (pomadelaw08_alive.f.bind fun t => some t) = some true := by rw [alive_true]; rfl
theorem self_none : parrot_Self.f (⟨#[]⟩ : ByteArray) = some (⟨#[51, 50, 51]⟩, 0) := by decide +kernel
theorem make_none : parrot_Make.f (⟨#[51, 50, 51]⟩ : ByteArray) = some (⟨#[51, 50, 51]⟩, 0) := by decide +kernel
theorem self_cases (o : List UInt8) : self o = ([], opsE o) ∧ opsE o ≠ 0 ∨ (opsE o = 0 ∧ (o ++ [51, 50] ++ o ++ [51]).length > 200 ∧ self o = ([], 8)) ∨ (opsE o = 0 ∧ ¬ (o ++ [51, 50] ++ o ++ [51]).length > 200 ∧ self o = (o ++ [51, 50] ++ o ++ [51], 0)) := by
  unfold self bounded
  by_cases h : opsE o = 0
  · rw [if_neg (show ¬ (opsE o ≠ 0) from fun hh => hh h)]
    by_cases h2 : (o ++ [51, 50] ++ o ++ [51]).length > 200
    · rw [if_pos h2]; exact .inr (.inl ⟨h, h2, rfl⟩)
    · rw [if_neg h2]; exact .inr (.inr ⟨h, h2, rfl⟩)
  · rw [if_pos h]; exact .inl ⟨rfl, h⟩
theorem ParrotSmullyan : pomadelaw08_ParrotSmullyan.Pure := by
  intro a0 w0
  refine Ev.rounds ?_
  have h0 : Ev (fun k => pomadelaw08_ParrotSmullyan.j0 k a0 false) true := by
    refine Ev.step (f := fun _ => some true) (fun k => ?_) (Ev.now _)
    simp only [pomadelaw08_ParrotSmullyan.j0]
    rw [if_neg (by decide), Self_is, Option.bind_some]
    rcases self_cases (L a0) with ⟨e, h⟩ | ⟨h, h2, e⟩ | ⟨h, h2, e⟩
    · rw [e, if_neg h, toL, L_B, if_pos rfl, alive_b]
    · rw [e, if_neg (show ¬ ((8 : Int) = 0) by decide), toL, L_B, if_pos rfl, alive_b]
    · rw [e]
      dsimp only
      rw [if_pos rfl, Make_is, Option.bind_some, Apply_is, Option.bind_some, L_B, make_self h (by omega), if_pos rfl, if_pos rfl, alive_b]
  unfold pomadelaw08_ParrotSmullyan.f
  by_cases c1 : (a0.size : Int) > 300
  · simp only [if_pos c1]
    rw [alive_b]; exact Ev.now _
  · simp only [if_neg c1]
    have t323 : (⟨#[51, 50, 51]⟩ : ByteArray).toList = ([51, 50, 51] : List UInt8) := by rw [toL]; rfl
    rw [self_none, make_none]
    simp only [Option.bind_some, if_true, t323, bne_self_eq_false]
    exact h0

end Go.Proofs.YtcjbnonjhahakaaDoor.Pure
