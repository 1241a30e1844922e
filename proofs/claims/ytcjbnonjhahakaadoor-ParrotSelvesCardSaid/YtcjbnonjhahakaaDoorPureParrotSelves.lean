/- Selves of the program returns what that of the reference returns, for all numbers: no condition. -/
import Derived.Test.YtcjbnonjhahakaaDoorEvD
import Derived.Test.YtcjbnonjhahakaaDoorFis1
namespace Go.Proofs.YtcjbnonjhahakaaDoor.Pure
open Go.RowKit Go.Proofs.YtcjbnonjhahakaaDoor.Hand Go.Proofs.YtcjbnonjhahakaaDoor.Print Go.Proofs.YtcjbnonjhahakaaDoor.Math Go.Proofs.YtcjbnonjhahakaaDoorW.PrintWords Go.Proofs.YtcjbnonjhahakaaDoorW.PrintLast Go.Proofs.YtcjbnonjhahakaaDoorW.PrintMore
set_option linter.unusedVariables false
set_option linter.unusedSimpArgs false

open Go.Proofs.YtcjbnonjhahakaaDoor.Fis
theorem alive_b : (pomadelaw08_alive.f.bind fun t => some t) = some true := by rw [alive_true]; rfl
theorem Selves_small (a0 : Int) (R : List ByteArray × Int) (h : parrot_Selves.f a0 = some R) : R.1.length ≤ 1000000 := by
  unfold parrot_Selves.f at h
  by_cases c : a0 < 1 ∨ a0 > 6
  · rw [if_pos c] at h
    obtain rfl := Option.some.inj h
    simp
  · rw [if_neg c] at h
    obtain rfl := Option.some.inj h
    have h1 := selL_le a0.toNat []
    have h2 : 9 ^ a0.toNat ≤ 9 ^ 6 := Nat.pow_le_pow_right (by decide) (by omega)
    rw [List.length_map]
    omega
theorem ParrotSelves : pomadelaw08_ParrotSelves.Pure := by
  intro a0 w0
  refine Ev.rounds ?_
  obtain ⟨R, hR⟩ : ∃ R, parrot_Selves.f a0 = some R := by unfold parrot_Selves.f; split <;> exact ⟨_, rfl⟩
  have hT : Ev (fun k => pomadelaw08_ParrotSelves.j0 k a0 true) true :=
    Ev.step (f := fun _ => some true) (fun k => by simp only [pomadelaw08_ParrotSelves.j0, if_true]; exact alive_b) (Ev.now _)
  have hF : Ev (fun k => pomadelaw08_ParrotSelves.j0 k a0 false) true := by
    have he : Ev (fun k => (pomaderef08_Selves.f k a0).bind fun q => (pomadelaw08_texts.f k R.1 q.1).bind fun t => if t = true then (if R.2 = q.2 then some true else some false) else some false) true :=
      Ev.bind (ev_RSelves a0 R hR) (Ev.bind (ev_texts R.1 (Selves_small a0 R hR)) (by simp only [if_true]; exact Ev.now _))
    refine Ev.step (fun k => ?_) he
    simp only [pomadelaw08_ParrotSelves.j0]
    rw [if_neg (by decide), hR, Option.bind_some]
    simp only [alive_b]
  unfold pomadelaw08_ParrotSelves.f
  by_cases c : a0 > 5
  · simp only [if_pos c]
    by_cases c2 : a0 ≤ 6
    · rw [decide_eq_true c2]; exact hT
    · rw [decide_eq_false c2]; exact hF
  · simp only [if_neg c]; exact hF

end Go.Proofs.YtcjbnonjhahakaaDoor.Pure
