/- Life and Grows of the program return what those of the reference return, for all strings: no condition. -/
import Derived.Test.YtcjbnonjhahakaaDoorEvC
import Derived.Test.YtcjbnonjhahakaaDoorPrint8
namespace Go.Proofs.YtcjbnonjhahakaaDoor.Pure
open Go.RowKit Go.Proofs.YtcjbnonjhahakaaDoor.Hand Go.Proofs.YtcjbnonjhahakaaDoor.Print Go.Proofs.YtcjbnonjhahakaaDoor.Math Go.Proofs.YtcjbnonjhahakaaDoorW.PrintWords Go.Proofs.YtcjbnonjhahakaaDoorW.PrintLast Go.Proofs.YtcjbnonjhahakaaDoorW.PrintMore
set_option linter.unusedVariables false
set_option linter.unusedSimpArgs false

theorem alive_b : (pomadelaw08_alive.f.bind fun t => some t) = some true := by rw [alive_true]; rfl
theorem ParrotLives : pomadelaw08_ParrotLives.Pure := by
  intro a0 a1 w0 w1
  refine Ev.rounds ?_
  have h1 : Ev (fun k => pomadelaw08_ParrotLives.j1 k a1 false) true := by
    have he : Ev (fun k => (pomaderef08_Grows.f k a1).bind fun q => if (grows (L a1)).1 = q.1 then (if (grows (L a1)).2 = q.2 then some true else some false) else some false) true :=
      Ev.bind (ev_RGrows a1) (by rw [if_pos rfl, if_pos rfl]; exact Ev.now _)
    refine Ev.step (fun k => ?_) he
    simp only [pomadelaw08_ParrotLives.j1]
    rw [if_neg (by decide)]
    unfold parrot_Grows.f
    rw [Option.bind_some]
    simp only [alive_b]
  have hT : Ev (fun k => pomadelaw08_ParrotLives.j0 k a0 a1 true) true :=
    Ev.step (f := fun _ => some true) (fun k => by simp only [pomadelaw08_ParrotLives.j0, if_true]; exact alive_b) (Ev.now _)
  have h0 : Ev (fun k => pomadelaw08_ParrotLives.j0 k a0 a1 false) true := by
    have he : Ev (fun k => (pomaderef08_Life.f k a0).bind fun q => if (life (L a0)).1 = q.1 then (if (life (L a0)).2.1 = q.2.1 then pomadelaw08_ParrotLives.j1 k a1 ((life (L a0)).2.2 != q.2.2) else pomadelaw08_ParrotLives.j1 k a1 true) else pomadelaw08_ParrotLives.j1 k a1 true) true :=
      Ev.bind (ev_RLife a0) (by simp only [if_true, bne_self_eq_false]; exact h1)
    refine Ev.step (fun k => ?_) he
    simp only [pomadelaw08_ParrotLives.j0]
    rw [if_neg (by decide)]
    unfold parrot_Life.f
    rw [Option.bind_some]
  unfold pomadelaw08_ParrotLives.f
  by_cases c1 : (a0.size : Int) > 300
  · simp only [if_pos c1]; exact hT
  · simp only [if_neg c1]
    by_cases c2 : (a1.size : Int) > 300
    · rw [decide_eq_true c2]; exact hT
    · rw [decide_eq_false c2]; exact h0

end Go.Proofs.YtcjbnonjhahakaaDoor.Pure
