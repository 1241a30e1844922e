/- Make and Apply of the program return what those of the reference return, for all strings: no condition. -/
import Derived.Test.YtcjbnonjhahakaaDoorEvB
import Derived.Test.YtcjbnonjhahakaaDoorPrint11
namespace Go.Proofs.YtcjbnonjhahakaaDoor.Pure
open Go.RowKit Go.Proofs.YtcjbnonjhahakaaDoor.Hand Go.Proofs.YtcjbnonjhahakaaDoor.Print Go.Proofs.YtcjbnonjhahakaaDoor.Math Go.Proofs.YtcjbnonjhahakaaDoorW.PrintWords Go.Proofs.YtcjbnonjhahakaaDoorW.PrintLast Go.Proofs.YtcjbnonjhahakaaDoorW.PrintMore
set_option linter.unusedVariables false
set_option linter.unusedSimpArgs false

theorem alive_b : (pomadelaw08_alive.f.bind fun t => some t) = some true := by rw [alive_true]; rfl
theorem ParrotMakes : pomadelaw08_ParrotMakes.Pure := by
  intro a0 a1 a2 w0 w1 w2
  refine Ev.rounds ?_
  have h1 : Ev (fun k => pomadelaw08_ParrotMakes.j1 k a1 a2 false) true := by
    have he : Ev (fun k => (pomaderef08_Apply.f k a1 a2).bind fun q => if (B (apply (L a1) (L a2)).1).toList = q.1.toList then (if (apply (L a1) (L a2)).2 = q.2 then some true else some false) else some false) true :=
      Ev.bind (ev_RApply a1 a2) (by rw [if_pos rfl, if_pos rfl]; exact Ev.now _)
    refine Ev.step (fun k => ?_) he
    simp only [pomadelaw08_ParrotMakes.j1]
    rw [if_neg (by decide), Apply_is, Option.bind_some]
    simp only [alive_b]
  have hT : Ev (fun k => pomadelaw08_ParrotMakes.j0 k a0 a1 a2 true) true :=
    Ev.step (f := fun _ => some true) (fun k => by simp only [pomadelaw08_ParrotMakes.j0, if_true]; exact alive_b) (Ev.now _)
  have h0 : Ev (fun k => pomadelaw08_ParrotMakes.j0 k a0 a1 a2 false) true := by
    have he : Ev (fun k => (pomaderef08_Make.f k a0).bind fun q => if (B (make (L a0)).1).toList = q.1.toList then pomadelaw08_ParrotMakes.j1 k a1 a2 ((make (L a0)).2 != q.2) else pomadelaw08_ParrotMakes.j1 k a1 a2 true) true :=
      Ev.bind (ev_Make a0) (by simp only [if_true, bne_self_eq_false]; exact h1)
    refine Ev.step (fun k => ?_) he
    simp only [pomadelaw08_ParrotMakes.j0]
    rw [if_neg (by decide), Make_is, Option.bind_some]
  unfold pomadelaw08_ParrotMakes.f
  by_cases c1 : (a0.size : Int) > 300
  · simp only [if_pos c1]; exact hT
  · simp only [if_neg c1]
    by_cases c2 : (a1.size : Int) > 300
    · simp only [if_pos c2]; exact hT
    · simp only [if_neg c2]
      by_cases c3 : (a2.size : Int) > 300
      · rw [decide_eq_true c3]; exact hT
      · rw [decide_eq_false c3]; exact h0

end Go.Proofs.YtcjbnonjhahakaaDoor.Pure
