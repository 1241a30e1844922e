/- Self, After and Pair of the program return what those of the reference return, for all strings: no condition. -/
import Derived.Test.YtcjbnonjhahakaaDoorEvB
import Derived.Test.YtcjbnonjhahakaaDoorPrint15
namespace Go.Proofs.YtcjbnonjhahakaaDoor.Pure
open Go.RowKit Go.Proofs.YtcjbnonjhahakaaDoor.Hand Go.Proofs.YtcjbnonjhahakaaDoor.Print Go.Proofs.YtcjbnonjhahakaaDoor.Math Go.Proofs.YtcjbnonjhahakaaDoorW.PrintWords Go.Proofs.YtcjbnonjhahakaaDoorW.PrintLast Go.Proofs.YtcjbnonjhahakaaDoorW.PrintMore
set_option linter.unusedVariables false
set_option linter.unusedSimpArgs false

theorem alive_b : (pomadelaw08_alive.f.bind fun t => some t) = some true := by rw [alive_true]; rfl
theorem ParrotSelf : pomadelaw08_ParrotSelf.Pure := by
  intro a0 a1 a2 w0 w1 w2
  refine Ev.rounds ?_
  have h2 : a1.size ≤ 300 → a2.size ≤ 300 → Ev (fun k => pomadelaw08_ParrotSelf.j2 k a1 a2 false) true := by
    intro l1 l2
    have he : Ev (fun k => (parrot_Pair.f k a1 a2).bind fun p => (pomaderef08_Pair.f k a1 a2).bind fun q => if p.1.toList = q.1.toList then (if p.2.1.toList = q.2.1.toList then (if p.2.2 = q.2.2 then some true else some false) else some false) else some false) true :=
      Ev.bind (ev_Pair a1 a2 l1 l2) (Ev.bind (ev_RPair a1 a2 l1 l2) (by rw [if_pos rfl, if_pos rfl, if_pos rfl]; exact Ev.now _))
    refine Ev.step (fun k => ?_) he
    simp only [pomadelaw08_ParrotSelf.j2]
    rw [if_neg (by decide)]
    simp only [alive_b]
  have h1 : a1.size ≤ 300 → a2.size ≤ 300 → Ev (fun k => pomadelaw08_ParrotSelf.j1 k a1 a2 false) true := by
    intro l1 l2
    have he : Ev (fun k => (pomaderef08_After.f k a1).bind fun q => if (B (after (L a1)).1).toList = q.1.toList then pomadelaw08_ParrotSelf.j2 k a1 a2 ((after (L a1)).2 != q.2) else pomadelaw08_ParrotSelf.j2 k a1 a2 true) true :=
      Ev.bind (ev_RAfter a1) (by simp only [if_true, bne_self_eq_false]; exact h2 l1 l2)
    refine Ev.step (fun k => ?_) he
    simp only [pomadelaw08_ParrotSelf.j1]
    rw [if_neg (by decide), After_is, Option.bind_some]
  have hT : Ev (fun k => pomadelaw08_ParrotSelf.j0 k a0 a1 a2 true) true :=
    Ev.step (f := fun _ => some true) (fun k => by simp only [pomadelaw08_ParrotSelf.j0, if_true]; exact alive_b) (Ev.now _)
  have h0 : a1.size ≤ 300 → a2.size ≤ 300 → Ev (fun k => pomadelaw08_ParrotSelf.j0 k a0 a1 a2 false) true := by
    intro l1 l2
    have he : Ev (fun k => (pomaderef08_Self.f k a0).bind fun q => if (B (self (L a0)).1).toList = q.1.toList then pomadelaw08_ParrotSelf.j1 k a1 a2 ((self (L a0)).2 != q.2) else pomadelaw08_ParrotSelf.j1 k a1 a2 true) true :=
      Ev.bind (ev_RSelf a0) (by simp only [if_true, bne_self_eq_false]; exact h1 l1 l2)
    refine Ev.step (fun k => ?_) he
    simp only [pomadelaw08_ParrotSelf.j0]
    rw [if_neg (by decide), Self_is, Option.bind_some]
  unfold pomadelaw08_ParrotSelf.f
  by_cases c1 : (a0.size : Int) > 300
  · simp only [if_pos c1]; exact hT
  · simp only [if_neg c1]
    by_cases c2 : (a1.size : Int) > 300
    · simp only [if_pos c2]; exact hT
    · simp only [if_neg c2]
      by_cases c3 : (a2.size : Int) > 300
      · rw [decide_eq_true c3]; exact hT
      · rw [decide_eq_false c3]; exact h0 (by omega) (by omega)

end Go.Proofs.YtcjbnonjhahakaaDoor.Pure
