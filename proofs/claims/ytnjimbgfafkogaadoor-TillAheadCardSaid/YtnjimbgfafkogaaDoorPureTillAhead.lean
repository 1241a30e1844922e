/- Ahead and Spread of the program return what those of the reference return, for all lists: no condition. -/
import Derived.Test.YtnjimbgfafkogaaDoorEvK
import Derived.Test.YtnjimbgfafkogaaDoorHandS
import Derived.Test.YtnjimbgfafkogaaDoorFig1
namespace Go.Proofs.YtnjimbgfafkogaaDoor.Pure
open Go.RowKit Go.Proofs.YtnjimbgfafkogaaDoor.Hand Go.Proofs.YtnjimbgfafkogaaDoor.Pre Go.Proofs.YtnjimbgfafkogaaDoor.Bal Go.Proofs.YtnjimbgfafkogaaDoor.Base Go.Proofs.YtnjimbgfafkogaaDoor.Print Go.Proofs.YtnjimbgfafkogaaDoor.Math Go.Proofs.YtnjimbgfafkogaaDoorW.PrintWords Go.Proofs.YtnjimbgfafkogaaDoorW.PrintLast Go.Proofs.YtnjimbgfafkogaaDoorW.PrintMore
set_option linter.unusedVariables false
set_option linter.unusedSimpArgs false

open Go.Proofs.YtnjimbgfafkogaaDoor.Fig
theorem cnt_perm (f : List Int → Nat) (g : Nat → Nat) {a b : List (List Int)} (h : a.Perm b) : cnt f g a = cnt f g b := by
  funext j
  simp only [cnt, h.countP_eq]
theorem spreadR_perm (l : List Int) {a b : List (List Int)} (h : a.Perm b) : spreadR l a = spreadR l b := by
  unfold spreadR
  rw [cnt_perm (pos 0) _ h, cnt_perm fst _ h]
theorem Spread_same (l : List Int) : pomaderef09_Spread.f l = till_Spread.f l := by
  unfold pomaderef09_Spread.f till_Spread.f
  rw [spreadR_perm l (gen_perm takes_plain takes_swap (List.Perm.refl l))]
theorem spreadR_small (l : List Int) (W : List (List Int)) : (spreadR l W).1.length ≤ 1000000 ∧ (spreadR l W).2.1.length ≤ 1000000 := by
  unfold spreadR
  split
  · split
    · simp
    · simp only [tabL_length]; omega
  · simp
theorem TillAhead : pomadelaw09_TillAhead.Pure := by
  intro l hm1 hm2 hm3
  refine Ev.rounds ?_
  have hal : Ev (fun k => (pomadelaw09_alive.f k).bind fun t => some t) true := Ev.bind alive_true (Ev.now _)
  unfold pomadelaw09_TillAhead.f
  by_cases c : (l.length : Int) > 100
  · simp only [if_pos c]; exact hal
  · simp only [if_neg c]
    have hl : l.length ≤ 100 := by omega
    have h1T : Ev (fun k => pomadelaw09_TillAhead.j1 k l true) true :=
      Ev.step (fun k => by simp only [pomadelaw09_TillAhead.j1, if_true]) hal
    have h1F : Ev (fun k => pomadelaw09_TillAhead.j1 k l false) true := by
      obtain ⟨R, hR⟩ : ∃ R, till_Spread.f l = some R := ⟨spreadR l (gen swapTake l.length l), by unfold till_Spread.f; rw [if_pos (by omega)]⟩
      have hs : R.1.length ≤ 1000000 ∧ R.2.1.length ≤ 1000000 := by
        unfold till_Spread.f at hR
        rw [if_pos (by omega)] at hR
        obtain rfl := Option.some.inj hR
        exact spreadR_small l _
      have he : Ev (fun k => (pomadelaw09_same.f k R.1 R.1).bind fun t => if t = true then ((pomadelaw09_same.f k R.2.1 R.2.1).bind fun t2 => if t2 = true then (if R.2.2 = R.2.2 then ((pomadelaw09_alive.f k).bind fun t3 => some t3) else some false) else some false) else some false) true := by
        have e1 := ev_same R.1 R.1 hs.1
        have e2 := ev_same R.2.1 R.2.1 hs.2
        rw [decide_eq_true rfl] at e1 e2
        refine Ev.bind e1 ?_
        simp only [if_true]
        refine Ev.bind e2 ?_
        simp only [if_true]
        exact hal
      refine Ev.step (fun k => ?_) he
      simp only [pomadelaw09_TillAhead.j1]
      rw [if_neg (by decide), Spread_same, hR, Option.bind_some, Option.bind_some]
      simp only [eq_self, if_true]
    have h0 : Ev (fun k => pomadelaw09_TillAhead.j0 k l false) true := by
      by_cases c6 : (l.length : Int) > 6
      · by_cases c8 : (l.length : Int) ≤ 8
        · exact Ev.step (fun k => by simp only [pomadelaw09_TillAhead.j0]; rw [if_neg (by decide), if_pos c6, decide_eq_true c8]) h1T
        · exact Ev.step (fun k => by simp only [pomadelaw09_TillAhead.j0]; rw [if_neg (by decide), if_pos c6, decide_eq_false c8]) h1F
      · exact Ev.step (fun k => by simp only [pomadelaw09_TillAhead.j0]; rw [if_neg (by decide), if_neg c6]) h1F
    refine Ev.bind (ev_tAhead l (by omega)) (Ev.bind (ev_rAhead l (by omega)) ?_)
    simp only [if_true, bne_self_eq_false]
    exact h0

end Go.Proofs.YtnjimbgfafkogaaDoor.Pure
