/- As many orders are ahead so often as are greatest at that place, and there are n! orders: for all lists: no condition. -/
import Derived.Test.YtnjimbgfafkogaaDoorEvK
import Derived.Test.YtnjimbgfafkogaaDoorHandS
import Derived.Test.YtnjimbgfafkogaaDoorFig2
namespace Go.Proofs.YtnjimbgfafkogaaDoor.Pure
open Go.RowKit Go.Proofs.YtnjimbgfafkogaaDoor.Hand Go.Proofs.YtnjimbgfafkogaaDoor.Pre Go.Proofs.YtnjimbgfafkogaaDoor.Bal Go.Proofs.YtnjimbgfafkogaaDoor.Base Go.Proofs.YtnjimbgfafkogaaDoor.Print Go.Proofs.YtnjimbgfafkogaaDoor.Math Go.Proofs.YtnjimbgfafkogaaDoorW.PrintWords Go.Proofs.YtnjimbgfafkogaaDoorW.PrintLast Go.Proofs.YtnjimbgfafkogaaDoorW.PrintMore
set_option linter.unusedVariables false
set_option linter.unusedSimpArgs false

open Go.Proofs.YtnjimbgfafkogaaDoor.Fig
theorem countP_lt (f : List Int → Nat) (m : Nat) : ∀ (W : List (List Int)), W.countP (fun w => decide (f w < m + 1)) = W.countP (fun w => decide (f w < m)) + W.countP (fun w => f w == m)
  | [] => rfl
  | w :: W => by
    have ih := countP_lt f m W
    rw [List.countP_cons, List.countP_cons, List.countP_cons, ih]
    by_cases h1 : f w < m
    · have h2 : (f w == m) = false := beq_eq_false_iff_ne.2 (by omega)
      simp [h1, h2, show f w < m + 1 by omega]; omega
    · by_cases h2 : f w = m
      · simp [h2]; omega
      · have h3 : (f w == m) = false := beq_eq_false_iff_ne.2 h2
        simp [h1, h3, show ¬ f w < m + 1 by omega]
def psum (g : Nat → Nat) : Nat → Nat
  | 0 => 0
  | m + 1 => psum g m + g m
theorem psum_cnt (f : List Int → Nat) (W : List (List Int)) : ∀ m, psum (cnt f (fun _ => 0) W) m = W.countP (fun w => decide (f w < m))
  | 0 => by simp [psum]
  | m + 1 => by rw [psum, psum_cnt f W m, countP_lt]; simp [cnt]
theorem TillAndersen : pomadelaw09_TillAndersen.Pure := by
  intro l hm1 hm2 hm3
  refine Ev.rounds ?_
  have hal : Ev (fun k => (pomadelaw09_alive.f k).bind fun t => some t) true := Ev.bind alive_true (Ev.now _)
  have h0T : Ev (fun k => pomadelaw09_TillAndersen.j0 k l true) true :=
    Ev.step (fun k => by simp only [pomadelaw09_TillAndersen.j0, if_true]) hal
  unfold pomadelaw09_TillAndersen.f
  by_cases c : (l.length : Int) > 6
  · simp only [if_pos c]; exact h0T
  · simp only [if_neg c]
    have hl : l.length ≤ 6 := by omega
    refine Ev.bind (ev_Amounts l (by omega)) ?_
    by_cases h0 : amountsE l = 0
    · rw [h0]
      simp only [bne_self_eq_false]
      obtain ⟨W, hW⟩ : ∃ W, gen swapTake l.length l = W := ⟨_, rfl⟩
      have hWl : W.length = fact l.length := by rw [← hW]; exact gen_length takes_swap l.length l rfl
      have hfa : fact l.length ≤ 40320 := fact_8 (by omega)
      have hS : till_Spread.f l = some (tabL (cnt (pos 0) (fun _ => 0) W) (l.length + 1), tabL (cnt fst (fun _ => 0) W) (l.length + 1), 0) := by
        unfold till_Spread.f spreadR
        rw [if_pos (by omega), if_pos h0, if_neg (by omega), hW]
      have hand : cnt (pos 0) (fun _ => 0) W = cnt fst (fun _ => 0) W := by
        funext j
        simp only [cnt, ← hW]
        rw [andersen takes_swap l.length l rfl j]
      obtain ⟨g, hg⟩ : ∃ g, cnt (pos 0) (fun _ => 0) W = g := ⟨_, rfl⟩
      rw [← hand, hg] at hS
      have hps : ∀ m, psum g m = W.countP (fun w => decide (pos 0 w < m)) := fun m => by rw [← hg]; exact psum_cnt (pos 0) W m
      have hle : ∀ m, psum g m ≤ 40320 := fun m => by rw [hps]; exact Nat.le_trans List.countP_le_length (by omega)
      have hfull : psum g (l.length + 1) = fact l.length := by
        rw [hps, ← hWl]
        rw [List.countP_eq_length]
        intro w hw
        have h1 := pos_le w 0
        have h2 := (gen_mem takes_swap l.length l rfl w (hW ▸ hw)).length_eq
        exact decide_eq_true (by omega)
      have hl1 : ∀ (d i : Nat), i + d = l.length → Ev (fun k => pomadelaw09_TillAndersen.l1 k l ((fact l.length : Nat) : Int) ((fact i : Nat) : Int) ((i + 1 : Nat) : Int)) true := by
        intro d
        induction d with
        | zero =>
          intro i hi
          obtain rfl : i = l.length := by omega
          refine Ev.step (fun k => ?_) hal
          simp only [pomadelaw09_TillAndersen.l1]
          rw [if_neg (by omega), if_pos trivial]
        | succ d ih =>
          intro i hi
          have hf : fact (i + 1) ≤ 40320 := fact_8 (by omega)
          have hm : wrap64 (((fact i : Nat) : Int) * ((i + 1 : Nat) : Int)) = ((fact (i + 1) : Nat) : Int) := by
            have e : ((fact i : Nat) : Int) * ((i + 1 : Nat) : Int) = ((fact (i + 1) : Nat) : Int) := by
              rw [fact, Nat.mul_comm]; push_cast; rfl
            rw [e, w64 (by omega)]
          refine Ev.step (fun k => ?_) (ih (i + 1) (by omega))
          simp only [pomadelaw09_TillAndersen.l1]
          rw [if_pos (by omega), hm, wsucc (by omega)]
      have hl0 : ∀ (d i : Nat), i + d = l.length + 1 → Ev (fun k => pomadelaw09_TillAndersen.l0 k l (tabL g (l.length + 1)) ((psum g i : Nat) : Int) 1 (i : Int)) true := by
        intro d
        induction d with
        | zero =>
          intro i hi
          obtain rfl : i = l.length + 1 := by omega
          rw [hfull]
          refine Ev.step (fun k => ?_) (hl1 l.length 0 (by omega))
          simp only [pomadelaw09_TillAndersen.l0]
          rw [if_neg (by rw [tabL_length]; omega)]; rfl
        | succ d ih =>
          intro i hi
          have hr : rd (tabL g (l.length + 1)) (i : Int) = ((g i : Nat) : Int) := by
            rw [rd_get (by rw [tabL_length]; omega)]
            simp [tabL]
          have h1 := hle (i + 1)
          rw [psum] at h1
          have hs : wrap64 (((psum g i : Nat) : Int) + ((g i : Nat) : Int)) = ((psum g (i + 1) : Nat) : Int) := by
            rw [w64 (by omega), psum]; omega
          refine Ev.step (fun k => ?_) (ih (i + 1) (by omega))
          simp only [pomadelaw09_TillAndersen.l0]
          rw [if_pos (by rw [tabL_length]; omega), if_pos (by omega), hr, if_neg (by omega), hs, wsucc (by omega)]
      have hj1 : Ev (fun k => pomadelaw09_TillAndersen.j1 k l (tabL g (l.length + 1)) false) true :=
        Ev.step (fun k => by simp only [pomadelaw09_TillAndersen.j1]; rw [if_neg (by decide)]; rfl) (hl0 (l.length + 1) 0 (by omega))
      have he : Ev (fun k => (pomadelaw09_same.f k (tabL g (l.length + 1)) (tabL g (l.length + 1))).bind fun t => pomadelaw09_TillAndersen.j1 k l (tabL g (l.length + 1)) (!t)) true := by
        have e1 := ev_same (tabL g (l.length + 1)) (tabL g (l.length + 1)) (by rw [tabL_length]; omega)
        rw [decide_eq_true rfl] at e1
        exact Ev.bind e1 hj1
      refine Ev.step (fun k => ?_) he
      simp only [pomadelaw09_TillAndersen.j0]
      rw [if_neg (by decide), hS, Option.bind_some]
      dsimp only
      rw [if_pos rfl, if_pos (by rw [tabL_length, w64 (by omega)]; omega)]
    · rw [show (amountsE l != 0) = true from bne_iff_ne.2 h0]
      exact h0T

end Go.Proofs.YtnjimbgfafkogaaDoor.Pure
