/- The operations 44 and 67 change nothing; 34 and 43, and 45 and 54, give the same: for all strings: no condition. -/
import Derived.Test.YtcjbnonjhahakaaDoorEvB
import Derived.Test.YtcjbnonjhahakaaDoorPrint14
namespace Go.Proofs.YtcjbnonjhahakaaDoor.Pure
open Go.RowKit Go.Proofs.YtcjbnonjhahakaaDoor.Hand Go.Proofs.YtcjbnonjhahakaaDoor.Print Go.Proofs.YtcjbnonjhahakaaDoor.Math Go.Proofs.YtcjbnonjhahakaaDoorW.PrintWords Go.Proofs.YtcjbnonjhahakaaDoorW.PrintLast Go.Proofs.YtcjbnonjhahakaaDoorW.PrintMore
set_option linter.unusedVariables false
set_option linter.unusedSimpArgs false

theorem alive_b : (pomadelaw08_alive.f.bind fun t => some t) = some true := by rw [alive_true]; rfl
theorem apply_two {c d : UInt8} {w : List UInt8} (ho : opsE [c, d] = 0) (hw : wordE w = 0) : apply [c, d] w = applL [d, c] w := by
  unfold apply
  rw [if_neg (fun hh => hh ho), if_neg (fun hh => hh hw)]; rfl
theorem applL_step {c : UInt8} {cs w : List UInt8} (h1 : long1 c w.length ≠ 0) (h2 : long1 c w.length ≤ 100000) : applL (c :: cs) w = applL cs (app1 c w) := by
  rw [applL, if_neg h1, if_neg (by omega)]
theorem ex_all {w : List UInt8} (hw : wordE w = 0) : apply [52, 52] w = (w, 0) ∧ apply [54, 55] w = (w, 0) ∧ apply [51, 52] w = (w.reverse ++ 50 :: w.reverse, 0) ∧ apply [52, 51] w = (w.reverse ++ 50 :: w.reverse, 0) ∧ apply [52, 53] w = (w.reverse ++ w.reverse, 0) ∧ apply [53, 52] w = (w.reverse ++ w.reverse, 0) := by
  have hk := wordE_ok.1 hw
  have hl := hk.1
  have hp := List.length_pos_iff.2 hk.2.2
  have e3 : ∀ v : List UInt8, app1 51 v = v ++ 50 :: v := fun _ => rfl
  have e4 : ∀ v : List UInt8, app1 52 v = v.reverse := fun _ => rfl
  have e5 : ∀ v : List UInt8, app1 53 v = v ++ v := fun _ => rfl
  have e6 : ∀ v : List UInt8, app1 54 v = v.tail := fun _ => rfl
  have e7 : ∀ v : List UInt8, app1 55 v = 49 :: v := fun _ => rfl
  have n3 : ∀ n, long1 51 n = 2 * n + 1 := fun _ => rfl
  have n4 : ∀ n, long1 52 n = n := fun _ => rfl
  have n5 : ∀ n, long1 53 n = 2 * n := fun _ => rfl
  have n6 : ∀ n, long1 54 n = n - 1 := fun _ => rfl
  have n7 : ∀ n, long1 55 n = n + 1 := fun _ => rfl
  refine ⟨?_, ?_, ?_, ?_, ?_, ?_⟩
  · rw [apply_two (by decide) hw, applL_step (by rw [n4]; omega) (by rw [n4]; omega), e4, applL_step (by rw [n4, List.length_reverse]; omega) (by rw [n4, List.length_reverse]; omega), e4, List.reverse_reverse]; rfl
  · rw [apply_two (by decide) hw, applL_step (by rw [n7]; omega) (by rw [n7]; omega), e7, applL_step (by rw [n6, List.length_cons]; omega) (by rw [n6, List.length_cons]; omega), e6]; rfl
  · rw [apply_two (by decide) hw, applL_step (by rw [n4]; omega) (by rw [n4]; omega), e4, applL_step (by rw [n3, List.length_reverse]; omega) (by rw [n3, List.length_reverse]; omega), e3]; rfl
  · rw [apply_two (by decide) hw, applL_step (by rw [n3]; omega) (by rw [n3]; omega), e3, applL_step (by rw [n4, List.length_append, List.length_cons]; omega) (by rw [n4, List.length_append, List.length_cons]; omega), e4]; simp [applL]
  · rw [apply_two (by decide) hw, applL_step (by rw [n5]; omega) (by rw [n5]; omega), e5, applL_step (by rw [n4, List.length_append]; omega) (by rw [n4, List.length_append]; omega), e4]; simp [applL]
  · rw [apply_two (by decide) hw, applL_step (by rw [n4]; omega) (by rw [n4]; omega), e4, applL_step (by rw [n5, List.length_reverse]; omega) (by rw [n5, List.length_reverse]; omega), e5]; rfl
theorem ParrotExchanged : pomadelaw08_ParrotExchanged.Pure := by
  intro a0 w0
  refine Ev.rounds ?_
  have hT : Ev (fun k => pomadelaw08_ParrotExchanged.j0 k a0 true) true :=
    Ev.step (f := fun _ => some true) (fun k => by simp only [pomadelaw08_ParrotExchanged.j0, if_true]; exact alive_b) (Ev.now _)
  have hlit : ∀ a b : UInt8, L (⟨#[a, b]⟩ : ByteArray) = [a, b] := fun _ _ => rfl
  have h0 : wordE (L a0) = 0 → Ev (fun k => pomadelaw08_ParrotExchanged.j0 k a0 false) true := by
    intro hw
    obtain ⟨x1, x2, x3, x4, x5, x6⟩ := ex_all hw
    have hl := (wordE_ok.1 hw).1
    have h1 : Ev (fun k => pomadelaw08_ParrotExchanged.j1 k a0 false) true := by
      refine Ev.step (f := fun _ => some true) (fun k => ?_) (Ev.now _)
      simp only [pomadelaw08_ParrotExchanged.j1]
      rw [if_neg (by decide)]
      simp only [Apply_is, Option.bind_some, hlit, x3, x4, x5, x6, if_true]
      have e1 : wrap64 (2 * (a0.size : Int)) = 2 * (a0.size : Int) := by rw [L_length] at hl; rw [w64 (by omega)]
      have e2 : wrap64 (2 * (a0.size : Int) + 1) = 2 * (a0.size : Int) + 1 := by rw [L_length] at hl; rw [w64 (by omega)]
      rw [e1, e2]
      clear e1 e2
      have z1 : ((B ((L a0).reverse ++ 50 :: (L a0).reverse)).size : Int) = 2 * (a0.size : Int) + 1 := by rw [B_size, List.length_append, List.length_cons, List.length_reverse, L_length]; omega
      have z2 : ((B ((L a0).reverse ++ (L a0).reverse)).size : Int) = 2 * (a0.size : Int) := by rw [B_size, List.length_append, List.length_reverse, L_length]; omega
      rw [if_pos z1, if_pos z2, alive_b]
    refine Ev.step (fun k => ?_) h1
    simp only [pomadelaw08_ParrotExchanged.j0]
    rw [if_neg (by decide)]
    simp only [Apply_is, Option.bind_some, hlit, x1, x2, if_true, B_L, bne_self_eq_false]
  unfold pomadelaw08_ParrotExchanged.f
  by_cases c1 : (a0.size : Int) > 300
  · simp only [if_pos c1]; exact hT
  · simp only [if_neg c1]
    refine Ev.bind (ev_IsWord a0) ?_
    by_cases hw : wordE (L a0) = 0
    · rw [hw]; exact h0 hw
    · have : (wordE (L a0) != 0) = true := bne_iff_ne.2 hw
      rw [this]; exact hT

end Go.Proofs.YtcjbnonjhahakaaDoor.Pure
