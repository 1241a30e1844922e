/- What the words' functions, the program's and the reference's, come to. -/
import Derived.Test.YtcjbnonjhahakaaDoorEvA
import Derived.Test.YtcjbnonjhahakaaDoorPrint8
import Derived.Test.YtcjbnonjhahakaaDoorPrint7
import Derived.Test.YtcjbnonjhahakaaDoorPrint11
import Derived.Test.YtcjbnonjhahakaaDoorPrint15
namespace Go.Proofs.YtcjbnonjhahakaaDoor.Pure
open Go.RowKit Go.Proofs.YtcjbnonjhahakaaDoor.Hand Go.Proofs.YtcjbnonjhahakaaDoor.Print Go.Proofs.YtcjbnonjhahakaaDoor.Math Go.Proofs.YtcjbnonjhahakaaDoorW.PrintWords Go.Proofs.YtcjbnonjhahakaaDoorW.PrintLast Go.Proofs.YtcjbnonjhahakaaDoorW.PrintMore
set_option linter.unusedVariables false
set_option linter.unusedSimpArgs false

theorem B_eq {a b : List UInt8} : (B a).toList = (B b).toList ↔ a = b := by
  rw [ByteArray.toList_eq, ByteArray.toList_eq]
  exact ⟨fun h => h, fun h => h⟩
theorem toL (s : ByteArray) : s.toList = L s := ByteArray.toList_eq s
theorem Make_is (s : ByteArray) : parrot_Make.f s = some (B (make (L s)).1, (make (L s)).2) := by
  unfold parrot_Make.f parrot_word.f make
  rw [Option.bind_some]
  by_cases h : wordE (L s) = 0
  · have hw := wordE_ok.1 h
    have hl := hw.1
    rw [L_length] at hl
    rw [if_pos h, if_neg (show ¬ (wordE (L s) ≠ 0) from fun hh => hh h)]
    unfold parrot_made.f
    rw [if_pos ⟨hw.2.1, by omega⟩, Option.bind_some]
  · rw [if_neg h, if_pos h]; rfl
theorem Apply_is (o s : ByteArray) : parrot_Apply.f o s = some (B (apply (L o) (L s)).1, (apply (L o) (L s)).2) := by
  unfold parrot_Apply.f parrot_operative.f parrot_word.f apply
  rw [Option.bind_some]
  by_cases h0 : opsE (L o) = 0
  · rw [if_pos h0, if_neg (show ¬ (opsE (L o) ≠ 0) from fun hh => hh h0), Option.bind_some]
    by_cases h : wordE (L s) = 0
    · have hw := wordE_ok.1 h
      have ho := opsE_ok.1 h0
      have hl := hw.1
      have hlo := ho.1
      have hx := List.length_pos_iff.2 hw.2.2
      rw [L_length] at hl hlo hx
      rw [if_pos h, if_neg (show ¬ (wordE (L s) ≠ 0) from fun hh => hh h)]
      unfold parrot_applied.f aL
      rw [if_pos ⟨by omega, ho.2, by omega, by omega⟩, Option.bind_some, L_length, if_neg (by omega)]
    · rw [if_neg h, if_pos h]; rfl
  · rw [if_neg h0, if_pos h0]; rfl
theorem bounded_is (s : ByteArray) : parrot_bounded.f s = some (B (bounded (L s)).1, (bounded (L s)).2) := by
  unfold parrot_bounded.f bounded
  rw [L_length]
  by_cases h : s.size > 200
  · rw [if_pos (by omega), if_pos h]; rfl
  · rw [if_neg (by omega), if_neg h, B_L]
theorem short_is (s : ByteArray) : pomaderef08_short.f s = some (B (bounded (L s)).1, (bounded (L s)).2) := bounded_is s
theorem selfcat (s : ByteArray) : L (((s ++ (⟨#[51, 50]⟩ : ByteArray)) ++ s) ++ (⟨#[51]⟩ : ByteArray)) = L s ++ [51, 50] ++ L s ++ [51] := by rw [L_append, L_append, L_append]; rfl
theorem aftercat (s : ByteArray) : L (((⟨#[51, 50]⟩ : ByteArray) ++ s) ++ (⟨#[51]⟩ : ByteArray)) = [51, 50] ++ L s ++ [51] := by rw [L_append, L_append]; rfl
theorem Self_is (s : ByteArray) : parrot_Self.f s = some (B (self (L s)).1, (self (L s)).2) := by
  unfold parrot_Self.f parrot_operative.f self
  rw [Option.bind_some]
  by_cases h : opsE (L s) = 0
  · have hl := (opsE_ok.1 h).1
    rw [L_length] at hl
    have z : (s ++ (⟨#[51, 50]⟩ : ByteArray)).size = s.size + 2 := ByteArray.size_append
    have z2 : ((s ++ (⟨#[51, 50]⟩ : ByteArray)) ++ s).size = s.size + 2 + s.size := by rw [ByteArray.size_append, z]
    rw [if_pos h, if_neg (show ¬ (opsE (L s) ≠ 0) from fun hh => hh h), if_pos (by omega), if_pos (by omega), if_pos (by omega), bounded_is, selfcat, Option.bind_some]
  · rw [if_neg h, if_pos h]; rfl
theorem ev_RSelf (s : ByteArray) : Ev (fun k => pomaderef08_Self.f k s) (B (self (L s)).1, (self (L s)).2) := by
  unfold pomaderef08_Self.f self
  refine Ev.bind (ev_Operations s) ?_
  by_cases h : opsE (L s) = 0
  · have hl := (opsE_ok.1 h).1
    rw [L_length] at hl
    have z : (s ++ (⟨#[51, 50]⟩ : ByteArray)).size = s.size + 2 := ByteArray.size_append
    have z2 : ((s ++ (⟨#[51, 50]⟩ : ByteArray)) ++ s).size = s.size + 2 + s.size := by rw [ByteArray.size_append, z]
    rw [if_pos h, if_neg (show ¬ (opsE (L s) ≠ 0) from fun hh => hh h), if_pos (by omega), if_pos (by omega), if_pos (by omega), short_is, selfcat]
    exact Ev.now _
  · rw [if_neg h, if_pos h]; exact Ev.now _
theorem After_is (s : ByteArray) : parrot_After.f s = some (B (after (L s)).1, (after (L s)).2) := by
  unfold parrot_After.f parrot_digits.f after
  rw [Option.bind_some]
  by_cases h : digE (L s) = 0
  · have hl := (digE_ok.1 h).1
    rw [L_length] at hl
    have z : ((⟨#[51, 50]⟩ : ByteArray) ++ s).size = 2 + s.size := ByteArray.size_append
    rw [if_pos h, if_neg (show ¬ (digE (L s) ≠ 0) from fun hh => hh h), if_pos (by omega), if_pos (by omega), bounded_is, aftercat, Option.bind_some]
  · rw [if_neg h, if_pos h]; rfl
theorem ev_RAfter (s : ByteArray) : Ev (fun k => pomaderef08_After.f k s) (B (after (L s)).1, (after (L s)).2) := by
  unfold pomaderef08_After.f after
  refine Ev.bind (ev_Digits s) ?_
  by_cases h : digE (L s) = 0
  · have hl := (digE_ok.1 h).1
    rw [L_length] at hl
    have z : ((⟨#[51, 50]⟩ : ByteArray) ++ s).size = 2 + s.size := ByteArray.size_append
    rw [if_pos h, if_neg (show ¬ (digE (L s) ≠ 0) from fun hh => hh h), if_pos (by omega), if_pos (by omega), short_is, aftercat]
    exact Ev.now _
  · rw [if_neg h, if_pos h]; exact Ev.now _
/-! Pair -/
def pairX (a b : ByteArray) : ByteArray := ((((⟨#[51, 50]⟩ : ByteArray) ++ a) ++ (⟨#[50]⟩ : ByteArray)) ++ b) ++ (⟨#[51]⟩ : ByteArray)
theorem pairX_L (a b : ByteArray) : L (pairX a b) = [51, 50] ++ L a ++ [50] ++ L b ++ [51] := by unfold pairX; rw [L_append, L_append, L_append, L_append]; rfl
theorem pairY_L (b x : ByteArray) : L (((⟨#[50]⟩ : ByteArray) ++ b) ++ x) = [50] ++ L b ++ L x := by rw [L_append, L_append]; rfl
theorem pairX_size (a b : ByteArray) : (pairX a b).size = a.size + b.size + 4 := by rw [← L_length, pairX_L]; simp [L_length]; omega
def pairB (a b : ByteArray) : ByteArray × ByteArray × Int := (B (pair (L a) (L b)).1, B (pair (L a) (L b)).2.1, (pair (L a) (L b)).2.2)
theorem pairB_err1 {a b : ByteArray} (h : digE (L a) ≠ 0) : pairB a b = (⟨#[]⟩, ⟨#[]⟩, digE (L a)) := by unfold pairB pair; rw [if_pos h]; rfl
theorem pairB_err2 {a b : ByteArray} (h : digE (L a) = 0) (h2 : digE (L b) ≠ 0) : pairB a b = (⟨#[]⟩, ⟨#[]⟩, digE (L b)) := by unfold pairB pair; rw [if_neg (fun hh => hh h), if_pos h2]; rfl
theorem pairB_big {a b : ByteArray} (h : digE (L a) = 0) (h2 : digE (L b) = 0) (h3 : (((⟨#[50]⟩ : ByteArray) ++ b) ++ pairX a b).size > 200) : pairB a b = (⟨#[]⟩, ⟨#[]⟩, 8) := by
  rw [← L_length, pairY_L, pairX_L] at h3
  unfold pairB pair
  rw [if_neg (fun hh => hh h), if_neg (fun hh => hh h2), if_pos h3]; rfl
theorem pairB_ok {a b : ByteArray} (h : digE (L a) = 0) (h2 : digE (L b) = 0) (h3 : ¬ (((⟨#[50]⟩ : ByteArray) ++ b) ++ pairX a b).size > 200) : pairB a b = (pairX a b, ((⟨#[50]⟩ : ByteArray) ++ b) ++ pairX a b, 0) := by
  have e1 : pairX a b = B ([51, 50] ++ L a ++ [50] ++ L b ++ [51]) := B_of (pairX_L a b)
  have e2 : ((⟨#[50]⟩ : ByteArray) ++ b) ++ pairX a b = B ([50] ++ L b ++ ([51, 50] ++ L a ++ [50] ++ L b ++ [51])) := B_of (by rw [pairY_L, pairX_L])
  rw [← L_length, pairY_L, pairX_L] at h3
  unfold pairB pair
  rw [if_neg (fun hh => hh h), if_neg (fun hh => hh h2), if_neg h3, e2, e1]
theorem pairY_size (a b : ByteArray) : (((⟨#[50]⟩ : ByteArray) ++ b) ++ pairX a b).size = 1 + b.size + (pairX a b).size := by rw [ByteArray.size_append, ByteArray.size_append]; rfl
theorem ev_Pair (a b : ByteArray) (ha : a.size ≤ 300) (hb : b.size ≤ 300) : Ev (fun k => parrot_Pair.f k a b) (pairB a b) := by
  have hx := pairX_size a b
  have hy := pairY_size a b
  have z1 : ((⟨#[51, 50]⟩ : ByteArray) ++ a).size = 2 + a.size := ByteArray.size_append
  have z2 : (((⟨#[51, 50]⟩ : ByteArray) ++ a) ++ (⟨#[50]⟩ : ByteArray)).size = 2 + a.size + 1 := by rw [ByteArray.size_append, z1]; rfl
  have z3 : ((((⟨#[51, 50]⟩ : ByteArray) ++ a) ++ (⟨#[50]⟩ : ByteArray)) ++ b).size = 2 + a.size + 1 + b.size := by rw [ByteArray.size_append, z2]
  have z4 : ((⟨#[50]⟩ : ByteArray) ++ b).size = 1 + b.size := ByteArray.size_append
  have h2 : digE (L a) = 0 → digE (L b) = 0 → Ev (fun k => parrot_Pair.l0 k a b [a, b] 2 2) (pairB a b) := by
    intro e1 e2
    refine Ev.step (f := fun _ => some (pairB a b)) (fun k => ?_) (Ev.now _)
    simp only [parrot_Pair.l0]
    have zx : (((((⟨#[51, 50]⟩ : ByteArray) ++ a) ++ (⟨#[50]⟩ : ByteArray)) ++ b) ++ (⟨#[51]⟩ : ByteArray)) = pairX a b := rfl
    rw [zx, if_neg (by omega), if_pos (by omega), if_pos (by omega), if_pos (by omega), if_pos (by omega), if_pos (by omega), if_pos (by omega), bounded_is, Option.bind_some]
    unfold bounded
    rw [L_length]
    by_cases h3 : (((⟨#[50]⟩ : ByteArray) ++ b) ++ pairX a b).size > 200
    · rw [if_pos h3, pairB_big e1 e2 h3]
      dsimp only
      rw [if_neg (by decide)]
    · rw [if_neg h3, pairB_ok e1 e2 h3]
      dsimp only
      rw [if_pos rfl, if_neg (by omega)]
  have h1 : digE (L a) = 0 → Ev (fun k => parrot_Pair.l0 k a b [a, b] 2 1) (pairB a b) := by
    intro e1
    have er : rdOf ByteArray.empty [a, b] 1 = b := rfl
    by_cases e2 : digE (L b) = 0
    · refine Ev.step (fun k => ?_) (h2 e1 e2)
      simp only [parrot_Pair.l0]
      rw [if_pos (by decide), if_pos (by decide), if_pos (by simp), er]
      unfold parrot_digits.f
      rw [Option.bind_some, if_pos e2, show wrap64 (1 + 1) = 2 by rw [w64 (by omega)]; rfl]
    · rw [pairB_err2 e1 e2]
      refine Ev.step (f := fun _ => some (⟨#[]⟩, ⟨#[]⟩, digE (L b))) (fun k => ?_) (Ev.now _)
      simp only [parrot_Pair.l0]
      rw [if_pos (by decide), if_pos (by decide), if_pos (by simp), er]
      unfold parrot_digits.f
      rw [Option.bind_some, if_neg e2]
  have h0 : Ev (fun k => parrot_Pair.l0 k a b [a, b] 2 0) (pairB a b) := by
    have er : rdOf ByteArray.empty [a, b] 0 = a := rfl
    by_cases e1 : digE (L a) = 0
    · refine Ev.step (fun k => ?_) (h1 e1)
      simp only [parrot_Pair.l0]
      rw [if_pos (by decide), if_pos (by decide), if_pos (by simp), er]
      unfold parrot_digits.f
      rw [Option.bind_some, if_pos e1, show wrap64 (0 + 1) = 1 by rw [w64 (by omega)]; rfl]
    · rw [pairB_err1 e1]
      refine Ev.step (f := fun _ => some (⟨#[]⟩, ⟨#[]⟩, digE (L a))) (fun k => ?_) (Ev.now _)
      simp only [parrot_Pair.l0]
      rw [if_pos (by decide), if_pos (by decide), if_pos (by simp), er]
      unfold parrot_digits.f
      rw [Option.bind_some, if_neg e1]
  refine Ev.congr (fun k => ?_) h0
  unfold parrot_Pair.f
  rfl
theorem ev_RPair (a b : ByteArray) (ha : a.size ≤ 300) (hb : b.size ≤ 300) : Ev (fun k => pomaderef08_Pair.f k a b) (pairB a b) := by
  have hx := pairX_size a b
  have hy := pairY_size a b
  have z1 : ((⟨#[51, 50]⟩ : ByteArray) ++ a).size = 2 + a.size := ByteArray.size_append
  have z2 : (((⟨#[51, 50]⟩ : ByteArray) ++ a) ++ (⟨#[50]⟩ : ByteArray)).size = 2 + a.size + 1 := by rw [ByteArray.size_append, z1]; rfl
  have z3 : ((((⟨#[51, 50]⟩ : ByteArray) ++ a) ++ (⟨#[50]⟩ : ByteArray)) ++ b).size = 2 + a.size + 1 + b.size := by rw [ByteArray.size_append, z2]
  have z4 : ((⟨#[50]⟩ : ByteArray) ++ b).size = 1 + b.size := ByteArray.size_append
  have he : ∀ e : Int, e ≠ 0 → Ev (fun k => pomaderef08_Pair.j0 k a b e) (⟨#[]⟩, ⟨#[]⟩, e) := fun e he => Ev.step (f := fun _ => some (⟨#[]⟩, ⟨#[]⟩, e)) (fun k => by simp only [pomaderef08_Pair.j0]; rw [if_neg he]) (Ev.now _)
  have h0 : digE (L a) = 0 → digE (L b) = 0 → Ev (fun k => pomaderef08_Pair.j0 k a b 0) (pairB a b) := by
    intro e1 e2
    refine Ev.step (f := fun _ => some (pairB a b)) (fun k => ?_) (Ev.now _)
    simp only [pomaderef08_Pair.j0]
    have zx : (((((⟨#[51, 50]⟩ : ByteArray) ++ a) ++ (⟨#[50]⟩ : ByteArray)) ++ b) ++ (⟨#[51]⟩ : ByteArray)) = pairX a b := rfl
    rw [zx, if_pos trivial, if_pos (by omega), if_pos (by omega), if_pos (by omega), if_pos (by omega), short_is, Option.bind_some]
    unfold bounded
    rw [L_length]
    by_cases h4 : (pairX a b).size > 200
    · rw [if_pos h4]
      have h3 : (((⟨#[50]⟩ : ByteArray) ++ b) ++ pairX a b).size > 200 := by omega
      rw [pairB_big e1 e2 h3]
      dsimp only
      have zb : (B []).size = 0 := rfl
      rw [if_pos (by omega), zb, if_pos (by omega), short_is, Option.bind_some, if_neg (by decide)]
    · rw [if_neg h4, B_L]
      dsimp only
      rw [if_pos (by omega), if_pos (by omega), short_is, Option.bind_some]
      unfold bounded
      rw [L_length]
      by_cases h3 : (((⟨#[50]⟩ : ByteArray) ++ b) ++ pairX a b).size > 200
      · rw [if_pos h3, pairB_big e1 e2 h3]
        dsimp only
        rw [if_pos rfl, if_neg (by decide)]
      · rw [if_neg h3, pairB_ok e1 e2 h3, B_L]
        dsimp only
        rw [if_pos rfl, if_pos rfl]
  unfold pomaderef08_Pair.f
  refine Ev.bind (ev_Digits a) ?_
  by_cases e1 : digE (L a) = 0
  · simp only [e1, if_true]
    refine Ev.bind (ev_Digits b) ?_
    by_cases e2 : digE (L b) = 0
    · rw [e2]; exact h0 e1 e2
    · rw [pairB_err2 e1 e2]; exact he _ e2
  · rw [pairB_err1 e1]
    simp only [if_neg e1]
    exact he _ e1
/-! Life and Grows of the reference. -/
theorem ev_Make (s : ByteArray) : Ev (fun k => pomaderef08_Make.f k s) (B (make (L s)).1, (make (L s)).2) := by
  unfold pomaderef08_Make.f make
  refine Ev.bind (ev_IsWord s) ?_
  by_cases h : wordE (L s) = 0
  · have hl := (wordE_ok.1 h).1
    rw [L_length] at hl
    simp only [if_pos h]
    rw [if_neg (show ¬ (wordE (L s) ≠ 0) from fun hh => hh h)]
    exact Ev.bind (ev_Says s (by omega)) (Ev.now _)
  · simp only [if_neg h]
    rw [if_pos h]; exact Ev.now _
theorem ev_RApply (o s : ByteArray) : Ev (fun k => pomaderef08_Apply.f k o s) (B (apply (L o) (L s)).1, (apply (L o) (L s)).2) := by
  unfold pomaderef08_Apply.f apply
  refine Ev.bind (ev_Operations o) ?_
  by_cases h0 : opsE (L o) = 0
  · simp only [if_pos h0]
    rw [if_neg (show ¬ (opsE (L o) ≠ 0) from fun hh => hh h0)]
    refine Ev.bind (ev_IsWord s) ?_
    by_cases h : wordE (L s) = 0
    · have hw := wordE_ok.1 h
      have ho := opsE_ok.1 h0
      have hl := hw.1
      have hlo := ho.1
      have hx := List.length_pos_iff.2 hw.2.2
      rw [L_length] at hl hlo hx
      simp only [if_pos h]
      rw [if_neg (show ¬ (wordE (L s) ≠ 0) from fun hh => hh h)]
      exact Ev.bind (ev_apply o s ho.2 (by omega) (by omega) (by omega)) (Ev.now _)
    · simp only [if_neg h]
      rw [if_pos h]; exact Ev.now _
  · simp only [if_neg h0]
    rw [if_pos h0]; exact Ev.now _
theorem alive_true : pomadelaw08_alive.f = some true := by decide +kernel

end Go.Proofs.YtcjbnonjhahakaaDoor.Pure
