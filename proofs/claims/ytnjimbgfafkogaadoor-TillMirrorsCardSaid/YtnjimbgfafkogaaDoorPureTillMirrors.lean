/- Mirror of the program returns what that of the reference returns, for all strings and levels: no condition. -/
import Derived.Test.YtnjimbgfafkogaaDoorEvF0
import Derived.Test.YtnjimbgfafkogaaDoorFib1
namespace Go.Proofs.YtnjimbgfafkogaaDoor.Pure
open Go.RowKit Go.Proofs.YtnjimbgfafkogaaDoor.Hand Go.Proofs.YtnjimbgfafkogaaDoor.Pre Go.Proofs.YtnjimbgfafkogaaDoor.Bal Go.Proofs.YtnjimbgfafkogaaDoor.Base Go.Proofs.YtnjimbgfafkogaaDoor.Print Go.Proofs.YtnjimbgfafkogaaDoor.Math Go.Proofs.YtnjimbgfafkogaaDoorW.PrintWords Go.Proofs.YtnjimbgfafkogaaDoorW.PrintLast Go.Proofs.YtnjimbgfafkogaaDoorW.PrintMore
set_option linter.unusedVariables false
set_option linter.unusedSimpArgs false

open Go.Proofs.YtnjimbgfafkogaaDoor.Fib
theorem rfi_fi (x : Int) (l : List Int) (d : Nat) : ∀ i, i + d = l.length → rfi x l i d = fi x i (l.drop i) := by
  induction d with
  | zero => intro i hi; rw [List.drop_of_length_le (by omega)]; rfl
  | succ d ih =>
    intro i hi
    have hlt : i < l.length := by omega
    rw [drop_rd hlt, rfi, fi, ih (i + 1) (by omega)]
    by_cases c : rd l (i : Int) = x
    · rw [if_pos c, if_pos c.symm]
    · rw [if_neg c, if_neg (fun h => c h.symm)]
theorem ev_refMirror (s : ByteArray) (level : Int) : Ev (fun k => pomaderef09_Mirror.f k s level) (mirR s level) := by
  obtain ⟨K0, h0⟩ := ev_refWalk s
  unfold mirR
  by_cases h : walkE s = 0
  · rw [if_pos h]
    obtain ⟨hs, hg⟩ := walk_ok h
    have hP := steps_of s hg
    have hl := steps_length s
    obtain ⟨P, hPd⟩ : ∃ P, steps s = P := ⟨_, rfl⟩
    rw [hPd] at hP hl ⊢
    subst hP
    obtain ⟨K1, h1⟩ := ev_refbal P (by omega)
    refine ⟨max K0 K1, fun k hk => ?_⟩
    have h0' := h0 k (by omega)
    have h1' := h1 k (by omega)
    have hbl := bals_length P
    have e : rfi level (bals P) 0 (P.length + 1) = fi level 0 (bals P) := rfi_fi level (bals P) _ 0 (by omega)
    dsimp only at h0' h1' ⊢
    unfold pomaderef09_Mirror.f
    rw [h0', h, Option.bind_some, if_pos rfl, h1', Option.bind_some, if_pos ⟨by rw [bals_length, ofS_size], hs⟩, ofS_size, e]
    by_cases c : fi level 0 (bals P) < 0
    · rw [if_pos c, if_pos c]
    · rw [if_neg c, if_neg c, bytesOf_ofS]
      congr 2
      unfold flipAt
      rw [← str_ofS, List.map_append]
      congr 2
      · rw [List.map_take]
      · unfold turnB
        rw [← List.map_drop, List.map_map, List.map_map]
        exact List.map_congr_left fun c _ => by cases c <;> rfl
  · rw [if_neg h]
    refine ⟨K0, fun k hk => ?_⟩
    have h0' := h0 k hk
    dsimp only at h0' ⊢
    unfold pomaderef09_Mirror.f
    rw [h0', Option.bind_some, if_neg h]
theorem TillMirrors : pomadelaw09_TillMirrors.Pure := by
  intro s level _ _
  obtain ⟨K0, h0⟩ := alive_true
  dsimp only at h0
  by_cases hl : s.size > 100
  · refine ⟨K0, ?_⟩
    unfold pomadelaw09_TillMirrors.f
    rw [if_pos (by omega), h0 _ (by omega)]; rfl
  · obtain ⟨K1, h1⟩ := ev_Mirror s level
    obtain ⟨K2, h2⟩ := ev_refMirror s level
    dsimp only at h1 h2
    refine ⟨max K0 (max K1 K2), ?_⟩
    unfold pomadelaw09_TillMirrors.f
    rw [if_neg (by omega), h1 _ (by omega), h2 _ (by omega), Option.bind_some, Option.bind_some, if_pos rfl, if_pos rfl, h0 _ (by omega)]; rfl

end Go.Proofs.YtnjimbgfafkogaaDoor.Pure
