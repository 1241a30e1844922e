/- Mirror of Mirror is the walk, and its end is reflected: for all strings and levels: no condition. -/
import Derived.Test.YtnjimbgfafkogaaDoorEvE
import Derived.Test.YtnjimbgfafkogaaDoorPrint8
namespace Go.Proofs.YtnjimbgfafkogaaDoor.Pure
open Go.RowKit Go.Proofs.YtnjimbgfafkogaaDoor.Hand Go.Proofs.YtnjimbgfafkogaaDoor.Pre Go.Proofs.YtnjimbgfafkogaaDoor.Bal Go.Proofs.YtnjimbgfafkogaaDoor.Base Go.Proofs.YtnjimbgfafkogaaDoor.Print Go.Proofs.YtnjimbgfafkogaaDoor.Math Go.Proofs.YtnjimbgfafkogaaDoorW.PrintWords Go.Proofs.YtnjimbgfafkogaaDoorW.PrintLast Go.Proofs.YtnjimbgfafkogaaDoorW.PrintMore
set_option linter.unusedVariables false
set_option linter.unusedSimpArgs false

theorem refl_l0 (P Q : List Bool) (hl : P.length ≤ 60) (hQ : Q.length = P.length) (k : Int) (hk : -128 ≤ k ∧ k ≤ 127) (hend : (Q.map st).sum = 2 * k - (P.map st).sum) (d : Nat) :
    ∀ i, i + d = P.length → ∀ a b : Int, a = ((P.take i).map st).sum → b = ((Q.take i).map st).sum → -(i : Int) ≤ a → a ≤ i → -(i : Int) ≤ b → b ≤ i →
    Ev (fun f => pomadelaw09_TillReflected.l0 f (ofS P) k (ofS Q) a b i) true := by
  induction d with
  | zero =>
    intro i hi a b ha hb h1 h2 h3 h4
    obtain rfl : i = P.length := by omega
    rw [List.take_length] at ha
    rw [List.take_of_length_le (by omega)] at hb
    obtain ⟨K0, h0⟩ := alive_true
    refine ⟨K0 + 1, fun f hf => ?_⟩
    obtain ⟨f, rfl⟩ : ∃ m, f = m + 1 := ⟨f - 1, by omega⟩
    have h0' := h0 f (by omega)
    dsimp only at h0' ⊢
    simp only [pomadelaw09_TillReflected.l0]
    rw [ofS_size, if_neg (by omega), w64 (n := 2 * k) (by omega), w64 (by omega), if_pos (by omega), h0']; rfl
  | succ d ih =>
    intro i hi a b ha hb h1 h2 h3 h4
    have hp : i < P.length := by omega
    have hq : i < Q.length := by omega
    have tp : ((P.take (i + 1)).map st).sum = a + st P[i] := by rw [List.take_add_one, List.getElem?_eq_getElem hp, List.map_append, List.sum_append, ← ha]; simp
    have tq : ((Q.take (i + 1)).map st).sum = b + st Q[i] := by rw [List.take_add_one, List.getElem?_eq_getElem hq, List.map_append, List.sum_append, ← hb]; simp
    have sp := st_cases P[i]
    have sq := st_cases Q[i]
    have := ih (i + 1) (by omega) _ _ tp.symm tq.symm (by omega) (by omega) (by omega) (by omega)
    refine Ev.step (fun f => ?_) this
    simp only [pomadelaw09_TillReflected.l0]
    rw [bt_ofS P i hp, bt_ofS Q i hq, ofS_size, ofS_size, if_pos (by omega), if_pos (by omega), w64 (n := a + 1) (by omega), w64 (n := a - 1) (by omega), w64 (n := b + 1) (by omega), w64 (n := b - 1) (by omega), w64 (n := (i : Int) + 1) (by omega)]
    rcases sp with ⟨cp, vp⟩ | ⟨cp, vp⟩ <;> rcases sq with ⟨cq, vq⟩ | ⟨cq, vq⟩ <;> rw [cp, cq] <;> simp (disch := omega) only [si, if_pos, if_neg, if_true, st] <;> rfl
theorem TillReflected : pomadelaw09_TillReflected.Pure := by
  intro s level _ w1
  have hk := wf_i8 w1
  obtain ⟨K0, h0⟩ := alive_true
  dsimp only at h0
  by_cases hl : s.size > 100
  · refine ⟨K0, ?_⟩
    unfold pomadelaw09_TillReflected.f
    rw [if_pos (by omega), h0 _ (by omega)]; rfl
  · obtain ⟨K1, h1⟩ := ev_Mirror s level
    dsimp only at h1
    unfold mirR at h1
    have start : ∀ f, pomadelaw09_TillReflected.f f s level = (till_Mirror.f f s level).bind fun bt271 => (if bt271.2 = 0 then ((till_Mirror.f f bt271.1 level).bind fun bt274 => (if bt274.2 = 0 then (if bt274.1.toList = s.toList then (pomadelaw09_TillReflected.j0 f s level bt271.1 ((bt271.1.size : Int) != (s.size : Int))) else (pomadelaw09_TillReflected.j0 f s level bt271.1 true)) else (pomadelaw09_TillReflected.j0 f s level bt271.1 true))) else (if bt271.1.toList = ([] : List UInt8) then ((pomadelaw09_alive.f f).bind fun t273 => (some t273)) else (some false))) := fun f => by
      unfold pomadelaw09_TillReflected.f
      rw [if_neg (by omega), w64 (by omega)]
    have bad : ∀ e : Int, e ≠ 0 → (∀ k, K1 ≤ k → till_Mirror.f k s level = some (⟨#[]⟩, e)) → ∃ k, pomadelaw09_TillReflected.f k s level = some true := fun e he h => by
      refine ⟨max K0 K1, ?_⟩
      rw [start, h _ (by omega), Option.bind_some, if_neg he, if_pos empty_toList, h0 _ (by omega)]; rfl
    by_cases hw : walkE s = 0
    · rw [if_pos hw] at h1
      obtain ⟨hs, hg⟩ := walk_ok hw
      have hP := steps_of s hg
      have hlen := steps_length s
      obtain ⟨P, hPd⟩ : ∃ P, steps s = P := ⟨_, rfl⟩
      rw [hPd] at hP hlen h1
      rcases fi_range level (bals P) 0 with he | ⟨j, hj, he, hx, hq⟩
      · rw [he, if_pos (by omega)] at h1
        exact bad 10 (by decide) h1
      · rw [bals_length] at hj
        rw [he, if_neg (by omega), Nat.zero_add, Int.toNat_natCast] at h1
        obtain ⟨Q, hQ⟩ : ∃ Q, flipAt P j = Q := ⟨_, rfl⟩
        rw [hQ] at h1
        have hQl : Q.length = P.length := by rw [← hQ]; exact flipAt_length P j
        have back : fi level 0 (bals Q) = ((0 + j : Nat) : Int) := by
          rw [← hQ]
          refine fi_first level _ 0 j ?_ fun q hq2 => ?_
          · rw [bals_flip_le P j j (by omega) (Nat.le_refl _)]; exact hx
          · rw [bals_flip_le P j q (by omega) (by omega)]; exact hq q hq2
        obtain ⟨K2, h2⟩ := ev_Mirror (ofS Q) level
        dsimp only at h2
        unfold mirR at h2
        rw [if_pos (walk_ofS (by omega)), steps_ofS, back, if_neg (by omega), Nat.zero_add, Int.toNat_natCast, ← hQ, flip_flip P j (by omega), hQ] at h2
        have hlev : ((P.take j).map st).sum = level := by
          have := bals_get P j (by omega)
          rw [hx] at this; exact (Option.some.inj this).symm
        have hend : (Q.map st).sum = 2 * level - (P.map st).sum := by
          rw [← hQ]
          unfold flipAt
          rw [List.map_append, List.sum_append, flip_sum, hlev]
          have : (P.map st).sum = level + ((P.drop j).map st).sum := by
            rw [← hlev, ← List.sum_append, ← List.map_append, List.take_append_drop]
          omega
        obtain ⟨K3, h3⟩ := refl_l0 P Q (by omega) hQl level hk hend P.length 0 (by omega) 0 0 (by simp) (by simp) (by omega) (by omega) (by omega) (by omega)
        dsimp only at h3
        obtain ⟨f, hf⟩ : ∃ f, f = max K0 (max K1 (max K2 K3)) := ⟨_, rfl⟩
        refine ⟨f + 1, ?_⟩
        rw [start, h1 _ (by omega), Option.bind_some, if_pos rfl, h2 _ (by omega), Option.bind_some, if_pos rfl, if_pos (by rw [hP]), hP, ofS_size, ofS_size, hQl, bne_self_eq_false]
        simp only [pomadelaw09_TillReflected.j0]
        rw [if_neg (by decide)]
        exact h3 _ (by omega)
    · rw [if_neg hw] at h1
      exact bad _ hw h1

end Go.Proofs.YtnjimbgfafkogaaDoor.Pure
