/- Amounts of at most 1 with a sum above 0 have as many rotations as the sum; a sum of 1 has one, which Raney returns; no sum above 0 has none: for every list of amounts: no condition. -/
import Derived.Test.YtnjimbgfafkogaaDoorEvB
import Derived.Test.YtnjimbgfafkogaaDoorPrint4
namespace Go.Proofs.YtnjimbgfafkogaaDoor.Pure
open Go.RowKit Go.Proofs.YtnjimbgfafkogaaDoor.Hand Go.Proofs.YtnjimbgfafkogaaDoor.Pre Go.Proofs.YtnjimbgfafkogaaDoor.Bal Go.Proofs.YtnjimbgfafkogaaDoor.Print Go.Proofs.YtnjimbgfafkogaaDoor.Math Go.Proofs.YtnjimbgfafkogaaDoorW.PrintWords Go.Proofs.YtnjimbgfafkogaaDoorW.PrintLast Go.Proofs.YtnjimbgfafkogaaDoorW.PrintMore
set_option linter.unusedVariables false
set_option linter.unusedSimpArgs false

theorem motz_l (l : List Int) (hb : ∀ x ∈ l, -1000000 ≤ x ∧ x ≤ 1000000) (hl : l.length ≤ 60) (x3 : List Int) (x4 x5 x6 : Int) (v : Bool)
    (hv : Ev (fun k => pomadelaw09_TillMotzkin.l0 k l x3 x4 x5 x6 l.sum (l.all fun x => decide (x ≤ 1)) (l.length : Int)) v) (d : Nat) :
    ∀ (i : Nat) (s : Int), i + d = l.length → s = (l.take i).sum → -1000000 * (i : Int) ≤ s → s ≤ 1000000 * (i : Int) → Ev (fun k => pomadelaw09_TillMotzkin.l0 k l x3 x4 x5 x6 s ((l.take i).all fun x => decide (x ≤ 1)) i) v := by
  induction d with
  | zero =>
    intro i s hi hs _ _
    obtain rfl : i = l.length := by omega
    rw [hs, List.take_length]
    exact hv
  | succ d ih =>
    intro i s hi hs h1 h2
    have hlt : i < l.length := by omega
    have hx := hb _ (rd_mem hlt)
    have htk : l.take (i + 1) = l.take i ++ [rd l i] := by rw [rd_get hlt, List.take_add_one, List.getElem?_eq_getElem hlt]; rfl
    have := ih (i + 1) (s + rd l i) (by omega) (by rw [htk, List.sum_append, hs]; simp) (by omega) (by omega)
    rw [htk, List.all_append] at this
    refine Ev.step (fun k => ?_) this
    cases ha : (l.take i).all fun x => decide (x ≤ 1)
    · simp (disch := omega) only [pomadelaw09_TillMotzkin.l0, if_pos, w64]
      rw [if_neg (by decide)]; rfl
    · simp (disch := omega) only [pomadelaw09_TillMotzkin.l0, if_pos, w64, List.all_cons, List.all_nil, Bool.and_true, Bool.true_and]
      rw [if_pos trivial]; rfl
theorem sum_bound (l : List Int) (hb : ∀ x ∈ l, -1000000 ≤ x ∧ x ≤ 1000000) : -1000000 * (l.length : Int) ≤ l.sum ∧ l.sum ≤ 1000000 * (l.length : Int) := by
  induction l with
  | nil => simp
  | cons x t ih =>
    have h1 := hb x (by simp)
    have h2 := ih fun y hy => hb y (by simp [hy])
    rw [List.sum_cons, List.length_cons]; omega
theorem TillMotzkin : pomadelaw09_TillMotzkin.Pure := by
  intro l _ _ _
  obtain ⟨K0, h0⟩ := alive_true
  dsimp only at h0
  have jt : Ev (fun k => pomadelaw09_TillMotzkin.j0 k l true) true := by
    refine ⟨K0 + 1, fun k hk => ?_⟩
    obtain ⟨k, rfl⟩ : ∃ m, k = m + 1 := ⟨k - 1, by omega⟩
    simp only [pomadelaw09_TillMotzkin.j0, if_true]
    rw [h0 k (by omega)]; rfl
  by_cases hl : l.length > 100
  · obtain ⟨k, hk⟩ := jt.rounds
    refine ⟨k, ?_⟩
    unfold pomadelaw09_TillMotzkin.f
    rw [if_pos (by omega)]; exact hk
  · obtain ⟨K1, h1⟩ := ev_Amounts l (by omega)
    by_cases ha : amountsE l = 0
    · have hb := amounts_ok ha
      have hsb := sum_bound l hb.2
      obtain ⟨K2, h2⟩ := ev_Rotations l (by omega)
      obtain ⟨K3, h3⟩ := ev_Raney l (by omega)
      unfold raneyR at h3
      rw [if_pos ha] at h2 h3
      dsimp only at h1 h2 h3
      have jl : ∀ x5 x6, (if l.sum = 1 then (rd (goodsI l l.length) 0, (0 : Int)) else (0, 10)) = (x5, x6) →
          Ev (fun k => pomadelaw09_TillMotzkin.l0 k l (goodsI l l.length) 0 x5 x6 l.sum (l.all fun x => decide (x ≤ 1)) (l.length : Int)) true := by
        intro x5 x6 hx
        have j2 : Ev (fun k => pomadelaw09_TillMotzkin.j2 k (goodsI l l.length) x5 x6 l.sum false) true := by
          refine ⟨K0 + 1, fun k hk => ?_⟩
          obtain ⟨k, rfl⟩ : ∃ m, k = m + 1 := ⟨k - 1, by omega⟩
          simp only [pomadelaw09_TillMotzkin.j2]
          rw [if_neg (by decide)]
          by_cases hs : l.sum = 1
          · obtain ⟨r, hr⟩ := goodsI_one l hs
            rw [if_pos hs] at hx
            cases hx
            rw [if_pos hs, if_pos rfl, hr, h0 k (by omega)]
            simp
          · rw [if_neg hs] at hx
            cases hx
            rw [if_neg hs, if_pos rfl, if_pos rfl, h0 k (by omega)]; rfl
        have hz : l.sum ≤ 0 → goodsI l l.length = [] := fun h => by unfold goodsI; rw [no_good l h]; rfl
        refine Ev.step (f := fun k => pomadelaw09_TillMotzkin.j2 k (goodsI l l.length) x5 x6 l.sum false) (fun k => ?_) j2
        simp only [pomadelaw09_TillMotzkin.l0]
        rw [if_neg (by omega), if_pos trivial]
        have hz2 : (if l.sum ≤ 0 then pomadelaw09_TillMotzkin.j2 k (goodsI l l.length) x5 x6 l.sum (decide (((goodsI l l.length).length : Int) > 0)) else pomadelaw09_TillMotzkin.j2 k (goodsI l l.length) x5 x6 l.sum false) = pomadelaw09_TillMotzkin.j2 k (goodsI l l.length) x5 x6 l.sum false := by
          by_cases h : l.sum ≤ 0
          · rw [if_pos h, hz h]; rfl
          · rw [if_neg h]
        by_cases hall : (l.all fun x => decide (x ≤ 1)) = true
        · rw [if_pos hall]
          by_cases hs : l.sum > 0
          · have hm := motzkin l hs (fun x hx => by simpa using List.all_eq_true.1 hall x hx)
            rw [if_pos hs, if_pos (by unfold goodsI; rw [List.length_map]; exact hm), hz2]
          · rw [if_neg hs, hz2]
        · rw [if_neg hall, hz2]
      obtain ⟨K4, h4⟩ : Ev (fun k => pomadelaw09_TillMotzkin.j0 k l false) true := by
        obtain ⟨⟨x5, x6⟩, hx⟩ : ∃ p : Int × Int, (if l.sum = 1 then (rd (goodsI l l.length) 0, (0 : Int)) else (0, 10)) = p := ⟨_, rfl⟩
        have := motz_l l hb.2 (by omega) (goodsI l l.length) 0 x5 x6 true (jl x5 x6 hx) l.length 0 0 (by omega) (by simp) (by omega) (by omega)
        obtain ⟨K4, h4⟩ := this
        dsimp only at h4
        refine ⟨max K2 (max K3 K4) + 1, fun k hk => ?_⟩
        obtain ⟨k, rfl⟩ : ∃ m, k = m + 1 := ⟨k - 1, by omega⟩
        simp only [pomadelaw09_TillMotzkin.j0]
        rw [if_neg (by decide), h2 k (by omega), h3 k (by omega), hx]
        exact h4 k (by omega)
      dsimp only at h4
      refine ⟨max K1 K4, ?_⟩
      unfold pomadelaw09_TillMotzkin.f
      rw [if_neg (by omega), h1 _ (by omega), ha]
      exact h4 _ (by omega)
    · obtain ⟨K4, h4⟩ := jt
      dsimp only at h1 h4
      refine ⟨max K1 K4, ?_⟩
      unfold pomadelaw09_TillMotzkin.f
      rw [if_neg (by omega), h1 _ (by omega)]
      simp only [Option.bind_some, bne_iff_ne.2 ha]
      exact h4 _ (by omega)

end Go.Proofs.YtnjimbgfafkogaaDoor.Pure
