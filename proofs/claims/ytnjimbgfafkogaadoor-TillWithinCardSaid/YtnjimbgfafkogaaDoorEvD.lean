/- What the printed functions of arcs come to. -/
import Derived.Test.YtnjimbgfafkogaaDoorEvC
import Derived.Test.YtnjimbgfafkogaaDoorPrint10
namespace Go.Proofs.YtnjimbgfafkogaaDoor.Pure
open Go.RowKit Go.Proofs.YtnjimbgfafkogaaDoor.Hand Go.Proofs.YtnjimbgfafkogaaDoor.Pre Go.Proofs.YtnjimbgfafkogaaDoor.Bal Go.Proofs.YtnjimbgfafkogaaDoor.Base Go.Proofs.YtnjimbgfafkogaaDoor.Print Go.Proofs.YtnjimbgfafkogaaDoor.Math Go.Proofs.YtnjimbgfafkogaaDoorW.PrintWords Go.Proofs.YtnjimbgfafkogaaDoorW.PrintLast Go.Proofs.YtnjimbgfafkogaaDoorW.PrintMore
set_option linter.unusedVariables false
set_option linter.unusedSimpArgs false

section
variable (K : Nat)
/-- The row in the middle of round i: behind place j it is that of i + 1. -/
def chRow (i j : Nat) : List Int := tabF (fun m => if j < m then ((C (i + 1) m : Nat) : Int) else ((C i m : Nat) : Int)) (K + 1)
def chFull (i : Nat) : List Int := tabF (fun m => ((C i m : Nat) : Int)) (K + 1)
theorem chRow_start (i : Nat) : chRow K i K = chFull K i := tabF_congr fun m hm => by rw [if_neg (by omega)]
theorem chRow_end (i : Nat) : chRow K i 0 = chFull K (i + 1) := tabF_congr fun m hm => by
  by_cases h : 0 < m
  · rw [if_pos h]
  · obtain rfl : m = 0 := by omega
    rw [if_neg (by omega), C_zero, C_zero]
theorem chRow_set (i j : Nat) : (chRow K i (j + 1)).set (j + 1) ((C (i + 1) (j + 1) : Nat) : Int) = chRow K i j := by
  unfold chRow
  rw [tabF_set]
  refine tabF_congr fun m hm => ?_
  by_cases e : m = j + 1
  · subst e; rw [if_pos rfl, if_pos (by omega)]
  · rw [if_neg e]
    by_cases h : j + 1 < m
    · rw [if_pos h, if_pos (by omega)]
    · rw [if_neg h, if_neg (by omega)]
theorem chRow_length (i j : Nat) : (chRow K i j).length = K + 1 := tabF_length _ _
theorem chFull_length (i : Nat) : (chFull K i).length = K + 1 := tabF_length _ _
theorem rd_chRow (i j m : Nat) (hm : m ≤ K) (h : ¬ j < m) : rd (chRow K i j) (m : Int) = ((C i m : Nat) : Int) := by
  unfold chRow; rw [rd_tabF _ _ _ (by omega), if_neg h]
theorem rd_chFull (i m : Nat) (hm : m ≤ K) : rd (chFull K i) (m : Int) = ((C i m : Nat) : Int) := by
  unfold chFull; rw [rd_tabF _ _ _ (by omega)]
end
theorem ev_ch_l1 (n K i : Nat) (hi : i + 1 ≤ 60) (hK : K ≤ 60) (v : Int) (hv : Ev (fun f => till_choose.l0 f K (chFull K (i + 1)) n ((i + 1 : Nat) : Int)) v) : ∀ j, j ≤ K → Ev (fun f => till_choose.l1 f K (chRow K i j) j n i) v
  | 0, _ => by
    refine Ev.step (fun f => ?_) hv
    rw [chRow_end]
    simp (disch := omega) only [till_choose.l1, if_neg, w64]
    rfl
  | j + 1, hj => by
    have h1 := ev_ch_l1 n K i hi hK v hv j (by omega)
    have c1 := C_small (i + 1) (j + 1) hi
    have cs := C_succ i j
    have e1 : wrap64 (((j + 1 : Nat) : Int) - 1) = (j : Int) := by rw [w64 (by omega)]; omega
    have r1 := rd_chRow K i (j + 1) (j + 1) hj (by omega)
    have r2 := rd_chRow K i (j + 1) j (by omega) (by omega)
    have len := chRow_length K i (j + 1)
    have e2 : wrap64 (((C i (j + 1) : Nat) : Int) + ((C i j : Nat) : Int)) = ((C (i + 1) (j + 1) : Nat) : Int) := by rw [cs] at c1 ⊢; rw [w64 (by omega)]; omega
    refine Ev.step (fun f => ?_) h1
    simp only [till_choose.l1]
    rw [e1, r1, r2, e2, len]
    clear e1 e2
    rw [if_pos (by omega), if_pos (by omega), if_pos (by omega), if_pos (by omega), if_pos (by omega), Int.toNat_natCast, chRow_set]
theorem ev_ch_l0 (n K : Nat) (hn : n ≤ 60) (hK : K ≤ 60) (d : Nat) : ∀ i, i + d = n → Ev (fun f => till_choose.l0 f K (chFull K i) n i) ((C n K : Nat) : Int) := by
  induction d with
  | zero =>
    intro i hi
    obtain rfl : i = n := by omega
    refine Ev.step (f := fun _ => some ((C i K : Nat) : Int)) (fun f => ?_) (Ev.now _)
    simp (disch := omega) only [till_choose.l0, if_neg, if_pos, chFull_length, rd_chFull]
  | succ d ih =>
    intro i hi
    have h1 := ev_ch_l1 n K i (by omega) hK _ (ih (i + 1) (by omega)) K (Nat.le_refl _)
    rw [chRow_start] at h1
    refine Ev.step (fun f => ?_) h1
    simp (disch := omega) only [till_choose.l0, if_pos]
theorem ev_tchoose (n K : Nat) (hn : n ≤ 60) (hK : K ≤ 60) : Ev (fun f => till_choose.f f n K) ((C n K : Nat) : Int) := by
  have h1 := ev_ch_l0 n K hn hK n 0 (by omega)
  refine Ev.congr (fun f => ?_) h1
  have e1 : wrap64 ((K : Int) + 1) = ((K + 1 : Nat) : Int) := by rw [w64 (by omega)]; omega
  have e2 : (List.replicate (K + 1) (0 : Int)).set 0 1 = chFull K 0 := by
    rw [replicate_tabF, tabF_set]
    refine tabF_congr fun m hm => ?_
    cases m with
    | zero => rfl
    | succ m => rfl
  unfold till_choose.f
  rw [e1]
  clear e1
  simp (disch := omega) only [if_pos, Int.toNat_natCast, Option.bind_some, List.length_replicate]
  rw [show (0 : Int).toNat = 0 from rfl, e2]; rfl
/-- The middle binomial numbers. -/
def mids : List Nat := [1, 2, 6, 20, 70, 252, 924, 3432, 12870, 48620, 184756, 705432, 2704156, 10400600, 40116600, 155117520, 601080390, 2333606220, 9075135300, 35345263800, 137846528820, 538257874440, 2104098963720, 8233430727600, 32247603683100, 126410606437752, 495918532948104, 1946939425648112, 7648690600760440, 30067266499541040, 118264581564861424]
theorem mids_eq : (List.range 31).map (fun k => (crow (2 * k)).getD k 0) = mids := by decide +kernel
theorem mids_get (k : Nat) (hk : k ≤ 30) : C (2 * k) k = mids.getD k 0 := by
  rw [← crow_get, ← mids_eq, List.getD_eq_getElem?_getD, List.getD_eq_getElem?_getD, ofNat_range _ _ _ (by omega), List.getD_eq_getElem?_getD]; rfl
def arcsN (n k : Nat) : Nat := C (2 * k) k * C (2 * (n - k)) (n - k)
theorem arcs_all : (List.range 31).all (fun n => ((List.range (n + 1)).all fun k => decide (mids.getD k 0 * mids.getD (n - k) 0 ≤ 1152921504606846976)) && decide (((List.range (n + 1)).map fun k => mids.getD k 0 * mids.getD (n - k) 0).sum = 4 ^ n)) = true := by decide +kernel
theorem arcs_small (n k : Nat) (hn : n ≤ 30) (hk : k ≤ n) : arcsN n k ≤ 1152921504606846976 := by
  have h := arcs_all
  rw [List.all_eq_true] at h
  have h1 := h n (List.mem_range.2 (by omega))
  rw [Bool.and_eq_true, List.all_eq_true] at h1
  have h2 := h1.1 k (List.mem_range.2 (by omega))
  unfold arcsN
  rw [mids_get k (by omega), mids_get (n - k) (by omega)]
  exact of_decide_eq_true h2
theorem arcs_sum (n : Nat) (hn : n ≤ 30) : ((List.range (n + 1)).map (arcsN n)).sum = 4 ^ n := by
  have h := arcs_all
  rw [List.all_eq_true] at h
  have h1 := h n (List.mem_range.2 (by omega))
  rw [Bool.and_eq_true] at h1
  rw [← of_decide_eq_true h1.2]
  congr 1
  refine List.map_congr_left fun k hk => ?_
  have := List.mem_range.1 hk
  unfold arcsN
  rw [mids_get k (by omega), mids_get (n - k) (by omega)]
def arcsI (n m : Nat) : List Int := tabF (fun k => ((arcsN n k : Nat) : Int)) m
theorem arcsI_succ (n m : Nat) : arcsI n (m + 1) = arcsI n m ++ [((arcsN n m : Nat) : Int)] := by
  unfold arcsI tabF
  rw [List.range_succ, List.map_append]; rfl
theorem arcsI_length (n m : Nat) : (arcsI n m).length = m := tabF_length _ _
theorem ev_arcs_l0 (n : Nat) (hn : n ≤ 30) (d : Nat) : ∀ k, k + d = n + 1 → Ev (fun f => till_arcs.l0 f n (arcsI n k) ((n + 1 : Nat) : Int) k) (arcsI n (n + 1), 0) := by
  induction d with
  | zero =>
    intro k hk
    obtain rfl : k = n + 1 := by omega
    refine Ev.step (f := fun _ => some (arcsI n (n + 1), 0)) (fun f => ?_) (Ev.now _)
    simp (disch := omega) only [till_arcs.l0, if_neg]
  | succ d ih =>
    intro k hk
    obtain ⟨K1, h1⟩ := ev_tchoose (2 * k) k (by omega) (by omega)
    obtain ⟨K2, h2⟩ := ev_tchoose (2 * (n - k)) (n - k) (by omega) (by omega)
    obtain ⟨K3, h3⟩ := ih (k + 1) (by omega)
    have hs := arcs_small n k hn (by omega)
    have e1 : wrap64 (2 * (k : Int)) = ((2 * k : Nat) : Int) := by rw [w64 (by omega)]; omega
    have e2 : wrap64 (2 * (n : Int)) = ((2 * n : Nat) : Int) := by rw [w64 (by omega)]; omega
    have e3 : wrap64 (((2 * n : Nat) : Int) - ((2 * k : Nat) : Int)) = ((2 * (n - k) : Nat) : Int) := by rw [w64 (by omega)]; omega
    have e4 : wrap64 ((n : Int) - (k : Int)) = ((n - k : Nat) : Int) := by rw [w64 (by omega)]; omega
    have e5 : wrap64 ((k : Int) + 1) = ((k + 1 : Nat) : Int) := by rw [w64 (by omega)]; omega
    refine ⟨max K1 (max K2 K3) + 1, fun f hf => ?_⟩
    obtain ⟨f, rfl⟩ : ∃ m, f = m + 1 := ⟨f - 1, by omega⟩
    have h1' := h1 f (by omega)
    have h2' := h2 f (by omega)
    have h3' := h3 f (by omega)
    dsimp only at h1' h2' h3' ⊢
    simp only [till_arcs.l0]
    rw [e1, e2, e3, e4, e5, h1', h2']
    simp only [Option.bind_some]
    have e6 : wrap64 (((C (2 * k) k : Nat) : Int) * ((C (2 * (n - k)) (n - k) : Nat) : Int)) = ((arcsN n k : Nat) : Int) := w64mul hs (by decide)
    rw [e6, arcsI_length, ← arcsI_succ]
    clear e1 e2 e3 e4 e5 e6
    rw [if_pos (by omega), if_pos (by omega)]
    exact h3'
def arcsR (n : Int) : List Int × Int := if n < 0 ∨ n > 30 then ([], 2) else (arcsI n.toNat (n.toNat + 1), 0)
theorem ev_arcs (n : Int) : Ev (fun f => till_arcs.f f n) (arcsR n) := by
  unfold arcsR
  have ht : Ev (fun f => till_arcs.j0 f n true) (([] : List Int), (2 : Int)) := Ev.step (f := fun _ => some ([], 2)) (fun k => by simp only [till_arcs.j0, if_true]) (Ev.now _)
  by_cases h : n < 0 ∨ n > 30
  · rw [if_pos h]
    refine Ev.congr (fun f => ?_) ht
    unfold till_arcs.f
    by_cases c : n < 0
    · rw [if_pos c]
    · rw [if_neg c, decide_eq_true (by omega)]
  · rw [if_neg h]
    obtain ⟨n, rfl⟩ : ∃ m : Nat, n = (m : Int) := ⟨n.toNat, by omega⟩
    have h1 := ev_arcs_l0 n (by omega) (n + 1) 0 (by omega)
    rw [Int.toNat_natCast]
    refine Ev.congr (f := fun f => till_arcs.j0 f n false) (fun f => ?_) (Ev.step (fun f => ?_) h1)
    · unfold till_arcs.f
      rw [if_neg (by omega), decide_eq_false (by omega)]
    · have e5 : wrap64 ((n : Int) + 1) = ((n + 1 : Nat) : Int) := by rw [w64 (by omega)]; omega
      simp only [till_arcs.j0]
      rw [if_neg (by decide), e5]; rfl
theorem ev_Sides (n : Int) : Ev (fun f => till_Sides.f f n) (arcsR n) := by
  obtain ⟨K, h⟩ := ev_arcs n
  refine ⟨K, fun f hf => ?_⟩
  have h1 := h f hf
  dsimp only at h1 ⊢
  unfold till_Sides.f
  rw [h1]; rfl
theorem ev_Zeros (n : Int) : Ev (fun f => till_Zeros.f f n) (arcsR n) := by
  obtain ⟨K, h⟩ := ev_arcs n
  refine ⟨K, fun f hf => ?_⟩
  have h1 := h f hf
  dsimp only at h1 ⊢
  unfold till_Zeros.f
  rw [h1]; rfl

end Go.Proofs.YtnjimbgfafkogaaDoor.Pure
