/- Sides and Zeros are the list of the products of middle binomial numbers, whose sum is a power of 4: for every size that the statement makes; no condition. -/
import Derived.Test.YtnjimbgfafkogaaDoorEvD
import Derived.Test.YtnjimbgfafkogaaDoorPrint10
namespace Go.Proofs.YtnjimbgfafkogaaDoor.Pure
open Go.RowKit Go.Proofs.YtnjimbgfafkogaaDoor.Hand Go.Proofs.YtnjimbgfafkogaaDoor.Pre Go.Proofs.YtnjimbgfafkogaaDoor.Bal Go.Proofs.YtnjimbgfafkogaaDoor.Base Go.Proofs.YtnjimbgfafkogaaDoor.Print Go.Proofs.YtnjimbgfafkogaaDoor.Math Go.Proofs.YtnjimbgfafkogaaDoorW.PrintWords Go.Proofs.YtnjimbgfafkogaaDoorW.PrintLast Go.Proofs.YtnjimbgfafkogaaDoorW.PrintMore
set_option linter.unusedVariables false
set_option linter.unusedSimpArgs false

theorem shl_all : (List.range 31).all (fun n => decide (shl .i64 1 (((2 * n : Nat) : Int)) = ((4 ^ n : Nat) : Int))) = true := by decide +kernel
theorem pre_mono (g : Nat → Nat) (k : Nat) : ∀ d, ((List.range k).map g).sum ≤ ((List.range (k + d)).map g).sum
  | 0 => Nat.le_refl _
  | d + 1 => by
    have := pre_mono g k d
    rw [← Nat.add_assoc, List.range_succ, List.map_append, List.sum_append]; omega
theorem arcs_l0 (n : Nat) (hn : n ≤ 30) (d : Nat) : ∀ k, k + d = n + 1 → Ev (fun f => pomadelaw09_TillArcs.l0 f n (arcsI n (n + 1)) ((((List.range k).map (arcsN n)).sum : Nat) : Int) k) true := by
  induction d with
  | zero =>
    intro k hk
    obtain rfl : k = n + 1 := by omega
    obtain ⟨K0, h0⟩ := alive_true
    refine ⟨K0 + 1, fun f hf => ?_⟩
    obtain ⟨f, rfl⟩ : ∃ m, f = m + 1 := ⟨f - 1, by omega⟩
    have h0' := h0 f (by omega)
    have hsh := shl_all
    rw [List.all_eq_true] at hsh
    have hs := of_decide_eq_true (hsh n (List.mem_range.2 (by omega)))
    have e2 : wrap64 (2 * (n : Int)) = ((2 * n : Nat) : Int) := by rw [w64 (by omega)]; omega
    dsimp only at h0' ⊢
    simp only [pomadelaw09_TillArcs.l0]
    rw [e2, hs, arcs_sum n hn, h0']
    clear e2 hs hsh
    rw [if_neg (by omega), if_pos (by omega), if_pos rfl]; rfl
  | succ d ih =>
    intro k hk
    obtain ⟨K1, h1⟩ := ev_choose (2 * k) k (by omega) (by omega)
    obtain ⟨K2, h2⟩ := ev_choose (2 * (n - k)) (n - k) (by omega) (by omega)
    obtain ⟨K3, h3⟩ := ih (k + 1) (by omega)
    have hs := arcs_small n k hn (by omega)
    have hsum : ((List.range (k + 1)).map (arcsN n)).sum = ((List.range k).map (arcsN n)).sum + arcsN n k := by
      rw [List.range_succ, List.map_append, List.sum_append]; simp
    have hle : ((List.range (k + 1)).map (arcsN n)).sum ≤ 4 ^ n := by
      have := pre_mono (arcsN n) (k + 1) (n - k)
      rw [show k + 1 + (n - k) = n + 1 by omega, arcs_sum n hn] at this
      exact this
    have h4 : 4 ^ n ≤ 4 ^ 30 := Nat.pow_le_pow_right (by decide) hn
    have h4' : (4 : Nat) ^ 30 = 1152921504606846976 := by decide
    obtain ⟨s, hs0⟩ : ∃ s, ((List.range k).map (arcsN n)).sum = s := ⟨_, rfl⟩
    rw [hsum] at hle
    rw [hsum] at h3
    rw [hs0] at hle h3 ⊢
    have e1 : wrap64 (2 * (k : Int)) = ((2 * k : Nat) : Int) := by rw [w64 (by omega)]; omega
    have e2 : wrap64 (2 * (n : Int)) = ((2 * n : Nat) : Int) := by rw [w64 (by omega)]; omega
    have e3 : wrap64 (((2 * n : Nat) : Int) - ((2 * k : Nat) : Int)) = ((2 * (n - k) : Nat) : Int) := by rw [w64 (by omega)]; omega
    have e4 : wrap64 ((n : Int) - (k : Int)) = ((n - k : Nat) : Int) := by rw [w64 (by omega)]; omega
    have e5 : wrap64 ((k : Int) + 1) = ((k + 1 : Nat) : Int) := by rw [w64 (by omega)]; omega
    have e7 : wrap64 ((s : Int) + ((arcsN n k : Nat) : Int)) = ((s + arcsN n k : Nat) : Int) := by rw [← Int.natCast_add]; exact w64n (by omega)
    have e8 : rd (arcsI n (n + 1)) (k : Int) = ((arcsN n k : Nat) : Int) := rd_tabF _ _ _ (by omega)
    refine ⟨max K1 (max K2 K3) + 1, fun f hf => ?_⟩
    obtain ⟨f, rfl⟩ : ∃ m, f = m + 1 := ⟨f - 1, by omega⟩
    have h1' := h1 f (by omega)
    have h2' := h2 f (by omega)
    have h3' := h3 f (by omega)
    dsimp only at h1' h2' h3' ⊢
    have e6 : wrap64 (((C (2 * k) k : Nat) : Int) * ((C (2 * (n - k)) (n - k) : Nat) : Int)) = ((arcsN n k : Nat) : Int) := w64mul hs (by decide)
    simp only [pomadelaw09_TillArcs.l0]
    rw [e1, e2, e3, e4, e5, h1', h2', e8, e7, arcsI_length, Option.bind_some, Option.bind_some, e6]
    clear e1 e2 e3 e4 e5 e6 e7 e8
    rw [if_pos (by omega), if_pos (by omega), if_pos (by omega), if_pos rfl]
    exact h3'
theorem TillArcs : pomadelaw09_TillArcs.Pure := by
  intro a0 w0
  have b0 := wf_u8 w0
  obtain ⟨n, hn, hn30⟩ : ∃ n : Nat, wrap64 (Int.tmod a0 31) = (n : Int) ∧ n ≤ 30 := ⟨(a0 % 31).toNat, by rw [Int.tmod_eq_emod_of_nonneg b0.1, w64 (by omega)]; omega, by omega⟩
  obtain ⟨K1, h1⟩ := ev_Sides n
  obtain ⟨K2, h2⟩ := ev_Zeros n
  obtain ⟨K3, h3⟩ := ev_same (arcsI n (n + 1)) (arcsI n (n + 1)) (by rw [arcsI_length]; omega)
  obtain ⟨K4, h4⟩ := arcs_l0 n hn30 (n + 1) 0 (by omega)
  dsimp only at h1 h2 h3 h4
  have e : arcsR n = (arcsI n (n + 1), 0) := by unfold arcsR; rw [if_neg (by omega), Int.toNat_natCast]
  rw [e] at h1 h2
  obtain ⟨f, hf⟩ : ∃ f, f = max K1 (max K2 (max K3 K4)) := ⟨_, rfl⟩
  refine ⟨f + 1, ?_⟩
  have e5 : wrap64 ((n : Int) + 1) = ((n + 1 : Nat) : Int) := by rw [w64 (by omega)]; omega
  unfold pomadelaw09_TillArcs.f
  rw [hn, e5]
  clear hn e5
  rw [h1 _ (by omega), h2 _ (by omega), Option.bind_some, Option.bind_some, if_pos rfl, if_pos rfl, arcsI_length, if_pos rfl, h3 _ (by omega)]
  simp only [Option.bind_some, decide_true, Bool.not_true, pomadelaw09_TillArcs.j0]
  rw [if_neg (by decide)]
  exact h4 _ (by omega)

end Go.Proofs.YtnjimbgfafkogaaDoor.Pure
