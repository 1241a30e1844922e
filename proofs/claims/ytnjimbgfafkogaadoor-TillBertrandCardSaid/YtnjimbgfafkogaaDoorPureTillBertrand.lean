/- Ballot is the ballot theorem's number: for all votes and factors that the statement makes; no condition. -/
import Derived.Test.YtnjimbgfafkogaaDoorEvC
import Derived.Test.YtnjimbgfafkogaaDoorPrint7
namespace Go.Proofs.YtnjimbgfafkogaaDoor.Pure
open Go.RowKit Go.Proofs.YtnjimbgfafkogaaDoor.Hand Go.Proofs.YtnjimbgfafkogaaDoor.Pre Go.Proofs.YtnjimbgfafkogaaDoor.Bal Go.Proofs.YtnjimbgfafkogaaDoor.Base Go.Proofs.YtnjimbgfafkogaaDoor.Print Go.Proofs.YtnjimbgfafkogaaDoor.Math Go.Proofs.YtnjimbgfafkogaaDoorW.PrintWords Go.Proofs.YtnjimbgfafkogaaDoorW.PrintLast Go.Proofs.YtnjimbgfafkogaaDoorW.PrintMore
set_option linter.unusedVariables false
set_option linter.unusedSimpArgs false

theorem TillBertrand : pomadelaw09_TillBertrand.Pure := by
  intro a0 a1 a2 w0 w1 w2
  have b0 := wf_u8 w0
  have b1 := wf_u8 w1
  have b2 := wf_u8 w2
  obtain ⟨x, hx⟩ : ∃ x : Nat, wrap64 (Int.tmod a0 31) = (x : Int) ∧ x ≤ 30 := ⟨(a0 % 31).toNat, by rw [Int.tmod_eq_emod_of_nonneg b0.1, w64 (by omega)]; omega, by omega⟩
  obtain ⟨y, hy⟩ : ∃ y : Nat, wrap64 (Int.tmod a1 31) = (y : Int) ∧ y ≤ 30 := ⟨(a1 % 31).toNat, by rw [Int.tmod_eq_emod_of_nonneg b1.1, w64 (by omega)]; omega, by omega⟩
  obtain ⟨t, ht⟩ : ∃ t : Nat, wrap64 (1 + wrap64 (Int.tmod a2 30)) = (t : Int) ∧ 1 ≤ t ∧ t ≤ 30 := ⟨(1 + a2 % 30).toNat, by rw [Int.tmod_eq_emod_of_nonneg b2.1, w64 (n := a2 % 30) (by omega), w64 (by omega)]; omega, by omega⟩
  obtain ⟨K0, h0⟩ := alive_true
  obtain ⟨K1, h1⟩ := ev_Ballot x y t
  obtain ⟨K2, h2⟩ := ev_choose (x + y) y (by omega) (by omega)
  dsimp only at h0 h1 h2
  refine ⟨max K0 (max K1 K2), ?_⟩
  have e : ballotR x y t = (((bal t x y : Nat) : Int), 0) := by unfold ballotR; rw [if_neg (by omega)]; simp only [Int.toNat_natCast]
  have hty : t * y ≤ 900 := Nat.le_trans (Nat.mul_le_mul ht.2.2 hy.2) (by omega)
  have hw : wrap64 ((t : Int) * (y : Int)) = ((t * y : Nat) : Int) := by rw [← Int.natCast_mul, w64 (by omega)]
  have hs : wrap64 ((x : Int) + (y : Int)) = ((x + y : Nat) : Int) := by rw [w64 (by omega)]; omega
  unfold pomadelaw09_TillBertrand.f
  rw [hx.1, hy.1, ht.1, h1 _ (by omega), e]
  simp only [Option.bind_some, if_true, hw, hs]
  replace hx := hx.2
  replace hy := hy.2
  replace ht := ht.2
  clear hw hs b0 b1 b2 w0 w1 w2 e h1
  by_cases c0 : x + y = 0
  · obtain rfl : x = 0 := by omega
    obtain rfl : y = 0 := by omega
    rw [if_pos (by omega), if_pos (by rw [bal]; rfl), h0 _ (by omega)]; rfl
  · rw [if_neg (by omega)]
    by_cases c1 : x ≤ t * y
    · rw [if_pos (by omega), if_pos (by rw [bal_low t x y c1 (by omega)]; rfl), h0 _ (by omega)]; rfl
    · have hf := bal_formula t (x + y) x y rfl (by omega) (by omega)
      have hc := C_small (x + y) y (by omega)
      rw [if_neg (by omega), h2 _ (by omega)]
      simp only [Option.bind_some]
      obtain ⟨h, hh⟩ : ∃ h, x + y = h := ⟨_, rfl⟩
      obtain ⟨g, hg⟩ : ∃ g, x - t * y = g := ⟨_, rfl⟩
      obtain ⟨c, hcc⟩ : ∃ c, C (x + y) y = c := ⟨_, rfl⟩
      obtain ⟨n, hn⟩ : ∃ n, bal t x y = n := ⟨_, rfl⟩
      rw [hh] at hcc
      rw [hh] at hf hc
      rw [hcc] at hf hc
      rw [hg, hn] at hf
      have hgi : wrap64 ((x : Int) - ((t * y : Nat) : Int)) = (g : Int) := by rw [w64 (by omega)]; omega
      rw [hgi, hh, hcc, hn]
      clear hgi
      have hq : wrap64 (Int.tdiv (c : Int) (h : Int)) = ((c / h : Nat) : Int) := w64div (Nat.le_trans hc (by decide))
      have hr := tmodn c h
      have hdm := Nat.div_add_mod c h
      have hrl : c % h < h := Nat.mod_lt _ (by omega)
      obtain ⟨q, hqq⟩ : ∃ q, c / h = q := ⟨_, rfl⟩
      obtain ⟨r, hrr⟩ : ∃ r, c % h = r := ⟨_, rfl⟩
      rw [hqq, hrr] at hdm
      rw [hrr] at hrl
      rw [hq, hr, hqq, hrr]
      clear hq hr
      have hgq : g * q ≤ c := by
        have : g * q ≤ h * q := Nat.mul_le_mul_right _ (by omega)
        omega
      have hgr : g * r ≤ 3600 := Nat.le_trans (Nat.mul_le_mul (show g ≤ 60 by omega) (show r ≤ 60 by omega)) (by omega)
      have key : g * r = h * (n - g * q) := by
        rw [Nat.mul_sub, hf, ← hdm, Nat.mul_add]
        have : g * (h * q) = h * (g * q) := by rw [Nat.mul_left_comm]
        omega
      have hpos : 0 < h := by omega
      have hle : g * q ≤ n := by
        have : h * (g * q) ≤ h * n := by rw [hf, ← hdm, Nat.mul_add, Nat.mul_left_comm]; omega
        exact Nat.le_of_mul_le_mul_left this (by omega)
      have hnb := bal_small t x y (by omega)
      have m4 : Int.tmod ((g * r : Nat) : Int) (h : Int) = 0 := by
        rw [tmodn, key, Nat.mul_mod_right]; rfl
      have m1 : wrap64 ((g : Int) * (q : Int)) = ((g * q : Nat) : Int) := w64mul (Nat.le_trans hgq hc) (by decide)
      have m2 : wrap64 ((g : Int) * (r : Int)) = ((g * r : Nat) : Int) := w64mul hgr (by decide)
      have m3 : wrap64 (Int.tdiv ((g * r : Nat) : Int) (h : Int)) = ((n - g * q : Nat) : Int) := by
        rw [w64div (Nat.le_trans hgr (by decide)), key, Nat.mul_div_cancel_left _ hpos]
      rw [m1, m2, m3, m4]
      clear m1 m2 m3 m4
      rw [w64 (by omega), if_pos (by omega), if_pos rfl, h0 _ (by omega)]; rfl

end Go.Proofs.YtnjimbgfafkogaaDoor.Pure
