/- More adds two steps above and Less takes two away, each undoes the other; they are refused exactly where all, or no, steps are above: for all strings: no condition. -/
import Derived.Test.YtnjimbgfafkogaaDoorEvG
import Derived.Test.YtnjimbgfafkogaaDoorFin2
namespace Go.Proofs.YtnjimbgfafkogaaDoor.Pure
open Go.RowKit Go.Proofs.YtnjimbgfafkogaaDoor.Hand Go.Proofs.YtnjimbgfafkogaaDoor.Pre Go.Proofs.YtnjimbgfafkogaaDoor.Bal Go.Proofs.YtnjimbgfafkogaaDoor.Base Go.Proofs.YtnjimbgfafkogaaDoor.Print Go.Proofs.YtnjimbgfafkogaaDoor.Math Go.Proofs.YtnjimbgfafkogaaDoorW.PrintWords Go.Proofs.YtnjimbgfafkogaaDoorW.PrintLast Go.Proofs.YtnjimbgfafkogaaDoorW.PrintMore
set_option linter.unusedVariables false
set_option linter.unusedSimpArgs false

open Go.Proofs.YtnjimbgfafkogaaDoor.Fin
theorem TillChung : pomadelaw09_TillChung.Pure := by
  intro s _
  obtain ⟨K0, h0⟩ := alive_true
  dsimp only at h0
  have jt : ∀ k, K0 + 1 ≤ k → pomadelaw09_TillChung.j0 k s true = some true := fun k hk => by
    obtain ⟨k, rfl⟩ : ∃ m, k = m + 1 := ⟨k - 1, by omega⟩
    simp only [pomadelaw09_TillChung.j0, if_true]
    rw [h0 k (by omega)]; rfl
  by_cases hl : s.size > 100
  · refine ⟨K0 + 1, ?_⟩
    unfold pomadelaw09_TillChung.f
    rw [if_pos (by omega)]; exact jt _ (Nat.le_refl _)
  · obtain ⟨Kb, hb⟩ := ev_refBalanced s
    dsimp only at hb
    by_cases hB : balE s = 0
    · obtain ⟨hP, hs, hg, hf⟩ := bal_ok hB
      have hlen := steps_length s
      obtain ⟨K1, h1⟩ := ev_tAbove s
      obtain ⟨K2, h2⟩ := ev_tMore s
      obtain ⟨K3, h3⟩ := ev_tLess s
      dsimp only at h1 h2 h3
      unfold aboveR at h1
      unfold moreR at h2
      unfold lessR at h3
      rw [if_pos hB] at h1 h2 h3
      obtain ⟨P, hPd⟩ : ∃ P, steps s = P := ⟨_, rfl⟩
      rw [hPd] at hP hlen hf h1 h2 h3
      obtain ⟨n, hn⟩ : ∃ n, abv 0 P = n := ⟨_, rfl⟩
      have hev := abv_even P 0
      rw [hf] at hev
      obtain ⟨u, hu⟩ := hev
      have hle := abv_le P 0
      have hmi := more_iff P hf
      have hli := less_iff P hf
      rw [hn] at h1 hu hle hmi hli
      obtain ⟨a, ha⟩ : ∃ a, firstUp (-1) P 0 P.length = a := ⟨_, rfl⟩
      obtain ⟨b, hbb⟩ : ∃ b, lastUp 0 P P.length = b := ⟨_, rfl⟩
      rw [ha] at h2 hmi
      rw [hbb] at h3 hli
      -- Less and what it brings
      have J2 : ∃ K, ∀ k, K ≤ k → pomadelaw09_TillChung.j2 k s n (exR P b).1 (exR P b).2 = some true := by
        by_cases c : b < 0
        · refine ⟨K0 + 1, fun k hk => ?_⟩
          obtain ⟨k, rfl⟩ : ∃ m, k = m + 1 := ⟨k - 1, by omega⟩
          unfold exR
          rw [if_pos c]
          simp only [pomadelaw09_TillChung.j2]
          rw [if_neg (by decide), h0 k (by omega)]; rfl
        · obtain ⟨j, rfl⟩ : ∃ j : Nat, b = (j : Int) := ⟨b.toNat, by omega⟩
          obtain ⟨e1, e2, q, e3, e4⟩ := less_law P hf j hbb
          have hjl : j < P.length := by have := lastUp_lt 0 P P.length; rw [hbb] at this; omega
          have hql := exch_length P j hjl
          obtain ⟨Q, hQ⟩ : ∃ Q, exch P j = Q := ⟨_, rfl⟩
          rw [hQ] at e1 e2 e3 e4 hql
          have hbQ := bal_ofS (P := Q) (by omega) e1
          obtain ⟨K4, h4⟩ := ev_tAbove (ofS Q)
          obtain ⟨K5, h5⟩ := ev_tMore (ofS Q)
          dsimp only at h4 h5
          unfold aboveR at h4
          unfold moreR at h5
          rw [if_pos hbQ, steps_ofS] at h4 h5
          rw [e3] at h5
          unfold exR at h5
          rw [if_neg (by omega), Int.toNat_natCast, e4] at h5
          refine ⟨max K0 (max K4 K5) + 1, fun k hk => ?_⟩
          obtain ⟨k, rfl⟩ : ∃ m, k = m + 1 := ⟨k - 1, by omega⟩
          unfold exR
          rw [if_neg (by omega), Int.toNat_natCast, hQ]
          simp only [pomadelaw09_TillChung.j2]
          rw [if_pos trivial, h4 k (by omega), Option.bind_some, h5 k (by omega), Option.bind_some, if_pos rfl, if_pos rfl, w64 (by omega), if_pos (by show (abv 0 Q : Int) = n - 2; omega), if_pos (by rw [hP]), h0 k (by omega)]; rfl
      obtain ⟨KJ, hJ2⟩ := J2
      have J1 : ∃ K, ∀ k, K ≤ k → pomadelaw09_TillChung.j1 k s n (exR P a).1 (exR P a).2 (exR P b).1 (exR P b).2 false = some true := by
        by_cases c : a < 0
        · refine ⟨KJ + 1, fun k hk => ?_⟩
          obtain ⟨k, rfl⟩ : ∃ m, k = m + 1 := ⟨k - 1, by omega⟩
          simp only [pomadelaw09_TillChung.j1]
          have e : (exR P a).2 = 10 := by unfold exR; rw [if_pos c]
          rw [if_neg (by decide), e, if_neg (by decide)]
          exact hJ2 k (by omega)
        · obtain ⟨j, rfl⟩ : ∃ j : Nat, a = (j : Int) := ⟨a.toNat, by omega⟩
          obtain ⟨e1, e2, q, e3, e4⟩ := more_law P hf j ha
          have hjl : j < P.length := by have := firstUp_lt (-1) P P.length 0 (by omega); rw [ha] at this; omega
          have hql := exch_length P j hjl
          obtain ⟨Q, hQ⟩ : ∃ Q, exch P j = Q := ⟨_, rfl⟩
          rw [hQ] at e1 e2 e3 e4 hql
          have hbQ := bal_ofS (P := Q) (by omega) e1
          obtain ⟨K4, h4⟩ := ev_tAbove (ofS Q)
          obtain ⟨K5, h5⟩ := ev_tLess (ofS Q)
          dsimp only at h4 h5
          unfold aboveR at h4
          unfold lessR at h5
          rw [if_pos hbQ, steps_ofS] at h4 h5
          rw [e3] at h5
          unfold exR at h5
          rw [if_neg (by omega), Int.toNat_natCast, e4] at h5
          have ea : exR P (j : Int) = (ofS Q, 0) := by unfold exR; rw [if_neg (by omega), Int.toNat_natCast, hQ]
          refine ⟨max KJ (max K4 K5) + 1, fun k hk => ?_⟩
          obtain ⟨k, rfl⟩ : ∃ m, k = m + 1 := ⟨k - 1, by omega⟩
          have hj := hJ2 k (by omega)
          rw [ea]
          simp only [pomadelaw09_TillChung.j1]
          rw [if_neg (by decide), if_pos trivial, h4 k (by omega), Option.bind_some, h5 k (by omega), Option.bind_some, if_pos rfl, if_pos rfl, w64 (by omega), if_pos (by show (abv 0 Q : Int) = n + 2; omega), if_pos (by rw [hP])]
          exact hj
      obtain ⟨KK, hJ1⟩ := J1
      refine ⟨max K0 (max Kb (max K1 (max K2 (max K3 KK)))) + 1, ?_⟩
      obtain ⟨f, hf2⟩ : ∃ f, f = max K0 (max Kb (max K1 (max K2 (max K3 KK)))) := ⟨_, rfl⟩
      rw [← hf2]
      unfold pomadelaw09_TillChung.f
      rw [if_neg (by omega), hb _ (by omega), Option.bind_some, hB]
      simp only [pomadelaw09_TillChung.j0]
      have t1 : ((exR P a).2 == 0) = decide ((n : Int) < (s.size : Int)) := by
        unfold exR
        by_cases c : a < 0
        · rw [if_pos c, decide_eq_false (by have := hmi.1 c; omega)]; rfl
        · rw [if_neg c, decide_eq_true (by have := fun h => c (hmi.2 h); omega)]; rfl
      have t2 : ((exR P b).2 == 0) = decide ((n : Int) > 0) := by
        unfold exR
        by_cases c : b < 0
        · rw [if_pos c, decide_eq_false (by have := hli.1 c; omega)]; rfl
        · rw [if_neg c, decide_eq_true (by have := fun h => c (hli.2 h); omega)]; rfl
      have t3 : (Int.tmod (n : Int) 2 != 0) = false := by
        rw [Int.tmod_eq_emod_of_nonneg (by omega), show (n : Int) % 2 = 0 by omega]; rfl
      rw [if_neg (by decide), h1 _ (by omega), Option.bind_some, h2 _ (by omega), Option.bind_some, h3 _ (by omega), Option.bind_some, if_pos rfl, t1, bne_self_eq_false, if_neg (by decide), t2, bne_self_eq_false, if_neg (by decide), t3]
      exact hJ1 _ (by omega)
    · refine ⟨max Kb (K0 + 1), ?_⟩
      unfold pomadelaw09_TillChung.f
      rw [if_neg (by omega), hb _ (by omega), Option.bind_some, bne_iff_ne.2 hB]
      exact jt _ (by omega)

end Go.Proofs.YtnjimbgfafkogaaDoor.Pure
