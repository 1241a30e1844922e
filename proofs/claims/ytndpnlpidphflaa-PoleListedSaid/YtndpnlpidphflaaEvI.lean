/- Inverses; lists in order. -/
import Derived.Test.YtndpnlpidphflaaPrint10
import Derived.Test.YtndpnlpidphflaaEvH
namespace Go.Proofs.Ytndpnlpidphflaa.Pure
open Go.RowKit Go.Proofs.Ytndpnlpidphflaa.Print Go.Proofs.Ytndpnlpidphflaa.Math Go.Proofs.YtndpnlpidphflaaW.PrintWords Go.Proofs.YtndpnlpidphflaaW.PrintLast Go.Proofs.YtndpnlpidphflaaW.PrintMore
set_option linter.unusedVariables false

open Go.Proofs.Ytndpnlpidphflaa.Hand

theorem inv_loops {l : List Int} {n : Nat} (hn : n ≤ 100000) (hl : Perm l n) (d : Nat) : ∀ (i : Nat) (v : List Int), i + d = n → v.length = n → (∀ j, j < i → rd v (rd l j) = j) →
    ∃ r, Ev (fun f => pole_Inverse.l0 f v l n i) (r, 0) ∧ Ev (fun f => pomaderef06_Inverse.l0 f n l v i) (r, 0) ∧ r.length = n ∧ ∀ j, j < n → rd r (rd l j) = j := by
  induction d with
  | zero =>
    intro i v h h1 h2
    obtain rfl : i = n := by omega
    refine ⟨v, Ev.step (f := fun _ => some (v, 0)) (fun f => ?_) (Ev.now _), Ev.step (f := fun _ => some (v, 0)) (fun f => ?_) (Ev.now _), h1, h2⟩
    · simp only [pole_Inverse.l0]; rw [if_neg (by omega)]
    · simp only [pomaderef06_Inverse.l0]; rw [if_neg (by omega)]
  | succ d ih =>
    intro i v h h1 h2
    have hi : i < n := by omega
    have hr := hl.range i hi
    have hlen := hl.len
    obtain ⟨c, hc⟩ : ∃ c : Nat, rd l i = c := ⟨(rd l i).toNat, by omega⟩
    obtain ⟨r, e1, e2, p1, p2⟩ := ih (i + 1) (v.set c i) (by omega) (by rw [List.length_set]; exact h1) (fun j hj => by
      have hrj := hl.range j (by omega)
      obtain ⟨cj, hcj⟩ : ∃ cj : Nat, rd l j = cj := ⟨(rd l j).toNat, by omega⟩
      rw [hcj, rd_set _ (by omega)]
      by_cases e : c = cj
      · rw [if_pos e]
        have := hl.inj i j hi (by omega) (by rw [hc, hcj, e])
        omega
      · rw [if_neg e]
        have hji : j ≠ i := fun hh => e (by subst hh; omega)
        have := h2 j (by omega)
        rwa [hcj] at this)
    refine ⟨r, Ev.step (fun f => ?_) e1, Ev.step (fun f => ?_) e2, p1, p2⟩
    · simp only [pole_Inverse.l0]
      rw [if_pos (by omega), if_pos (by omega), if_pos (by omega), hc, if_pos (by omega), if_pos (by omega), w64 (by omega), Int.toNat_natCast]
      rfl
    · simp only [pomaderef06_Inverse.l0]
      rw [if_pos (by omega), if_pos (by omega), if_pos (by omega), hc, if_pos (by omega), if_pos (by omega), w64 (by omega), Int.toNat_natCast]
      rfl

/-- The Inverse of a circle that may be listed. -/
theorem ev_Inverse (n : Nat) (k : Int) (h : Circ n k) (h2 : n ≤ 2000) : ∃ r, Ev (fun f => pole_Inverse.f f n k) (r, 0) ∧ Ev (fun f => pomaderef06_Inverse.l0 f n (jst k n n).1 (List.replicate n 0) 0) (r, 0) ∧ r.length = n ∧ ∀ j, j < n → rd r (rd (jst k n n).1 j) = j := by
  obtain ⟨r, e1, e2, p1, p2⟩ := inv_loops (by omega) (perm_order k n) n 0 (List.replicate n 0) (by omega) (by simp) (fun j hj => by omega)
  refine ⟨r, Ev.congr (fun f => ?_) e1, e2, p1, p2⟩
  simp only [pole_Inverse.f]
  rw [listed_ok h (by omega), Option.bind_some, if_pos rfl, if_pos (by omega), if_pos (by omega), Int.toNat_natCast]
  obtain ⟨h3, h4, h5, h6⟩ := h
  unfold pole_order.f
  rw [if_pos (by omega), Option.bind_some, Int.toNat_natCast, jst_out]
  rfl

end Go.Proofs.Ytndpnlpidphflaa.Pure
