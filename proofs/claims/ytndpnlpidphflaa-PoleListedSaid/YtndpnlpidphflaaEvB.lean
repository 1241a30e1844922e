/- What Halves, and the small helpers of the laws, come to. -/
import Derived.Test.YtndpnlpidphflaaPrint3
import Derived.Test.YtndpnlpidphflaaEvA
namespace Go.Proofs.Ytndpnlpidphflaa.Pure
open Go.RowKit Go.Proofs.Ytndpnlpidphflaa.Print Go.Proofs.Ytndpnlpidphflaa.Math Go.Proofs.YtndpnlpidphflaaW.PrintWords Go.Proofs.YtndpnlpidphflaaW.PrintLast Go.Proofs.YtndpnlpidphflaaW.PrintMore
set_option linter.unusedVariables false

theorem wf_u8 {a : Int} (h : (Lit.int .u8 a).wf = true) : 0 ≤ a ∧ a ≤ 255 := by
  simp [Lit.wf, IntKind.min, IntKind.max, IntKind.signed, IntKind.bits] at h; omega
theorem wf_u16 {a : Int} (h : (Lit.int .u16 a).wf = true) : 0 ≤ a ∧ a ≤ 65535 := by
  simp [Lit.wf, IntKind.min, IntKind.max, IntKind.signed, IntKind.bits] at h; omega
theorem wf_u64 {a : Int} (h : (Lit.int .u64 a).wf = true) : 0 ≤ a ∧ a ≤ 18446744073709551615 := by
  simp [Lit.wf, IntKind.min, IntKind.max, IntKind.signed, IntKind.bits] at h; omega

/-- p is the greatest power of 2 that is at most n. -/
def Pow (n p : Int) : Prop := (∃ j : Nat, p = 2 ^ j) ∧ p ≤ n ∧ n < 2 * p
theorem Pow_one {n p q : Int} (h : Pow n p) (h' : Pow n q) : p = q := by
  obtain ⟨⟨i, rfl⟩, h1, h2⟩ := h
  obtain ⟨⟨j, rfl⟩, h3, h4⟩ := h'
  have le : ∀ a b : Nat, (2 : Int) ^ a ≤ n → n < 2 * 2 ^ b → a ≤ b := by
    intro a b ha hb
    rcases Nat.lt_or_ge b a with h | h
    · exfalso
      have : (2 : Int) ^ (b + 1) ≤ 2 ^ a := by
        have := Nat.pow_le_pow_right (n := 2) (by omega) (show b + 1 ≤ a by omega)
        exact_mod_cast this
      rw [Int.pow_succ] at this
      omega
    · exact h
  rw [Nat.le_antisymm (le i j h1 h4) (le j i h3 h2)]

theorem pow_pos (j : Nat) : (1 : Int) ≤ 2 ^ j := by
  have := Nat.one_le_two_pow (n := j)
  exact_mod_cast this
theorem halves_loop (n : Int) (h1 : 1 ≤ n) (hn : n ≤ 1152921504606846976) (d : Nat) : ∀ j : Nat, (2 : Int) ^ j ≤ n → (n - 2 ^ j).toNat ≤ d →
    ∃ p, Pow n p ∧ Ev (fun f => pole_Halves.l0 f n (2 ^ j)) (2 * (n - p), 0) ∧ Ev (fun f => pomaderef06_Halves.l0 f n (2 ^ j)) (2 * (n - p), 0) := by
  induction d with
  | zero =>
    intro j hj hd
    have hp := pow_pos j
    refine ⟨2 ^ j, ⟨⟨j, rfl⟩, hj, by omega⟩, ?_, ?_⟩
    · refine Ev.step (f := fun _ => some (2 * (n - 2 ^ j), 0)) (fun f => ?_) (Ev.now _)
      simp only [pole_Halves.l0]
      rw [td (by omega), w64 (n := n / 2) (by omega), if_neg (by omega), w64 (n := n - 2 ^ j) (by omega), w64 (by omega)]
    · refine Ev.step (f := fun _ => some (2 * (n - 2 ^ j), 0)) (fun f => ?_) (Ev.now _)
      simp only [pomaderef06_Halves.l0]
      rw [w64 (n := 2 * 2 ^ j) (by omega), if_neg (by omega), w64 (n := n - 2 ^ j) (by omega), w64 (by omega)]
  | succ d ih =>
    intro j hj hd
    have hp := pow_pos j
    by_cases hc : 2 * 2 ^ j ≤ n
    · have e : (2 : Int) ^ (j + 1) = 2 ^ j * 2 := by rw [Int.pow_succ]
      obtain ⟨p, hP, e1, e2⟩ := ih (j + 1) (by omega) (by omega)
      rw [e] at e1 e2
      refine ⟨p, hP, Ev.step (fun f => ?_) e1, Ev.step (fun f => ?_) e2⟩
      · simp only [pole_Halves.l0]
        rw [td (by omega), w64 (n := n / 2) (by omega), if_pos (by omega), w64 (n := 2 ^ j * 2) (by omega)]
      · simp only [pomaderef06_Halves.l0]
        rw [w64 (n := 2 * 2 ^ j) (by omega), if_pos (by omega), Int.mul_comm 2]
    · refine ⟨2 ^ j, ⟨⟨j, rfl⟩, hj, by omega⟩, ?_, ?_⟩
      · refine Ev.step (f := fun _ => some (2 * (n - 2 ^ j), 0)) (fun f => ?_) (Ev.now _)
        simp only [pole_Halves.l0]
        rw [td (by omega), w64 (n := n / 2) (by omega), if_neg (by omega), w64 (n := n - 2 ^ j) (by omega), w64 (by omega)]
      · refine Ev.step (f := fun _ => some (2 * (n - 2 ^ j), 0)) (fun f => ?_) (Ev.now _)
        simp only [pomaderef06_Halves.l0]
        rw [w64 (n := 2 * 2 ^ j) (by omega), if_neg (by omega), w64 (n := n - 2 ^ j) (by omega), w64 (by omega)]

theorem ev_Halves (n : Int) (h1 : 1 ≤ n) (hn : n ≤ 1152921504606846976) : ∃ p, Pow n p ∧ Ev (fun f => pole_Halves.f f n) (2 * (n - p), 0) ∧ Ev (fun f => pomaderef06_Halves.f f n) (2 * (n - p), 0) := by
  obtain ⟨p, hP, e1, e2⟩ := halves_loop n h1 hn _ 0 (by simpa using h1) (Nat.le_refl _)
  refine ⟨p, hP, Ev.congr (f := fun f => pole_Halves.j0 f n false) (fun f => ?_) (Ev.step (fun f => ?_) e1), Ev.congr (f := fun f => pomaderef06_Halves.j0 f n false) (fun f => ?_) (Ev.step (fun f => ?_) e2)⟩
  · simp only [pole_Halves.f]; rw [if_neg (by omega), decide_eq_false (by omega)]
  · simp [pole_Halves.j0]
  · simp only [pomaderef06_Halves.f]; rw [if_neg (by omega), decide_eq_false (by omega)]
  · simp [pomaderef06_Halves.j0]
theorem no_Halves (n : Int) (h : ¬ (1 ≤ n ∧ n ≤ 1152921504606846976)) : Ev (fun f => pole_Halves.f f n) (0, 2) ∧ Ev (fun f => pomaderef06_Halves.f f n) (0, 2) := by
  refine ⟨Ev.congr (f := fun f => pole_Halves.j0 f n true) (fun f => ?_) (Ev.step (f := fun _ => some (0, 2)) (fun f => ?_) (Ev.now _)), Ev.congr (f := fun f => pomaderef06_Halves.j0 f n true) (fun f => ?_) (Ev.step (f := fun _ => some (0, 2)) (fun f => ?_) (Ev.now _))⟩
  · simp only [pole_Halves.f]
    by_cases h1 : n < 1
    · rw [if_pos h1]
    · rw [if_neg h1, decide_eq_true (by omega)]
  · simp [pole_Halves.j0]
  · simp only [pomaderef06_Halves.f]
    by_cases h1 : n < 1
    · rw [if_pos h1]
    · rw [if_neg h1, decide_eq_true (by omega)]
  · simp [pomaderef06_Halves.j0]

theorem great_v {n : Int} (h : 0 ≤ n ∧ n ≤ 18446744073709551615) : pomadelaw06_great.f n = some (1 + n % 1125899906842623) := by
  unfold pomadelaw06_great.f
  rw [tm h.1, w64 (n := n % 1125899906842623) (by omega), w64 (by omega)]
theorem step_v {k : Int} (h : 0 ≤ k ∧ k ≤ 65535) : pomadelaw06_step.f k = some (1 + k % 1000) := by
  unfold pomadelaw06_step.f
  rw [w64 (n := k) (by omega), tm h.1, w64 (by omega)]
theorem wrap_u64 {a : Int} (h : 0 ≤ a ∧ a ≤ 18446744073709551615) : IntKind.u64.wrap a = a := by
  simp [IntKind.wrap, IntKind.signed, IntKind.bits]; omega

/-- With the step 2: twice what is above the power of 2. -/
theorem two_at (n : Nat) : ∀ p : Int, Pow ((n : Int) + 1) p → It 2 n 0 1 = 2 * ((n : Int) + 1 - p) := by
  induction n with
  | zero =>
    intro p hp
    have : p = 1 := Pow_one hp ⟨⟨0, rfl⟩, by omega, by omega⟩
    subst this; simp [It]
  | succ n ih =>
    intro p hp
    rw [It_last]
    obtain ⟨⟨j, hj⟩, h1, h2⟩ := hp
    by_cases e : p = ((n + 1 : Nat) : Int) + 1
    · -- a power of 2: the one before is half of it
      cases j with
      | zero => simp at hj; omega
      | succ j =>
        have hq : p = 2 * 2 ^ j := by rw [hj, Int.pow_succ, Int.mul_comm]
        have := pow_pos j
        rw [ih (2 ^ j) ⟨⟨j, rfl⟩, by omega, by omega⟩]
        rw [show 2 * ((n : Int) + 1 - 2 ^ j) + 2 = 1 + (n : Int) + 1 by omega, show (1 : Int) + (n : Int) + 1 = 1 + n + 1 from rfl, Int.emod_self]
        omega
    · rw [ih p ⟨⟨j, hj⟩, by omega, by omega⟩, Int.emod_eq_of_lt (by omega) (by omega)]
      omega
end Go.Proofs.Ytndpnlpidphflaa.Pure
