/- A part of the proof that pomadetop.TopTold returns true for every input: HandTp. No condition beyond those that each theorem states. -/
import Derived.Test.YtldohjlcckbfaaaGreatDoorK27
namespace Go.Proofs.YtldohjlcckbfaaaGreatDoor.Hand
open Go.RowKit Go.Proofs.YtldohjlcckbfaaaGreatDoorW.PrintWords Go.Proofs.YtldohjlcckbfaaaGreatDoorW.PrintLast Go.Proofs.YtldohjlcckbfaaaGreatDoorW.PrintMore
set_option linter.unusedVariables false
set_option linter.unusedSimpArgs false
open Go.Proofs.YtldohjlcckbfaaaGreatDoor.Pre
open TopWords
def dB (d : Nat) : ByteArray := ⟨#[UInt8.ofNat (48 + d)]⟩
theorem itoaB_small (d : Nat) (h : d < 10) : itoaB (d : Int) = dB d := by
  unfold itoaB dB
  rw [Lib.itoa_nonneg, Lib.decDigits, dif_pos h]
theorem itoaB_pos (u : Nat) (h : 10 ≤ u) : itoaB (u : Int) = itoaB ((u / 10 : Nat) : Int) ++ dB (u % 10) := by
  apply WideShapes.bytes_inj
  unfold itoaB dB
  rw [Lib.itoa_nonneg, Lib.itoa_nonneg, Lib.decDigits, dif_neg (by omega)]
  simp
theorem itoaB_neg1 (d : Nat) (h : d < 10) (h1 : 1 ≤ d) : itoaB (-(d : Int)) = ⟨#[45]⟩ ++ dB d := by
  apply WideShapes.bytes_inj
  unfold itoaB dB
  rw [Lib.itoa_neg d h1, Lib.decDigits, dif_pos h]
  simp
theorem itoaB_neg2 (u : Nat) (h : 10 ≤ u) : itoaB (-(u : Int)) = itoaB (-((u / 10 : Nat) : Int)) ++ dB (u % 10) := by
  apply WideShapes.bytes_inj
  unfold itoaB dB
  rw [Lib.itoa_neg u (by omega), Lib.itoa_neg (u / 10) (by omega), Lib.decDigits, dif_neg (by omega)]
  simp
set_option maxHeartbeats 4000000 in
set_option maxRecDepth 100000 in
theorem digits_s0 (w : World) : Calls Tryz.prog 16 #[.int .i64 0] w fun e w' => e = .returned (.string (dB 0)) ∧ Below w.heap.size w w' := by
  go_enter Tryz.func16, Tryz.ntmps16
  go_wp2
  go_ret
  exact ⟨rfl, Below.refl _ _⟩
set_option maxHeartbeats 4000000 in
set_option maxRecDepth 100000 in
theorem digits_s1 (w : World) : Calls Tryz.prog 16 #[.int .i64 1] w fun e w' => e = .returned (.string (dB 1)) ∧ Below w.heap.size w w' := by
  go_enter Tryz.func16, Tryz.ntmps16
  go_wp2
  go_ret
  exact ⟨rfl, Below.refl _ _⟩
set_option maxHeartbeats 4000000 in
set_option maxRecDepth 100000 in
theorem digits_s2 (w : World) : Calls Tryz.prog 16 #[.int .i64 2] w fun e w' => e = .returned (.string (dB 2)) ∧ Below w.heap.size w w' := by
  go_enter Tryz.func16, Tryz.ntmps16
  go_wp2
  go_ret
  exact ⟨rfl, Below.refl _ _⟩
set_option maxHeartbeats 4000000 in
set_option maxRecDepth 100000 in
theorem digits_s3 (w : World) : Calls Tryz.prog 16 #[.int .i64 3] w fun e w' => e = .returned (.string (dB 3)) ∧ Below w.heap.size w w' := by
  go_enter Tryz.func16, Tryz.ntmps16
  go_wp2
  go_ret
  exact ⟨rfl, Below.refl _ _⟩
set_option maxHeartbeats 4000000 in
set_option maxRecDepth 100000 in
theorem digits_s4 (w : World) : Calls Tryz.prog 16 #[.int .i64 4] w fun e w' => e = .returned (.string (dB 4)) ∧ Below w.heap.size w w' := by
  go_enter Tryz.func16, Tryz.ntmps16
  go_wp2
  go_ret
  exact ⟨rfl, Below.refl _ _⟩
set_option maxHeartbeats 4000000 in
set_option maxRecDepth 100000 in
theorem digits_s5 (w : World) : Calls Tryz.prog 16 #[.int .i64 5] w fun e w' => e = .returned (.string (dB 5)) ∧ Below w.heap.size w w' := by
  go_enter Tryz.func16, Tryz.ntmps16
  go_wp2
  go_ret
  exact ⟨rfl, Below.refl _ _⟩
set_option maxHeartbeats 4000000 in
set_option maxRecDepth 100000 in
theorem digits_s6 (w : World) : Calls Tryz.prog 16 #[.int .i64 6] w fun e w' => e = .returned (.string (dB 6)) ∧ Below w.heap.size w w' := by
  go_enter Tryz.func16, Tryz.ntmps16
  go_wp2
  go_ret
  exact ⟨rfl, Below.refl _ _⟩
set_option maxHeartbeats 4000000 in
set_option maxRecDepth 100000 in
theorem digits_s7 (w : World) : Calls Tryz.prog 16 #[.int .i64 7] w fun e w' => e = .returned (.string (dB 7)) ∧ Below w.heap.size w w' := by
  go_enter Tryz.func16, Tryz.ntmps16
  go_wp2
  go_ret
  exact ⟨rfl, Below.refl _ _⟩
set_option maxHeartbeats 4000000 in
set_option maxRecDepth 100000 in
theorem digits_s8 (w : World) : Calls Tryz.prog 16 #[.int .i64 8] w fun e w' => e = .returned (.string (dB 8)) ∧ Below w.heap.size w w' := by
  go_enter Tryz.func16, Tryz.ntmps16
  go_wp2
  go_ret
  exact ⟨rfl, Below.refl _ _⟩
set_option maxHeartbeats 4000000 in
set_option maxRecDepth 100000 in
theorem digits_s9 (w : World) : Calls Tryz.prog 16 #[.int .i64 9] w fun e w' => e = .returned (.string (dB 9)) ∧ Below w.heap.size w w' := by
  go_enter Tryz.func16, Tryz.ntmps16
  go_wp2
  go_ret
  exact ⟨rfl, Below.refl _ _⟩
set_option maxHeartbeats 4000000 in
set_option maxRecDepth 100000 in
theorem digits_n1 (w : World) : Calls Tryz.prog 16 #[.int .i64 (-1)] w fun e w' => e = .returned (.string (⟨#[45]⟩ ++ dB 1)) ∧ Below w.heap.size w w' := by
  go_enter Tryz.func16, Tryz.ntmps16
  go_wp2
  go_ret
  exact ⟨rfl, Below.refl _ _⟩
set_option maxHeartbeats 4000000 in
set_option maxRecDepth 100000 in
theorem digits_n2 (w : World) : Calls Tryz.prog 16 #[.int .i64 (-2)] w fun e w' => e = .returned (.string (⟨#[45]⟩ ++ dB 2)) ∧ Below w.heap.size w w' := by
  go_enter Tryz.func16, Tryz.ntmps16
  go_wp2
  go_ret
  exact ⟨rfl, Below.refl _ _⟩
set_option maxHeartbeats 4000000 in
set_option maxRecDepth 100000 in
theorem digits_n3 (w : World) : Calls Tryz.prog 16 #[.int .i64 (-3)] w fun e w' => e = .returned (.string (⟨#[45]⟩ ++ dB 3)) ∧ Below w.heap.size w w' := by
  go_enter Tryz.func16, Tryz.ntmps16
  go_wp2
  go_ret
  exact ⟨rfl, Below.refl _ _⟩
set_option maxHeartbeats 4000000 in
set_option maxRecDepth 100000 in
theorem digits_n4 (w : World) : Calls Tryz.prog 16 #[.int .i64 (-4)] w fun e w' => e = .returned (.string (⟨#[45]⟩ ++ dB 4)) ∧ Below w.heap.size w w' := by
  go_enter Tryz.func16, Tryz.ntmps16
  go_wp2
  go_ret
  exact ⟨rfl, Below.refl _ _⟩
set_option maxHeartbeats 4000000 in
set_option maxRecDepth 100000 in
theorem digits_n5 (w : World) : Calls Tryz.prog 16 #[.int .i64 (-5)] w fun e w' => e = .returned (.string (⟨#[45]⟩ ++ dB 5)) ∧ Below w.heap.size w w' := by
  go_enter Tryz.func16, Tryz.ntmps16
  go_wp2
  go_ret
  exact ⟨rfl, Below.refl _ _⟩
set_option maxHeartbeats 4000000 in
set_option maxRecDepth 100000 in
theorem digits_n6 (w : World) : Calls Tryz.prog 16 #[.int .i64 (-6)] w fun e w' => e = .returned (.string (⟨#[45]⟩ ++ dB 6)) ∧ Below w.heap.size w w' := by
  go_enter Tryz.func16, Tryz.ntmps16
  go_wp2
  go_ret
  exact ⟨rfl, Below.refl _ _⟩
set_option maxHeartbeats 4000000 in
set_option maxRecDepth 100000 in
theorem digits_n7 (w : World) : Calls Tryz.prog 16 #[.int .i64 (-7)] w fun e w' => e = .returned (.string (⟨#[45]⟩ ++ dB 7)) ∧ Below w.heap.size w w' := by
  go_enter Tryz.func16, Tryz.ntmps16
  go_wp2
  go_ret
  exact ⟨rfl, Below.refl _ _⟩
set_option maxHeartbeats 4000000 in
set_option maxRecDepth 100000 in
theorem digits_n8 (w : World) : Calls Tryz.prog 16 #[.int .i64 (-8)] w fun e w' => e = .returned (.string (⟨#[45]⟩ ++ dB 8)) ∧ Below w.heap.size w w' := by
  go_enter Tryz.func16, Tryz.ntmps16
  go_wp2
  go_ret
  exact ⟨rfl, Below.refl _ _⟩
set_option maxHeartbeats 4000000 in
set_option maxRecDepth 100000 in
theorem digits_n9 (w : World) : Calls Tryz.prog 16 #[.int .i64 (-9)] w fun e w' => e = .returned (.string (⟨#[45]⟩ ++ dB 9)) ∧ Below w.heap.size w w' := by
  go_enter Tryz.func16, Tryz.ntmps16
  go_wp2
  go_ret
  exact ⟨rfl, Below.refl _ _⟩
set_option maxHeartbeats 4000000 in
set_option maxRecDepth 100000 in
theorem digits_p0 (u : Nat) (h : 10 ≤ u) (h2 : u ≤ 4611686018427387904) (hd : u % 10 = 0) (w : World)
    (hR : ∀ W, Calls Tryz.prog 16 #[.int .i64 ((u / 10 : Nat) : Int)] W fun e W' => e = .returned (.string (itoaB ((u / 10 : Nat) : Int))) ∧ Below W.heap.size W W') :
    Calls Tryz.prog 16 #[.int .i64 (u : Int)] w fun e w' => e = .returned (.string (itoaB ((u / 10 : Nat) : Int) ++ dB 0)) ∧ Below w.heap.size w w' := by
  have d1 : decide ((u : Int) < -9) = false := decide_eq_false (by omega)
  have d2 : decide ((u : Int) < 0) = false := decide_eq_false (by omega)
  have d3 : decide (9 < (u : Int)) = true := decide_eq_true (by omega)
  have m1 : (u : Int).tmod 10 = 0 := by rw [Int.tmod_eq_emod_of_nonneg (by omega)]; omega
  have q1 : (u : Int).tdiv 10 = ((u / 10 : Nat) : Int) := by rw [Int.tdiv_eq_ediv_of_nonneg (by omega)]; omega
  have q2 : wrap64 ((u : Int) / 10) = ((u / 10 : Nat) : Int) := by have : (u : Int) / 10 = ((u / 10 : Nat) : Int) := by omega
                                                                   rw [this]; clear this; generalize hz : u / 10 = z; have : z ≤ u := by omega
                                                                   clear hz; unfold wrap64; omega
  have q3 : wrap64 ((u / 10 : Nat) : Int) = ((u / 10 : Nat) : Int) := by generalize hz : u / 10 = z; have : z ≤ u := by omega
                                                                         clear hz; unfold wrap64; omega
  obtain ⟨z, hz⟩ : ∃ z, ((u / 10 : Nat) : Int) = z := ⟨_, rfl⟩
  obtain ⟨s, hs⟩ : ∃ s, itoaB z = s := ⟨_, rfl⟩
  rw [hz] at hR q1 q2 q3 ⊢
  rw [hs] at hR ⊢
  have hsz : s.size ≤ 30 := by rw [← hs]; have := Lib.itoa_length_le z (by omega) (by omega); show (Lib.itoa z).toArray.size ≤ 30; rw [List.size_toArray]; omega
  have hadd : ∀ (W : World), (Op.stringOp .add s (dB 0)).run Tryz.prog W = .ok (.string (s ++ dB 0)) W := fun W => run_string_add_sum W _ _ (by have : (dB 0).size = 1 := rfl; omega)
  have HR := Aside0.mk hR
  clear hR hz hs
  go_enter Tryz.func16, Tryz.ntmps16
  go_wp2_with (go_at_call 16; refine (HR.out _).mono ?_; rintro e w1 ⟨rfl, hb1⟩; have HB1 := Aside0.mk hb1; clear hb1)
  go_ret
  exact ⟨rfl, HB1.out⟩
set_option maxHeartbeats 4000000 in
set_option maxRecDepth 100000 in
theorem digits_p1 (u : Nat) (h : 10 ≤ u) (h2 : u ≤ 4611686018427387904) (hd : u % 10 = 1) (w : World)
    (hR : ∀ W, Calls Tryz.prog 16 #[.int .i64 ((u / 10 : Nat) : Int)] W fun e W' => e = .returned (.string (itoaB ((u / 10 : Nat) : Int))) ∧ Below W.heap.size W W') :
    Calls Tryz.prog 16 #[.int .i64 (u : Int)] w fun e w' => e = .returned (.string (itoaB ((u / 10 : Nat) : Int) ++ dB 1)) ∧ Below w.heap.size w w' := by
  have d1 : decide ((u : Int) < -9) = false := decide_eq_false (by omega)
  have d2 : decide ((u : Int) < 0) = false := decide_eq_false (by omega)
  have d3 : decide (9 < (u : Int)) = true := decide_eq_true (by omega)
  have m1 : (u : Int).tmod 10 = 1 := by rw [Int.tmod_eq_emod_of_nonneg (by omega)]; omega
  have q1 : (u : Int).tdiv 10 = ((u / 10 : Nat) : Int) := by rw [Int.tdiv_eq_ediv_of_nonneg (by omega)]; omega
  have q2 : wrap64 ((u : Int) / 10) = ((u / 10 : Nat) : Int) := by have : (u : Int) / 10 = ((u / 10 : Nat) : Int) := by omega
                                                                   rw [this]; clear this; generalize hz : u / 10 = z; have : z ≤ u := by omega
                                                                   clear hz; unfold wrap64; omega
  have q3 : wrap64 ((u / 10 : Nat) : Int) = ((u / 10 : Nat) : Int) := by generalize hz : u / 10 = z; have : z ≤ u := by omega
                                                                         clear hz; unfold wrap64; omega
  obtain ⟨z, hz⟩ : ∃ z, ((u / 10 : Nat) : Int) = z := ⟨_, rfl⟩
  obtain ⟨s, hs⟩ : ∃ s, itoaB z = s := ⟨_, rfl⟩
  rw [hz] at hR q1 q2 q3 ⊢
  rw [hs] at hR ⊢
  have hsz : s.size ≤ 30 := by rw [← hs]; have := Lib.itoa_length_le z (by omega) (by omega); show (Lib.itoa z).toArray.size ≤ 30; rw [List.size_toArray]; omega
  have hadd : ∀ (W : World), (Op.stringOp .add s (dB 1)).run Tryz.prog W = .ok (.string (s ++ dB 1)) W := fun W => run_string_add_sum W _ _ (by have : (dB 1).size = 1 := rfl; omega)
  have HR := Aside0.mk hR
  clear hR hz hs
  go_enter Tryz.func16, Tryz.ntmps16
  go_wp2_with (go_at_call 16; refine (HR.out _).mono ?_; rintro e w1 ⟨rfl, hb1⟩; have HB1 := Aside0.mk hb1; clear hb1)
  go_ret
  exact ⟨rfl, HB1.out⟩
set_option maxHeartbeats 4000000 in
set_option maxRecDepth 100000 in
theorem digits_p2 (u : Nat) (h : 10 ≤ u) (h2 : u ≤ 4611686018427387904) (hd : u % 10 = 2) (w : World)
    (hR : ∀ W, Calls Tryz.prog 16 #[.int .i64 ((u / 10 : Nat) : Int)] W fun e W' => e = .returned (.string (itoaB ((u / 10 : Nat) : Int))) ∧ Below W.heap.size W W') :
    Calls Tryz.prog 16 #[.int .i64 (u : Int)] w fun e w' => e = .returned (.string (itoaB ((u / 10 : Nat) : Int) ++ dB 2)) ∧ Below w.heap.size w w' := by
  have d1 : decide ((u : Int) < -9) = false := decide_eq_false (by omega)
  have d2 : decide ((u : Int) < 0) = false := decide_eq_false (by omega)
  have d3 : decide (9 < (u : Int)) = true := decide_eq_true (by omega)
  have m1 : (u : Int).tmod 10 = 2 := by rw [Int.tmod_eq_emod_of_nonneg (by omega)]; omega
  have q1 : (u : Int).tdiv 10 = ((u / 10 : Nat) : Int) := by rw [Int.tdiv_eq_ediv_of_nonneg (by omega)]; omega
  have q2 : wrap64 ((u : Int) / 10) = ((u / 10 : Nat) : Int) := by have : (u : Int) / 10 = ((u / 10 : Nat) : Int) := by omega
                                                                   rw [this]; clear this; generalize hz : u / 10 = z; have : z ≤ u := by omega
                                                                   clear hz; unfold wrap64; omega
  have q3 : wrap64 ((u / 10 : Nat) : Int) = ((u / 10 : Nat) : Int) := by generalize hz : u / 10 = z; have : z ≤ u := by omega
                                                                         clear hz; unfold wrap64; omega
  obtain ⟨z, hz⟩ : ∃ z, ((u / 10 : Nat) : Int) = z := ⟨_, rfl⟩
  obtain ⟨s, hs⟩ : ∃ s, itoaB z = s := ⟨_, rfl⟩
  rw [hz] at hR q1 q2 q3 ⊢
  rw [hs] at hR ⊢
  have hsz : s.size ≤ 30 := by rw [← hs]; have := Lib.itoa_length_le z (by omega) (by omega); show (Lib.itoa z).toArray.size ≤ 30; rw [List.size_toArray]; omega
  have hadd : ∀ (W : World), (Op.stringOp .add s (dB 2)).run Tryz.prog W = .ok (.string (s ++ dB 2)) W := fun W => run_string_add_sum W _ _ (by have : (dB 2).size = 1 := rfl; omega)
  have HR := Aside0.mk hR
  clear hR hz hs
  go_enter Tryz.func16, Tryz.ntmps16
  go_wp2_with (go_at_call 16; refine (HR.out _).mono ?_; rintro e w1 ⟨rfl, hb1⟩; have HB1 := Aside0.mk hb1; clear hb1)
  go_ret
  exact ⟨rfl, HB1.out⟩
set_option maxHeartbeats 4000000 in
set_option maxRecDepth 100000 in
theorem digits_p3 (u : Nat) (h : 10 ≤ u) (h2 : u ≤ 4611686018427387904) (hd : u % 10 = 3) (w : World)
    (hR : ∀ W, Calls Tryz.prog 16 #[.int .i64 ((u / 10 : Nat) : Int)] W fun e W' => e = .returned (.string (itoaB ((u / 10 : Nat) : Int))) ∧ Below W.heap.size W W') :
    Calls Tryz.prog 16 #[.int .i64 (u : Int)] w fun e w' => e = .returned (.string (itoaB ((u / 10 : Nat) : Int) ++ dB 3)) ∧ Below w.heap.size w w' := by
  have d1 : decide ((u : Int) < -9) = false := decide_eq_false (by omega)
  have d2 : decide ((u : Int) < 0) = false := decide_eq_false (by omega)
  have d3 : decide (9 < (u : Int)) = true := decide_eq_true (by omega)
  have m1 : (u : Int).tmod 10 = 3 := by rw [Int.tmod_eq_emod_of_nonneg (by omega)]; omega
  have q1 : (u : Int).tdiv 10 = ((u / 10 : Nat) : Int) := by rw [Int.tdiv_eq_ediv_of_nonneg (by omega)]; omega
  have q2 : wrap64 ((u : Int) / 10) = ((u / 10 : Nat) : Int) := by have : (u : Int) / 10 = ((u / 10 : Nat) : Int) := by omega
                                                                   rw [this]; clear this; generalize hz : u / 10 = z; have : z ≤ u := by omega
                                                                   clear hz; unfold wrap64; omega
  have q3 : wrap64 ((u / 10 : Nat) : Int) = ((u / 10 : Nat) : Int) := by generalize hz : u / 10 = z; have : z ≤ u := by omega
                                                                         clear hz; unfold wrap64; omega
  obtain ⟨z, hz⟩ : ∃ z, ((u / 10 : Nat) : Int) = z := ⟨_, rfl⟩
  obtain ⟨s, hs⟩ : ∃ s, itoaB z = s := ⟨_, rfl⟩
  rw [hz] at hR q1 q2 q3 ⊢
  rw [hs] at hR ⊢
  have hsz : s.size ≤ 30 := by rw [← hs]; have := Lib.itoa_length_le z (by omega) (by omega); show (Lib.itoa z).toArray.size ≤ 30; rw [List.size_toArray]; omega
  have hadd : ∀ (W : World), (Op.stringOp .add s (dB 3)).run Tryz.prog W = .ok (.string (s ++ dB 3)) W := fun W => run_string_add_sum W _ _ (by have : (dB 3).size = 1 := rfl; omega)
  have HR := Aside0.mk hR
  clear hR hz hs
  go_enter Tryz.func16, Tryz.ntmps16
  go_wp2_with (go_at_call 16; refine (HR.out _).mono ?_; rintro e w1 ⟨rfl, hb1⟩; have HB1 := Aside0.mk hb1; clear hb1)
  go_ret
  exact ⟨rfl, HB1.out⟩
set_option maxHeartbeats 4000000 in
set_option maxRecDepth 100000 in
theorem digits_p4 (u : Nat) (h : 10 ≤ u) (h2 : u ≤ 4611686018427387904) (hd : u % 10 = 4) (w : World)
    (hR : ∀ W, Calls Tryz.prog 16 #[.int .i64 ((u / 10 : Nat) : Int)] W fun e W' => e = .returned (.string (itoaB ((u / 10 : Nat) : Int))) ∧ Below W.heap.size W W') :
    Calls Tryz.prog 16 #[.int .i64 (u : Int)] w fun e w' => e = .returned (.string (itoaB ((u / 10 : Nat) : Int) ++ dB 4)) ∧ Below w.heap.size w w' := by
  have d1 : decide ((u : Int) < -9) = false := decide_eq_false (by omega)
  have d2 : decide ((u : Int) < 0) = false := decide_eq_false (by omega)
  have d3 : decide (9 < (u : Int)) = true := decide_eq_true (by omega)
  have m1 : (u : Int).tmod 10 = 4 := by rw [Int.tmod_eq_emod_of_nonneg (by omega)]; omega
  have q1 : (u : Int).tdiv 10 = ((u / 10 : Nat) : Int) := by rw [Int.tdiv_eq_ediv_of_nonneg (by omega)]; omega
  have q2 : wrap64 ((u : Int) / 10) = ((u / 10 : Nat) : Int) := by have : (u : Int) / 10 = ((u / 10 : Nat) : Int) := by omega
                                                                   rw [this]; clear this; generalize hz : u / 10 = z; have : z ≤ u := by omega
                                                                   clear hz; unfold wrap64; omega
  have q3 : wrap64 ((u / 10 : Nat) : Int) = ((u / 10 : Nat) : Int) := by generalize hz : u / 10 = z; have : z ≤ u := by omega
                                                                         clear hz; unfold wrap64; omega
  obtain ⟨z, hz⟩ : ∃ z, ((u / 10 : Nat) : Int) = z := ⟨_, rfl⟩
  obtain ⟨s, hs⟩ : ∃ s, itoaB z = s := ⟨_, rfl⟩
  rw [hz] at hR q1 q2 q3 ⊢
  rw [hs] at hR ⊢
  have hsz : s.size ≤ 30 := by rw [← hs]; have := Lib.itoa_length_le z (by omega) (by omega); show (Lib.itoa z).toArray.size ≤ 30; rw [List.size_toArray]; omega
  have hadd : ∀ (W : World), (Op.stringOp .add s (dB 4)).run Tryz.prog W = .ok (.string (s ++ dB 4)) W := fun W => run_string_add_sum W _ _ (by have : (dB 4).size = 1 := rfl; omega)
  have HR := Aside0.mk hR
  clear hR hz hs
  go_enter Tryz.func16, Tryz.ntmps16
  go_wp2_with (go_at_call 16; refine (HR.out _).mono ?_; rintro e w1 ⟨rfl, hb1⟩; have HB1 := Aside0.mk hb1; clear hb1)
  go_ret
  exact ⟨rfl, HB1.out⟩
set_option maxHeartbeats 4000000 in
set_option maxRecDepth 100000 in
theorem digits_p5 (u : Nat) (h : 10 ≤ u) (h2 : u ≤ 4611686018427387904) (hd : u % 10 = 5) (w : World)
    (hR : ∀ W, Calls Tryz.prog 16 #[.int .i64 ((u / 10 : Nat) : Int)] W fun e W' => e = .returned (.string (itoaB ((u / 10 : Nat) : Int))) ∧ Below W.heap.size W W') :
    Calls Tryz.prog 16 #[.int .i64 (u : Int)] w fun e w' => e = .returned (.string (itoaB ((u / 10 : Nat) : Int) ++ dB 5)) ∧ Below w.heap.size w w' := by
  have d1 : decide ((u : Int) < -9) = false := decide_eq_false (by omega)
  have d2 : decide ((u : Int) < 0) = false := decide_eq_false (by omega)
  have d3 : decide (9 < (u : Int)) = true := decide_eq_true (by omega)
  have m1 : (u : Int).tmod 10 = 5 := by rw [Int.tmod_eq_emod_of_nonneg (by omega)]; omega
  have q1 : (u : Int).tdiv 10 = ((u / 10 : Nat) : Int) := by rw [Int.tdiv_eq_ediv_of_nonneg (by omega)]; omega
  have q2 : wrap64 ((u : Int) / 10) = ((u / 10 : Nat) : Int) := by have : (u : Int) / 10 = ((u / 10 : Nat) : Int) := by omega
                                                                   rw [this]; clear this; generalize hz : u / 10 = z; have : z ≤ u := by omega
                                                                   clear hz; unfold wrap64; omega
  have q3 : wrap64 ((u / 10 : Nat) : Int) = ((u / 10 : Nat) : Int) := by generalize hz : u / 10 = z; have : z ≤ u := by omega
                                                                         clear hz; unfold wrap64; omega
  obtain ⟨z, hz⟩ : ∃ z, ((u / 10 : Nat) : Int) = z := ⟨_, rfl⟩
  obtain ⟨s, hs⟩ : ∃ s, itoaB z = s := ⟨_, rfl⟩
  rw [hz] at hR q1 q2 q3 ⊢
  rw [hs] at hR ⊢
  have hsz : s.size ≤ 30 := by rw [← hs]; have := Lib.itoa_length_le z (by omega) (by omega); show (Lib.itoa z).toArray.size ≤ 30; rw [List.size_toArray]; omega
  have hadd : ∀ (W : World), (Op.stringOp .add s (dB 5)).run Tryz.prog W = .ok (.string (s ++ dB 5)) W := fun W => run_string_add_sum W _ _ (by have : (dB 5).size = 1 := rfl; omega)
  have HR := Aside0.mk hR
  clear hR hz hs
  go_enter Tryz.func16, Tryz.ntmps16
  go_wp2_with (go_at_call 16; refine (HR.out _).mono ?_; rintro e w1 ⟨rfl, hb1⟩; have HB1 := Aside0.mk hb1; clear hb1)
  go_ret
  exact ⟨rfl, HB1.out⟩
set_option maxHeartbeats 4000000 in
set_option maxRecDepth 100000 in
theorem digits_p6 (u : Nat) (h : 10 ≤ u) (h2 : u ≤ 4611686018427387904) (hd : u % 10 = 6) (w : World)
    (hR : ∀ W, Calls Tryz.prog 16 #[.int .i64 ((u / 10 : Nat) : Int)] W fun e W' => e = .returned (.string (itoaB ((u / 10 : Nat) : Int))) ∧ Below W.heap.size W W') :
    Calls Tryz.prog 16 #[.int .i64 (u : Int)] w fun e w' => e = .returned (.string (itoaB ((u / 10 : Nat) : Int) ++ dB 6)) ∧ Below w.heap.size w w' := by
  have d1 : decide ((u : Int) < -9) = false := decide_eq_false (by omega)
  have d2 : decide ((u : Int) < 0) = false := decide_eq_false (by omega)
  have d3 : decide (9 < (u : Int)) = true := decide_eq_true (by omega)
  have m1 : (u : Int).tmod 10 = 6 := by rw [Int.tmod_eq_emod_of_nonneg (by omega)]; omega
  have q1 : (u : Int).tdiv 10 = ((u / 10 : Nat) : Int) := by rw [Int.tdiv_eq_ediv_of_nonneg (by omega)]; omega
  have q2 : wrap64 ((u : Int) / 10) = ((u / 10 : Nat) : Int) := by have : (u : Int) / 10 = ((u / 10 : Nat) : Int) := by omega
                                                                   rw [this]; clear this; generalize hz : u / 10 = z; have : z ≤ u := by omega
                                                                   clear hz; unfold wrap64; omega
  have q3 : wrap64 ((u / 10 : Nat) : Int) = ((u / 10 : Nat) : Int) := by generalize hz : u / 10 = z; have : z ≤ u := by omega
                                                                         clear hz; unfold wrap64; omega
  obtain ⟨z, hz⟩ : ∃ z, ((u / 10 : Nat) : Int) = z := ⟨_, rfl⟩
  obtain ⟨s, hs⟩ : ∃ s, itoaB z = s := ⟨_, rfl⟩
  rw [hz] at hR q1 q2 q3 ⊢
  rw [hs] at hR ⊢
  have hsz : s.size ≤ 30 := by rw [← hs]; have := Lib.itoa_length_le z (by omega) (by omega); show (Lib.itoa z).toArray.size ≤ 30; rw [List.size_toArray]; omega
  have hadd : ∀ (W : World), (Op.stringOp .add s (dB 6)).run Tryz.prog W = .ok (.string (s ++ dB 6)) W := fun W => run_string_add_sum W _ _ (by have : (dB 6).size = 1 := rfl; omega)
  have HR := Aside0.mk hR
  clear hR hz hs
  go_enter Tryz.func16, Tryz.ntmps16
  go_wp2_with (go_at_call 16; refine (HR.out _).mono ?_; rintro e w1 ⟨rfl, hb1⟩; have HB1 := Aside0.mk hb1; clear hb1)
  go_ret
  exact ⟨rfl, HB1.out⟩
set_option maxHeartbeats 4000000 in
set_option maxRecDepth 100000 in
theorem digits_p7 (u : Nat) (h : 10 ≤ u) (h2 : u ≤ 4611686018427387904) (hd : u % 10 = 7) (w : World)
    (hR : ∀ W, Calls Tryz.prog 16 #[.int .i64 ((u / 10 : Nat) : Int)] W fun e W' => e = .returned (.string (itoaB ((u / 10 : Nat) : Int))) ∧ Below W.heap.size W W') :
    Calls Tryz.prog 16 #[.int .i64 (u : Int)] w fun e w' => e = .returned (.string (itoaB ((u / 10 : Nat) : Int) ++ dB 7)) ∧ Below w.heap.size w w' := by
  have d1 : decide ((u : Int) < -9) = false := decide_eq_false (by omega)
  have d2 : decide ((u : Int) < 0) = false := decide_eq_false (by omega)
  have d3 : decide (9 < (u : Int)) = true := decide_eq_true (by omega)
  have m1 : (u : Int).tmod 10 = 7 := by rw [Int.tmod_eq_emod_of_nonneg (by omega)]; omega
  have q1 : (u : Int).tdiv 10 = ((u / 10 : Nat) : Int) := by rw [Int.tdiv_eq_ediv_of_nonneg (by omega)]; omega
  have q2 : wrap64 ((u : Int) / 10) = ((u / 10 : Nat) : Int) := by have : (u : Int) / 10 = ((u / 10 : Nat) : Int) := by omega
                                                                   rw [this]; clear this; generalize hz : u / 10 = z; have : z ≤ u := by omega
                                                                   clear hz; unfold wrap64; omega
  have q3 : wrap64 ((u / 10 : Nat) : Int) = ((u / 10 : Nat) : Int) := by generalize hz : u / 10 = z; have : z ≤ u := by omega
                                                                         clear hz; unfold wrap64; omega
  obtain ⟨z, hz⟩ : ∃ z, ((u / 10 : Nat) : Int) = z := ⟨_, rfl⟩
  obtain ⟨s, hs⟩ : ∃ s, itoaB z = s := ⟨_, rfl⟩
  rw [hz] at hR q1 q2 q3 ⊢
  rw [hs] at hR ⊢
  have hsz : s.size ≤ 30 := by rw [← hs]; have := Lib.itoa_length_le z (by omega) (by omega); show (Lib.itoa z).toArray.size ≤ 30; rw [List.size_toArray]; omega
  have hadd : ∀ (W : World), (Op.stringOp .add s (dB 7)).run Tryz.prog W = .ok (.string (s ++ dB 7)) W := fun W => run_string_add_sum W _ _ (by have : (dB 7).size = 1 := rfl; omega)
  have HR := Aside0.mk hR
  clear hR hz hs
  go_enter Tryz.func16, Tryz.ntmps16
  go_wp2_with (go_at_call 16; refine (HR.out _).mono ?_; rintro e w1 ⟨rfl, hb1⟩; have HB1 := Aside0.mk hb1; clear hb1)
  go_ret
  exact ⟨rfl, HB1.out⟩
set_option maxHeartbeats 4000000 in
set_option maxRecDepth 100000 in
theorem digits_p8 (u : Nat) (h : 10 ≤ u) (h2 : u ≤ 4611686018427387904) (hd : u % 10 = 8) (w : World)
    (hR : ∀ W, Calls Tryz.prog 16 #[.int .i64 ((u / 10 : Nat) : Int)] W fun e W' => e = .returned (.string (itoaB ((u / 10 : Nat) : Int))) ∧ Below W.heap.size W W') :
    Calls Tryz.prog 16 #[.int .i64 (u : Int)] w fun e w' => e = .returned (.string (itoaB ((u / 10 : Nat) : Int) ++ dB 8)) ∧ Below w.heap.size w w' := by
  have d1 : decide ((u : Int) < -9) = false := decide_eq_false (by omega)
  have d2 : decide ((u : Int) < 0) = false := decide_eq_false (by omega)
  have d3 : decide (9 < (u : Int)) = true := decide_eq_true (by omega)
  have m1 : (u : Int).tmod 10 = 8 := by rw [Int.tmod_eq_emod_of_nonneg (by omega)]; omega
  have q1 : (u : Int).tdiv 10 = ((u / 10 : Nat) : Int) := by rw [Int.tdiv_eq_ediv_of_nonneg (by omega)]; omega
  have q2 : wrap64 ((u : Int) / 10) = ((u / 10 : Nat) : Int) := by have : (u : Int) / 10 = ((u / 10 : Nat) : Int) := by omega
                                                                   rw [this]; clear this; generalize hz : u / 10 = z; have : z ≤ u := by omega
                                                                   clear hz; unfold wrap64; omega
  have q3 : wrap64 ((u / 10 : Nat) : Int) = ((u / 10 : Nat) : Int) := by generalize hz : u / 10 = z; have : z ≤ u := by omega
                                                                         clear hz; unfold wrap64; omega
  obtain ⟨z, hz⟩ : ∃ z, ((u / 10 : Nat) : Int) = z := ⟨_, rfl⟩
  obtain ⟨s, hs⟩ : ∃ s, itoaB z = s := ⟨_, rfl⟩
  rw [hz] at hR q1 q2 q3 ⊢
  rw [hs] at hR ⊢
  have hsz : s.size ≤ 30 := by rw [← hs]; have := Lib.itoa_length_le z (by omega) (by omega); show (Lib.itoa z).toArray.size ≤ 30; rw [List.size_toArray]; omega
  have hadd : ∀ (W : World), (Op.stringOp .add s (dB 8)).run Tryz.prog W = .ok (.string (s ++ dB 8)) W := fun W => run_string_add_sum W _ _ (by have : (dB 8).size = 1 := rfl; omega)
  have HR := Aside0.mk hR
  clear hR hz hs
  go_enter Tryz.func16, Tryz.ntmps16
  go_wp2_with (go_at_call 16; refine (HR.out _).mono ?_; rintro e w1 ⟨rfl, hb1⟩; have HB1 := Aside0.mk hb1; clear hb1)
  go_ret
  exact ⟨rfl, HB1.out⟩
set_option maxHeartbeats 4000000 in
set_option maxRecDepth 100000 in
theorem digits_p9 (u : Nat) (h : 10 ≤ u) (h2 : u ≤ 4611686018427387904) (hd : u % 10 = 9) (w : World)
    (hR : ∀ W, Calls Tryz.prog 16 #[.int .i64 ((u / 10 : Nat) : Int)] W fun e W' => e = .returned (.string (itoaB ((u / 10 : Nat) : Int))) ∧ Below W.heap.size W W') :
    Calls Tryz.prog 16 #[.int .i64 (u : Int)] w fun e w' => e = .returned (.string (itoaB ((u / 10 : Nat) : Int) ++ dB 9)) ∧ Below w.heap.size w w' := by
  have d1 : decide ((u : Int) < -9) = false := decide_eq_false (by omega)
  have d2 : decide ((u : Int) < 0) = false := decide_eq_false (by omega)
  have d3 : decide (9 < (u : Int)) = true := decide_eq_true (by omega)
  have m1 : (u : Int).tmod 10 = 9 := by rw [Int.tmod_eq_emod_of_nonneg (by omega)]; omega
  have q1 : (u : Int).tdiv 10 = ((u / 10 : Nat) : Int) := by rw [Int.tdiv_eq_ediv_of_nonneg (by omega)]; omega
  have q2 : wrap64 ((u : Int) / 10) = ((u / 10 : Nat) : Int) := by have : (u : Int) / 10 = ((u / 10 : Nat) : Int) := by omega
                                                                   rw [this]; clear this; generalize hz : u / 10 = z; have : z ≤ u := by omega
                                                                   clear hz; unfold wrap64; omega
  have q3 : wrap64 ((u / 10 : Nat) : Int) = ((u / 10 : Nat) : Int) := by generalize hz : u / 10 = z; have : z ≤ u := by omega
                                                                         clear hz; unfold wrap64; omega
  obtain ⟨z, hz⟩ : ∃ z, ((u / 10 : Nat) : Int) = z := ⟨_, rfl⟩
  obtain ⟨s, hs⟩ : ∃ s, itoaB z = s := ⟨_, rfl⟩
  rw [hz] at hR q1 q2 q3 ⊢
  rw [hs] at hR ⊢
  have hsz : s.size ≤ 30 := by rw [← hs]; have := Lib.itoa_length_le z (by omega) (by omega); show (Lib.itoa z).toArray.size ≤ 30; rw [List.size_toArray]; omega
  have hadd : ∀ (W : World), (Op.stringOp .add s (dB 9)).run Tryz.prog W = .ok (.string (s ++ dB 9)) W := fun W => run_string_add_sum W _ _ (by have : (dB 9).size = 1 := rfl; omega)
  have HR := Aside0.mk hR
  clear hR hz hs
  go_enter Tryz.func16, Tryz.ntmps16
  go_wp2_with (go_at_call 16; refine (HR.out _).mono ?_; rintro e w1 ⟨rfl, hb1⟩; have HB1 := Aside0.mk hb1; clear hb1)
  go_ret
  exact ⟨rfl, HB1.out⟩
set_option maxHeartbeats 4000000 in
set_option maxRecDepth 100000 in
theorem digits_m0 (n z : Int) (h : n < -9) (hq : n.tdiv 10 = z) (hm : n.tmod 10 = -0) (z0 : -1000000000000000000 ≤ z) (z1 : z ≤ 1000000000000000000) (w : World)
    (hR : ∀ W, Calls Tryz.prog 16 #[.int .i64 z] W fun e W' => e = .returned (.string (itoaB z)) ∧ Below W.heap.size W W') :
    Calls Tryz.prog 16 #[.int .i64 n] w fun e w' => e = .returned (.string (itoaB z ++ dB 0)) ∧ Below w.heap.size w w' := by
  have d1 : decide (n < -9) = true := decide_eq_true (by omega)
  have q3 : IntKind.i64.wrap z = z := IntWalk.i64_in _ (by omega)
  have q4 : IntKind.i64.wrap 0 = 0 := by decide
  have q5 : IntKind.i64.wrap (0 + 1) = 1 := by decide
  have q6 : IntKind.i64.wrap 1 = 1 := by decide
  obtain ⟨s, hs⟩ : ∃ s, itoaB z = s := ⟨_, rfl⟩
  rw [hs] at hR ⊢
  have hsz : s.size ≤ 30 := by rw [← hs]; have := Lib.itoa_length_le z (by omega) (by omega); show (Lib.itoa z).toArray.size ≤ 30; rw [List.size_toArray]; omega
  have hadd : ∀ (W : World), (Op.stringOp .add s (ByteArray.extract ⟨#[48, 49, 50, 51, 52, 53, 54, 55, 56, 57]⟩ 0 1)).run Tryz.prog W = .ok (.string (s ++ (ByteArray.extract ⟨#[48, 49, 50, 51, 52, 53, 54, 55, 56, 57]⟩ 0 1))) W := fun W => run_string_add_sum W _ _ (by have : (ByteArray.extract ⟨#[48, 49, 50, 51, 52, 53, 54, 55, 56, 57]⟩ 0 1).size = 1 := (by decide +kernel); omega)
  have HR := Aside0.mk hR
  clear hR hs
  go_enter Tryz.func16, Tryz.ntmps16
  go_wp2
  go_region_held3 (fun w' => True) (first | trivial) (((with_reducible refine (HR.out _).mono ?_); rintro e w1 ⟨rfl, hb1⟩; have HB1 := Aside0.mk (show Below w.heap.size w w1 from (below_drew (Below.refl _ w)).trans hb1); clear hb1))
  go_wp2
  go_ret
  exact ⟨rfl, HB1.out⟩
set_option maxHeartbeats 4000000 in
set_option maxRecDepth 100000 in
theorem digits_m1 (n z : Int) (h : n < -9) (hq : n.tdiv 10 = z) (hm : n.tmod 10 = -1) (z0 : -1000000000000000000 ≤ z) (z1 : z ≤ 1000000000000000000) (w : World)
    (hR : ∀ W, Calls Tryz.prog 16 #[.int .i64 z] W fun e W' => e = .returned (.string (itoaB z)) ∧ Below W.heap.size W W') :
    Calls Tryz.prog 16 #[.int .i64 n] w fun e w' => e = .returned (.string (itoaB z ++ dB 1)) ∧ Below w.heap.size w w' := by
  have d1 : decide (n < -9) = true := decide_eq_true (by omega)
  have q3 : IntKind.i64.wrap z = z := IntWalk.i64_in _ (by omega)
  have q4 : IntKind.i64.wrap 1 = 1 := by decide
  have q5 : IntKind.i64.wrap (1 + 1) = 2 := by decide
  have q6 : IntKind.i64.wrap 2 = 2 := by decide
  obtain ⟨s, hs⟩ : ∃ s, itoaB z = s := ⟨_, rfl⟩
  rw [hs] at hR ⊢
  have hsz : s.size ≤ 30 := by rw [← hs]; have := Lib.itoa_length_le z (by omega) (by omega); show (Lib.itoa z).toArray.size ≤ 30; rw [List.size_toArray]; omega
  have hadd : ∀ (W : World), (Op.stringOp .add s (ByteArray.extract ⟨#[48, 49, 50, 51, 52, 53, 54, 55, 56, 57]⟩ 1 2)).run Tryz.prog W = .ok (.string (s ++ (ByteArray.extract ⟨#[48, 49, 50, 51, 52, 53, 54, 55, 56, 57]⟩ 1 2))) W := fun W => run_string_add_sum W _ _ (by have : (ByteArray.extract ⟨#[48, 49, 50, 51, 52, 53, 54, 55, 56, 57]⟩ 1 2).size = 1 := (by decide +kernel); omega)
  have HR := Aside0.mk hR
  clear hR hs
  go_enter Tryz.func16, Tryz.ntmps16
  go_wp2
  go_region_held3 (fun w' => True) (first | trivial) (((with_reducible refine (HR.out _).mono ?_); rintro e w1 ⟨rfl, hb1⟩; have HB1 := Aside0.mk (show Below w.heap.size w w1 from (below_drew (Below.refl _ w)).trans hb1); clear hb1))
  go_wp2
  go_ret
  exact ⟨rfl, HB1.out⟩
set_option maxHeartbeats 4000000 in
set_option maxRecDepth 100000 in
theorem digits_m2 (n z : Int) (h : n < -9) (hq : n.tdiv 10 = z) (hm : n.tmod 10 = -2) (z0 : -1000000000000000000 ≤ z) (z1 : z ≤ 1000000000000000000) (w : World)
    (hR : ∀ W, Calls Tryz.prog 16 #[.int .i64 z] W fun e W' => e = .returned (.string (itoaB z)) ∧ Below W.heap.size W W') :
    Calls Tryz.prog 16 #[.int .i64 n] w fun e w' => e = .returned (.string (itoaB z ++ dB 2)) ∧ Below w.heap.size w w' := by
  have d1 : decide (n < -9) = true := decide_eq_true (by omega)
  have q3 : IntKind.i64.wrap z = z := IntWalk.i64_in _ (by omega)
  have q4 : IntKind.i64.wrap 2 = 2 := by decide
  have q5 : IntKind.i64.wrap (2 + 1) = 3 := by decide
  have q6 : IntKind.i64.wrap 3 = 3 := by decide
  obtain ⟨s, hs⟩ : ∃ s, itoaB z = s := ⟨_, rfl⟩
  rw [hs] at hR ⊢
  have hsz : s.size ≤ 30 := by rw [← hs]; have := Lib.itoa_length_le z (by omega) (by omega); show (Lib.itoa z).toArray.size ≤ 30; rw [List.size_toArray]; omega
  have hadd : ∀ (W : World), (Op.stringOp .add s (ByteArray.extract ⟨#[48, 49, 50, 51, 52, 53, 54, 55, 56, 57]⟩ 2 3)).run Tryz.prog W = .ok (.string (s ++ (ByteArray.extract ⟨#[48, 49, 50, 51, 52, 53, 54, 55, 56, 57]⟩ 2 3))) W := fun W => run_string_add_sum W _ _ (by have : (ByteArray.extract ⟨#[48, 49, 50, 51, 52, 53, 54, 55, 56, 57]⟩ 2 3).size = 1 := (by decide +kernel); omega)
  have HR := Aside0.mk hR
  clear hR hs
  go_enter Tryz.func16, Tryz.ntmps16
  go_wp2
  go_region_held3 (fun w' => True) (first | trivial) (((with_reducible refine (HR.out _).mono ?_); rintro e w1 ⟨rfl, hb1⟩; have HB1 := Aside0.mk (show Below w.heap.size w w1 from (below_drew (Below.refl _ w)).trans hb1); clear hb1))
  go_wp2
  go_ret
  exact ⟨rfl, HB1.out⟩
set_option maxHeartbeats 4000000 in
set_option maxRecDepth 100000 in
theorem digits_m3 (n z : Int) (h : n < -9) (hq : n.tdiv 10 = z) (hm : n.tmod 10 = -3) (z0 : -1000000000000000000 ≤ z) (z1 : z ≤ 1000000000000000000) (w : World)
    (hR : ∀ W, Calls Tryz.prog 16 #[.int .i64 z] W fun e W' => e = .returned (.string (itoaB z)) ∧ Below W.heap.size W W') :
    Calls Tryz.prog 16 #[.int .i64 n] w fun e w' => e = .returned (.string (itoaB z ++ dB 3)) ∧ Below w.heap.size w w' := by
  have d1 : decide (n < -9) = true := decide_eq_true (by omega)
  have q3 : IntKind.i64.wrap z = z := IntWalk.i64_in _ (by omega)
  have q4 : IntKind.i64.wrap 3 = 3 := by decide
  have q5 : IntKind.i64.wrap (3 + 1) = 4 := by decide
  have q6 : IntKind.i64.wrap 4 = 4 := by decide
  obtain ⟨s, hs⟩ : ∃ s, itoaB z = s := ⟨_, rfl⟩
  rw [hs] at hR ⊢
  have hsz : s.size ≤ 30 := by rw [← hs]; have := Lib.itoa_length_le z (by omega) (by omega); show (Lib.itoa z).toArray.size ≤ 30; rw [List.size_toArray]; omega
  have hadd : ∀ (W : World), (Op.stringOp .add s (ByteArray.extract ⟨#[48, 49, 50, 51, 52, 53, 54, 55, 56, 57]⟩ 3 4)).run Tryz.prog W = .ok (.string (s ++ (ByteArray.extract ⟨#[48, 49, 50, 51, 52, 53, 54, 55, 56, 57]⟩ 3 4))) W := fun W => run_string_add_sum W _ _ (by have : (ByteArray.extract ⟨#[48, 49, 50, 51, 52, 53, 54, 55, 56, 57]⟩ 3 4).size = 1 := (by decide +kernel); omega)
  have HR := Aside0.mk hR
  clear hR hs
  go_enter Tryz.func16, Tryz.ntmps16
  go_wp2
  go_region_held3 (fun w' => True) (first | trivial) (((with_reducible refine (HR.out _).mono ?_); rintro e w1 ⟨rfl, hb1⟩; have HB1 := Aside0.mk (show Below w.heap.size w w1 from (below_drew (Below.refl _ w)).trans hb1); clear hb1))
  go_wp2
  go_ret
  exact ⟨rfl, HB1.out⟩
set_option maxHeartbeats 4000000 in
set_option maxRecDepth 100000 in
theorem digits_m4 (n z : Int) (h : n < -9) (hq : n.tdiv 10 = z) (hm : n.tmod 10 = -4) (z0 : -1000000000000000000 ≤ z) (z1 : z ≤ 1000000000000000000) (w : World)
    (hR : ∀ W, Calls Tryz.prog 16 #[.int .i64 z] W fun e W' => e = .returned (.string (itoaB z)) ∧ Below W.heap.size W W') :
    Calls Tryz.prog 16 #[.int .i64 n] w fun e w' => e = .returned (.string (itoaB z ++ dB 4)) ∧ Below w.heap.size w w' := by
  have d1 : decide (n < -9) = true := decide_eq_true (by omega)
  have q3 : IntKind.i64.wrap z = z := IntWalk.i64_in _ (by omega)
  have q4 : IntKind.i64.wrap 4 = 4 := by decide
  have q5 : IntKind.i64.wrap (4 + 1) = 5 := by decide
  have q6 : IntKind.i64.wrap 5 = 5 := by decide
  obtain ⟨s, hs⟩ : ∃ s, itoaB z = s := ⟨_, rfl⟩
  rw [hs] at hR ⊢
  have hsz : s.size ≤ 30 := by rw [← hs]; have := Lib.itoa_length_le z (by omega) (by omega); show (Lib.itoa z).toArray.size ≤ 30; rw [List.size_toArray]; omega
  have hadd : ∀ (W : World), (Op.stringOp .add s (ByteArray.extract ⟨#[48, 49, 50, 51, 52, 53, 54, 55, 56, 57]⟩ 4 5)).run Tryz.prog W = .ok (.string (s ++ (ByteArray.extract ⟨#[48, 49, 50, 51, 52, 53, 54, 55, 56, 57]⟩ 4 5))) W := fun W => run_string_add_sum W _ _ (by have : (ByteArray.extract ⟨#[48, 49, 50, 51, 52, 53, 54, 55, 56, 57]⟩ 4 5).size = 1 := (by decide +kernel); omega)
  have HR := Aside0.mk hR
  clear hR hs
  go_enter Tryz.func16, Tryz.ntmps16
  go_wp2
  go_region_held3 (fun w' => True) (first | trivial) (((with_reducible refine (HR.out _).mono ?_); rintro e w1 ⟨rfl, hb1⟩; have HB1 := Aside0.mk (show Below w.heap.size w w1 from (below_drew (Below.refl _ w)).trans hb1); clear hb1))
  go_wp2
  go_ret
  exact ⟨rfl, HB1.out⟩
set_option maxHeartbeats 4000000 in
set_option maxRecDepth 100000 in
theorem digits_m5 (n z : Int) (h : n < -9) (hq : n.tdiv 10 = z) (hm : n.tmod 10 = -5) (z0 : -1000000000000000000 ≤ z) (z1 : z ≤ 1000000000000000000) (w : World)
    (hR : ∀ W, Calls Tryz.prog 16 #[.int .i64 z] W fun e W' => e = .returned (.string (itoaB z)) ∧ Below W.heap.size W W') :
    Calls Tryz.prog 16 #[.int .i64 n] w fun e w' => e = .returned (.string (itoaB z ++ dB 5)) ∧ Below w.heap.size w w' := by
  have d1 : decide (n < -9) = true := decide_eq_true (by omega)
  have q3 : IntKind.i64.wrap z = z := IntWalk.i64_in _ (by omega)
  have q4 : IntKind.i64.wrap 5 = 5 := by decide
  have q5 : IntKind.i64.wrap (5 + 1) = 6 := by decide
  have q6 : IntKind.i64.wrap 6 = 6 := by decide
  obtain ⟨s, hs⟩ : ∃ s, itoaB z = s := ⟨_, rfl⟩
  rw [hs] at hR ⊢
  have hsz : s.size ≤ 30 := by rw [← hs]; have := Lib.itoa_length_le z (by omega) (by omega); show (Lib.itoa z).toArray.size ≤ 30; rw [List.size_toArray]; omega
  have hadd : ∀ (W : World), (Op.stringOp .add s (ByteArray.extract ⟨#[48, 49, 50, 51, 52, 53, 54, 55, 56, 57]⟩ 5 6)).run Tryz.prog W = .ok (.string (s ++ (ByteArray.extract ⟨#[48, 49, 50, 51, 52, 53, 54, 55, 56, 57]⟩ 5 6))) W := fun W => run_string_add_sum W _ _ (by have : (ByteArray.extract ⟨#[48, 49, 50, 51, 52, 53, 54, 55, 56, 57]⟩ 5 6).size = 1 := (by decide +kernel); omega)
  have HR := Aside0.mk hR
  clear hR hs
  go_enter Tryz.func16, Tryz.ntmps16
  go_wp2
  go_region_held3 (fun w' => True) (first | trivial) (((with_reducible refine (HR.out _).mono ?_); rintro e w1 ⟨rfl, hb1⟩; have HB1 := Aside0.mk (show Below w.heap.size w w1 from (below_drew (Below.refl _ w)).trans hb1); clear hb1))
  go_wp2
  go_ret
  exact ⟨rfl, HB1.out⟩
set_option maxHeartbeats 4000000 in
set_option maxRecDepth 100000 in
theorem digits_m6 (n z : Int) (h : n < -9) (hq : n.tdiv 10 = z) (hm : n.tmod 10 = -6) (z0 : -1000000000000000000 ≤ z) (z1 : z ≤ 1000000000000000000) (w : World)
    (hR : ∀ W, Calls Tryz.prog 16 #[.int .i64 z] W fun e W' => e = .returned (.string (itoaB z)) ∧ Below W.heap.size W W') :
    Calls Tryz.prog 16 #[.int .i64 n] w fun e w' => e = .returned (.string (itoaB z ++ dB 6)) ∧ Below w.heap.size w w' := by
  have d1 : decide (n < -9) = true := decide_eq_true (by omega)
  have q3 : IntKind.i64.wrap z = z := IntWalk.i64_in _ (by omega)
  have q4 : IntKind.i64.wrap 6 = 6 := by decide
  have q5 : IntKind.i64.wrap (6 + 1) = 7 := by decide
  have q6 : IntKind.i64.wrap 7 = 7 := by decide
  obtain ⟨s, hs⟩ : ∃ s, itoaB z = s := ⟨_, rfl⟩
  rw [hs] at hR ⊢
  have hsz : s.size ≤ 30 := by rw [← hs]; have := Lib.itoa_length_le z (by omega) (by omega); show (Lib.itoa z).toArray.size ≤ 30; rw [List.size_toArray]; omega
  have hadd : ∀ (W : World), (Op.stringOp .add s (ByteArray.extract ⟨#[48, 49, 50, 51, 52, 53, 54, 55, 56, 57]⟩ 6 7)).run Tryz.prog W = .ok (.string (s ++ (ByteArray.extract ⟨#[48, 49, 50, 51, 52, 53, 54, 55, 56, 57]⟩ 6 7))) W := fun W => run_string_add_sum W _ _ (by have : (ByteArray.extract ⟨#[48, 49, 50, 51, 52, 53, 54, 55, 56, 57]⟩ 6 7).size = 1 := (by decide +kernel); omega)
  have HR := Aside0.mk hR
  clear hR hs
  go_enter Tryz.func16, Tryz.ntmps16
  go_wp2
  go_region_held3 (fun w' => True) (first | trivial) (((with_reducible refine (HR.out _).mono ?_); rintro e w1 ⟨rfl, hb1⟩; have HB1 := Aside0.mk (show Below w.heap.size w w1 from (below_drew (Below.refl _ w)).trans hb1); clear hb1))
  go_wp2
  go_ret
  exact ⟨rfl, HB1.out⟩
set_option maxHeartbeats 4000000 in
set_option maxRecDepth 100000 in
theorem digits_m7 (n z : Int) (h : n < -9) (hq : n.tdiv 10 = z) (hm : n.tmod 10 = -7) (z0 : -1000000000000000000 ≤ z) (z1 : z ≤ 1000000000000000000) (w : World)
    (hR : ∀ W, Calls Tryz.prog 16 #[.int .i64 z] W fun e W' => e = .returned (.string (itoaB z)) ∧ Below W.heap.size W W') :
    Calls Tryz.prog 16 #[.int .i64 n] w fun e w' => e = .returned (.string (itoaB z ++ dB 7)) ∧ Below w.heap.size w w' := by
  have d1 : decide (n < -9) = true := decide_eq_true (by omega)
  have q3 : IntKind.i64.wrap z = z := IntWalk.i64_in _ (by omega)
  have q4 : IntKind.i64.wrap 7 = 7 := by decide
  have q5 : IntKind.i64.wrap (7 + 1) = 8 := by decide
  have q6 : IntKind.i64.wrap 8 = 8 := by decide
  obtain ⟨s, hs⟩ : ∃ s, itoaB z = s := ⟨_, rfl⟩
  rw [hs] at hR ⊢
  have hsz : s.size ≤ 30 := by rw [← hs]; have := Lib.itoa_length_le z (by omega) (by omega); show (Lib.itoa z).toArray.size ≤ 30; rw [List.size_toArray]; omega
  have hadd : ∀ (W : World), (Op.stringOp .add s (ByteArray.extract ⟨#[48, 49, 50, 51, 52, 53, 54, 55, 56, 57]⟩ 7 8)).run Tryz.prog W = .ok (.string (s ++ (ByteArray.extract ⟨#[48, 49, 50, 51, 52, 53, 54, 55, 56, 57]⟩ 7 8))) W := fun W => run_string_add_sum W _ _ (by have : (ByteArray.extract ⟨#[48, 49, 50, 51, 52, 53, 54, 55, 56, 57]⟩ 7 8).size = 1 := (by decide +kernel); omega)
  have HR := Aside0.mk hR
  clear hR hs
  go_enter Tryz.func16, Tryz.ntmps16
  go_wp2
  go_region_held3 (fun w' => True) (first | trivial) (((with_reducible refine (HR.out _).mono ?_); rintro e w1 ⟨rfl, hb1⟩; have HB1 := Aside0.mk (show Below w.heap.size w w1 from (below_drew (Below.refl _ w)).trans hb1); clear hb1))
  go_wp2
  go_ret
  exact ⟨rfl, HB1.out⟩
set_option maxHeartbeats 4000000 in
set_option maxRecDepth 100000 in
theorem digits_m8 (n z : Int) (h : n < -9) (hq : n.tdiv 10 = z) (hm : n.tmod 10 = -8) (z0 : -1000000000000000000 ≤ z) (z1 : z ≤ 1000000000000000000) (w : World)
    (hR : ∀ W, Calls Tryz.prog 16 #[.int .i64 z] W fun e W' => e = .returned (.string (itoaB z)) ∧ Below W.heap.size W W') :
    Calls Tryz.prog 16 #[.int .i64 n] w fun e w' => e = .returned (.string (itoaB z ++ dB 8)) ∧ Below w.heap.size w w' := by
  have d1 : decide (n < -9) = true := decide_eq_true (by omega)
  have q3 : IntKind.i64.wrap z = z := IntWalk.i64_in _ (by omega)
  have q4 : IntKind.i64.wrap 8 = 8 := by decide
  have q5 : IntKind.i64.wrap (8 + 1) = 9 := by decide
  have q6 : IntKind.i64.wrap 9 = 9 := by decide
  obtain ⟨s, hs⟩ : ∃ s, itoaB z = s := ⟨_, rfl⟩
  rw [hs] at hR ⊢
  have hsz : s.size ≤ 30 := by rw [← hs]; have := Lib.itoa_length_le z (by omega) (by omega); show (Lib.itoa z).toArray.size ≤ 30; rw [List.size_toArray]; omega
  have hadd : ∀ (W : World), (Op.stringOp .add s (ByteArray.extract ⟨#[48, 49, 50, 51, 52, 53, 54, 55, 56, 57]⟩ 8 9)).run Tryz.prog W = .ok (.string (s ++ (ByteArray.extract ⟨#[48, 49, 50, 51, 52, 53, 54, 55, 56, 57]⟩ 8 9))) W := fun W => run_string_add_sum W _ _ (by have : (ByteArray.extract ⟨#[48, 49, 50, 51, 52, 53, 54, 55, 56, 57]⟩ 8 9).size = 1 := (by decide +kernel); omega)
  have HR := Aside0.mk hR
  clear hR hs
  go_enter Tryz.func16, Tryz.ntmps16
  go_wp2
  go_region_held3 (fun w' => True) (first | trivial) (((with_reducible refine (HR.out _).mono ?_); rintro e w1 ⟨rfl, hb1⟩; have HB1 := Aside0.mk (show Below w.heap.size w w1 from (below_drew (Below.refl _ w)).trans hb1); clear hb1))
  go_wp2
  go_ret
  exact ⟨rfl, HB1.out⟩
set_option maxHeartbeats 4000000 in
set_option maxRecDepth 100000 in
theorem digits_m9 (n z : Int) (h : n < -9) (hq : n.tdiv 10 = z) (hm : n.tmod 10 = -9) (z0 : -1000000000000000000 ≤ z) (z1 : z ≤ 1000000000000000000) (w : World)
    (hR : ∀ W, Calls Tryz.prog 16 #[.int .i64 z] W fun e W' => e = .returned (.string (itoaB z)) ∧ Below W.heap.size W W') :
    Calls Tryz.prog 16 #[.int .i64 n] w fun e w' => e = .returned (.string (itoaB z ++ dB 9)) ∧ Below w.heap.size w w' := by
  have d1 : decide (n < -9) = true := decide_eq_true (by omega)
  have q3 : IntKind.i64.wrap z = z := IntWalk.i64_in _ (by omega)
  have q4 : IntKind.i64.wrap 9 = 9 := by decide
  have q5 : IntKind.i64.wrap (9 + 1) = 10 := by decide
  have q6 : IntKind.i64.wrap 10 = 10 := by decide
  obtain ⟨s, hs⟩ : ∃ s, itoaB z = s := ⟨_, rfl⟩
  rw [hs] at hR ⊢
  have hsz : s.size ≤ 30 := by rw [← hs]; have := Lib.itoa_length_le z (by omega) (by omega); show (Lib.itoa z).toArray.size ≤ 30; rw [List.size_toArray]; omega
  have hadd : ∀ (W : World), (Op.stringOp .add s (ByteArray.extract ⟨#[48, 49, 50, 51, 52, 53, 54, 55, 56, 57]⟩ 9 10)).run Tryz.prog W = .ok (.string (s ++ (ByteArray.extract ⟨#[48, 49, 50, 51, 52, 53, 54, 55, 56, 57]⟩ 9 10))) W := fun W => run_string_add_sum W _ _ (by have : (ByteArray.extract ⟨#[48, 49, 50, 51, 52, 53, 54, 55, 56, 57]⟩ 9 10).size = 1 := (by decide +kernel); omega)
  have HR := Aside0.mk hR
  clear hR hs
  go_enter Tryz.func16, Tryz.ntmps16
  go_wp2
  go_region_held3 (fun w' => True) (first | trivial) (((with_reducible refine (HR.out _).mono ?_); rintro e w1 ⟨rfl, hb1⟩; have HB1 := Aside0.mk (show Below w.heap.size w w1 from (below_drew (Below.refl _ w)).trans hb1); clear hb1))
  go_wp2
  go_ret
  exact ⟨rfl, HB1.out⟩
end Go.Proofs.YtldohjlcckbfaaaGreatDoor.Hand
