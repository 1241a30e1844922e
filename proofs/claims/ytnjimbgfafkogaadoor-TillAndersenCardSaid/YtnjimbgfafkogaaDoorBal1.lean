-- Written by a program of this session (wip/tools/hprint.py over the kit's print.py); Lean checks it.
import Derived.Test.YtnjimbgfafkogaaDoorBal0
namespace Go.Proofs.YtnjimbgfafkogaaDoor.Bal
open Go.RowKit Go.Proofs.YtnjimbgfafkogaaDoor Go.Proofs.YtnjimbgfafkogaaDoorW.PrintWords Go.Proofs.YtnjimbgfafkogaaDoorW.PrintLast Go.Proofs.YtnjimbgfafkogaaDoorW.PrintMore
attribute [local go_sem] max2_int min2_int max_two min_two max_three min_three max_four min_four   -- for this text's walks alone
set_option linter.unusedVariables false
set_option linter.unusedSimpArgs false

/-! ### till_Ballot_1: function 53 -/
def till_Ballot_1.f (a0 : Int) (a1 : Int) : Option (Bool) := if a0 < a1 then (some true) else (some (decide (a0 > 30)))
set_option maxHeartbeats 8000000 in
set_option maxRecDepth 100000 in
theorem till_Ballot_1.calls (a0 : Int) (a1 : Int) (r : Bool) (w : World) (h : till_Ballot_1.f a0 a1 = some r) :
  Calls Tryd.prog 53 #[.int .i64 a0, .int .i64 a1] w fun e w' => e = .returned (.bool r) ∧ Drawn0 w w' := by
 have H : (if a0 < a1 then (some true) else (some (decide (a0 > 30)))) = some r := h
 clear h
 by_cases c3 : a0 < a1
 ·rw [if_pos c3] at H
  have c3b0 : decide (a0 < a1) = true := decide_eq_true c3
  clear c3
  obtain rfl := Option.some.inj H
  go_enter Tryd.func53, Tryd.ntmps53
  go_wp2
  go_ret
  exact ⟨by first | rfl | (simp; done) | (simp [*]; done), by repeat (first | exact Drawn0.refl _ | apply Drawn0.step)⟩
 ·rw [if_neg c3] at H
  have c3b0 : decide (a0 < a1) = false := decide_eq_false c3
  clear c3
  obtain rfl := Option.some.inj H
  go_enter Tryd.func53, Tryd.ntmps53
  go_wp2
  go_ret
  exact ⟨by first | rfl | (simp; done) | (simp [*]; done), by repeat (first | exact Drawn0.refl _ | apply Drawn0.step)⟩

/-! ### till_Ballot: function 24 -/
mutual
def till_Ballot.j0 : Nat → Int → Int → Int → Bool → Option (Int × Int)
 | 0, _, _, _, _ => none
 | k + 1, x0, x1, x2, x12 => if x12 = true then (some (0, 2)) else (if x0 = 0 then (till_Ballot.j1 k x0 x1 x2 (x1 == 0)) else (till_Ballot.j1 k x0 x1 x2 false))
def till_Ballot.j1 : Nat → Int → Int → Int → Bool → Option (Int × Int)
 | 0, _, _, _, _ => none
 | k + 1, x0, x1, x2, x26 => if x26 = true then (some (1, 0)) else (if x0 ≤ (wrap64 (x2 * x1)) then (some (0, 0)) else (if 0 ≤ (wrap64 (x0 + 1)) then (if (wrap64 (x0 + 1) : Int).toNat ≤ 11728124029610 then ((some (List.replicate (wrap64 (x0 + 1) : Int).toNat [] : List (List Int))).bind fun y104 => (till_Ballot.l0 k x0 x1 x2 y104 (y104.length : Int) 0)) else (none)) else (none)))
def till_Ballot.l0 : Nat → Int → Int → Int → List (List Int) → Int → Int → Option (Int × Int)
 | 0, _, _, _, _, _, _ => none
 | k + 1, x0, x1, x2, x9, x43, x44 => if x44 < x43 then (if 0 ≤ (wrap64 (x1 + 1)) then (if (wrap64 (x1 + 1) : Int).toNat ≤ 35184372088832 then (if 0 ≤ x44 then (if x44 < (x9.length : Int) then ((some (x9.set (x44 : Int).toNat (List.replicate (wrap64 (x1 + 1) : Int).toNat 0) : List (List Int))).bind fun y112 => (till_Ballot.l1 k x0 x1 x2 y112 x44 x43 x44 ((rd_L1 y112 x44).length : Int) 0)) else (none)) else (none)) else (none)) else (none)) else (if 0 ≤ x0 then (if x0 < (x9.length : Int) then (if 0 ≤ x1 then (if x1 < ((rd_L1 x9 x0).length : Int) then (some (rd (rd_L1 x9 x0) x1, 0)) else (none)) else (none)) else (none)) else (none))
def till_Ballot.l1 : Nat → Int → Int → Int → List (List Int) → Int → Int → Int → Int → Int → Option (Int × Int)
 | 0, _, _, _, _, _, _, _, _, _ => none
 | k + 1, x0, x1, x2, x9, x10, x43, x44, x57, x58 => if x58 < x57 then (if x10 = 0 then (till_Ballot.j4 k x0 x1 x2 x9 x10 x58 x43 x44 x57 x58 (x58 == 0)) else (till_Ballot.j4 k x0 x1 x2 x9 x10 x58 x43 x44 x57 x58 false)) else (till_Ballot.l0 k x0 x1 x2 x9 x43 (wrap64 (x44 + 1)))
def till_Ballot.j4 : Nat → Int → Int → Int → List (List Int) → Int → Int → Int → Int → Int → Int → Bool → Option (Int × Int)
 | 0, _, _, _, _, _, _, _, _, _, _, _ => none
 | k + 1, x0, x1, x2, x9, x10, x11, x43, x44, x57, x58, x61 => if x61 = true then (if 0 ≤ x10 then (if x10 < (x9.length : Int) then (if 0 ≤ x11 then (if x11 < ((rd_L1 x9 x10).length : Int) then (till_Ballot.l1 k x0 x1 x2 (x9.set (x10 : Int).toNat ((rd_L1 x9 x10).set (x11 : Int).toNat 1)) x10 x43 x44 x57 (wrap64 (x58 + 1))) else (none)) else (none)) else (none)) else (none)) else (if x10 > (wrap64 (x2 * x11)) then (if 0 ≤ x10 then (if x10 < (x9.length : Int) then (if 0 ≤ (wrap64 (x10 - 1)) then (if (wrap64 (x10 - 1)) < (x9.length : Int) then (if 0 ≤ x11 then (if x11 < ((rd_L1 x9 (wrap64 (x10 - 1))).length : Int) then (if x11 < ((rd_L1 x9 x10).length : Int) then ((some (x9.set (x10 : Int).toNat ((rd_L1 x9 x10).set (x11 : Int).toNat (rd (rd_L1 x9 (wrap64 (x10 - 1))) x11)) : List (List Int))).bind fun y123 => (if x11 > 0 then (if x11 < ((rd_L1 y123 x10).length : Int) then (if 0 ≤ (wrap64 (x11 - 1)) then (if (wrap64 (x11 - 1)) < ((rd_L1 y123 x10).length : Int) then (till_Ballot.l1 k x0 x1 x2 (y123.set (x10 : Int).toNat ((rd_L1 y123 x10).set (x11 : Int).toNat (wrap64 ((rd (rd_L1 y123 x10) x11) + (rd (rd_L1 y123 x10) (wrap64 (x11 - 1))))))) x10 x43 x44 x57 (wrap64 (x58 + 1))) else (none)) else (none)) else (none)) else (till_Ballot.l1 k x0 x1 x2 y123 x10 x43 x44 x57 (wrap64 (x58 + 1))))) else (none)) else (none)) else (none)) else (none)) else (none)) else (none)) else (none)) else (till_Ballot.l1 k x0 x1 x2 x9 x10 x43 x44 x57 (wrap64 (x58 + 1))))
end
def till_Ballot.f (k : Nat) (a0 : Int) (a1 : Int) (a2 : Int) : Option (Int × Int) := (till_Ballot_1.f a0 0).bind fun t101 => (if t101 = true then (till_Ballot.j0 k a0 a1 a2 true) else ((till_Ballot_1.f a1 0).bind fun t102 => (if t102 = true then (till_Ballot.j0 k a0 a1 a2 true) else ((till_Ballot_1.f a2 1).bind fun t103 => (till_Ballot.j0 k a0 a1 a2 t103)))))
theorem till_Ballot.mono_l : ∀ k, (∀ y0 y1 y2 y3, LeO (till_Ballot.j0 k y0 y1 y2 y3) (till_Ballot.j0 (k + 1) y0 y1 y2 y3)) ∧ (∀ y0 y1 y2 y3, LeO (till_Ballot.j1 k y0 y1 y2 y3) (till_Ballot.j1 (k + 1) y0 y1 y2 y3)) ∧ (∀ y0 y1 y2 y3 y4 y5, LeO (till_Ballot.l0 k y0 y1 y2 y3 y4 y5) (till_Ballot.l0 (k + 1) y0 y1 y2 y3 y4 y5)) ∧ (∀ y0 y1 y2 y3 y4 y5 y6 y7 y8, LeO (till_Ballot.l1 k y0 y1 y2 y3 y4 y5 y6 y7 y8) (till_Ballot.l1 (k + 1) y0 y1 y2 y3 y4 y5 y6 y7 y8)) ∧ (∀ y0 y1 y2 y3 y4 y5 y6 y7 y8 y9 y10, LeO (till_Ballot.j4 k y0 y1 y2 y3 y4 y5 y6 y7 y8 y9 y10) (till_Ballot.j4 (k + 1) y0 y1 y2 y3 y4 y5 y6 y7 y8 y9 y10))
 | 0 => ⟨fun _ _ _ _ r h => by simp [till_Ballot.j0] at h, fun _ _ _ _ r h => by simp [till_Ballot.j1] at h, fun _ _ _ _ _ _ r h => by simp [till_Ballot.l0] at h, fun _ _ _ _ _ _ _ _ _ r h => by simp [till_Ballot.l1] at h, fun _ _ _ _ _ _ _ _ _ _ _ r h => by simp [till_Ballot.j4] at h⟩
 | k + 1 => by
  obtain ⟨ih0, ih1, ih2, ih3, ih4⟩ := till_Ballot.mono_l k
  refine ⟨?_, ?_, ?_, ?_, ?_⟩
  ·intro y0 y1 y2 y3
   unfold till_Ballot.j0
   repeat' first
   | (with_reducible exact ih0 _ _ _ _)
   | (with_reducible exact ih1 _ _ _ _)
   | (with_reducible exact ih2 _ _ _ _ _ _)
   | (with_reducible exact ih3 _ _ _ _ _ _ _ _ _)
   | (with_reducible exact ih4 _ _ _ _ _ _ _ _ _ _ _)
   | (with_reducible exact LeO.refl _)
   | (with_reducible exact LeO.none _)
   | (with_reducible refine LeO.ite ?_ ?_)
   | (with_reducible refine LeO.bind ?_ (fun _ => ?_))
   | exact ih0 _ _ _ _
   | exact ih1 _ _ _ _
   | exact ih2 _ _ _ _ _ _
   | exact ih3 _ _ _ _ _ _ _ _ _
   | exact ih4 _ _ _ _ _ _ _ _ _ _ _
   | exact LeO.none _
   | refine LeO.ite ?_ ?_
   | refine LeO.bind ?_ (fun _ => ?_)
  ·intro y0 y1 y2 y3
   unfold till_Ballot.j1
   repeat' first
   | (with_reducible exact ih0 _ _ _ _)
   | (with_reducible exact ih1 _ _ _ _)
   | (with_reducible exact ih2 _ _ _ _ _ _)
   | (with_reducible exact ih3 _ _ _ _ _ _ _ _ _)
   | (with_reducible exact ih4 _ _ _ _ _ _ _ _ _ _ _)
   | (with_reducible exact LeO.refl _)
   | (with_reducible exact LeO.none _)
   | (with_reducible refine LeO.ite ?_ ?_)
   | (with_reducible refine LeO.bind ?_ (fun _ => ?_))
   | exact ih0 _ _ _ _
   | exact ih1 _ _ _ _
   | exact ih2 _ _ _ _ _ _
   | exact ih3 _ _ _ _ _ _ _ _ _
   | exact ih4 _ _ _ _ _ _ _ _ _ _ _
   | exact LeO.none _
   | refine LeO.ite ?_ ?_
   | refine LeO.bind ?_ (fun _ => ?_)
  ·intro y0 y1 y2 y3 y4 y5
   unfold till_Ballot.l0
   repeat' first
   | (with_reducible exact ih0 _ _ _ _)
   | (with_reducible exact ih1 _ _ _ _)
   | (with_reducible exact ih2 _ _ _ _ _ _)
   | (with_reducible exact ih3 _ _ _ _ _ _ _ _ _)
   | (with_reducible exact ih4 _ _ _ _ _ _ _ _ _ _ _)
   | (with_reducible exact LeO.refl _)
   | (with_reducible exact LeO.none _)
   | (with_reducible refine LeO.ite ?_ ?_)
   | (with_reducible refine LeO.bind ?_ (fun _ => ?_))
   | exact ih0 _ _ _ _
   | exact ih1 _ _ _ _
   | exact ih2 _ _ _ _ _ _
   | exact ih3 _ _ _ _ _ _ _ _ _
   | exact ih4 _ _ _ _ _ _ _ _ _ _ _
   | exact LeO.none _
   | refine LeO.ite ?_ ?_
   | refine LeO.bind ?_ (fun _ => ?_)
  ·intro y0 y1 y2 y3 y4 y5 y6 y7 y8
   unfold till_Ballot.l1
   repeat' first
   | (with_reducible exact ih0 _ _ _ _)
   | (with_reducible exact ih1 _ _ _ _)
   | (with_reducible exact ih2 _ _ _ _ _ _)
   | (with_reducible exact ih3 _ _ _ _ _ _ _ _ _)
   | (with_reducible exact ih4 _ _ _ _ _ _ _ _ _ _ _)
   | (with_reducible exact LeO.refl _)
   | (with_reducible exact LeO.none _)
   | (with_reducible refine LeO.ite ?_ ?_)
   | (with_reducible refine LeO.bind ?_ (fun _ => ?_))
   | exact ih0 _ _ _ _
   | exact ih1 _ _ _ _
   | exact ih2 _ _ _ _ _ _
   | exact ih3 _ _ _ _ _ _ _ _ _
   | exact ih4 _ _ _ _ _ _ _ _ _ _ _
   | exact LeO.none _
   | refine LeO.ite ?_ ?_
   | refine LeO.bind ?_ (fun _ => ?_)
  ·intro y0 y1 y2 y3 y4 y5 y6 y7 y8 y9 y10
   unfold till_Ballot.j4
   repeat' first
   | (with_reducible exact ih0 _ _ _ _)
   | (with_reducible exact ih1 _ _ _ _)
   | (with_reducible exact ih2 _ _ _ _ _ _)
   | (with_reducible exact ih3 _ _ _ _ _ _ _ _ _)
   | (with_reducible exact ih4 _ _ _ _ _ _ _ _ _ _ _)
   | (with_reducible exact LeO.refl _)
   | (with_reducible exact LeO.none _)
   | (with_reducible refine LeO.ite ?_ ?_)
   | (with_reducible refine LeO.bind ?_ (fun _ => ?_))
   | exact ih0 _ _ _ _
   | exact ih1 _ _ _ _
   | exact ih2 _ _ _ _ _ _
   | exact ih3 _ _ _ _ _ _ _ _ _
   | exact ih4 _ _ _ _ _ _ _ _ _ _ _
   | exact LeO.none _
   | refine LeO.ite ?_ ?_
   | refine LeO.bind ?_ (fun _ => ?_)
theorem till_Ballot.mono : ∀ a0 a1 a2 k, LeO (till_Ballot.f k a0 a1 a2) (till_Ballot.f (k + 1) a0 a1 a2) := by
 intro a0 a1 a2 k
 obtain ⟨ih0, ih1, ih2, ih3, ih4⟩ := till_Ballot.mono_l k
 unfold till_Ballot.f
 repeat' first
   | (with_reducible exact ih0 _ _ _ _)
   | (with_reducible exact ih1 _ _ _ _)
   | (with_reducible exact ih2 _ _ _ _ _ _)
   | (with_reducible exact ih3 _ _ _ _ _ _ _ _ _)
   | (with_reducible exact ih4 _ _ _ _ _ _ _ _ _ _ _)
   | (with_reducible exact LeO.refl _)
   | (with_reducible exact LeO.none _)
   | (with_reducible refine LeO.ite ?_ ?_)
   | (with_reducible refine LeO.bind ?_ (fun _ => ?_))
   | exact ih0 _ _ _ _
   | exact ih1 _ _ _ _
   | exact ih2 _ _ _ _ _ _
   | exact ih3 _ _ _ _ _ _ _ _ _
   | exact ih4 _ _ _ _ _ _ _ _ _ _ _
   | exact LeO.none _
   | refine LeO.ite ?_ ?_
   | refine LeO.bind ?_ (fun _ => ?_)
def till_Ballot.T19 : Bool × List (List Nat × List Nat) := (true, [([], []), ([], []), ([0, 1], [0, 1]), ([2], [2]), ([], []), ([], []), ([], []), ([6], [6]), ([5, 7], [5, 7]), ([8], [8]), ([], []), ([9, 10], [9, 10]), ([11], [11]), ([3, 4, 0, 1, 2, 3, 4, 5, 6, 7, 8, 9, 10, 11, 12], [3, 4]), ([13, 12, 0, 1, 2, 3, 4, 5, 6, 7, 8, 9, 10, 11, 12], [12, 13])])
def till_Ballot.B19 : List Nat := [0, 0, 3, 7, 0, 0, 0, 64, 224, 480, 0, 2016, 4064, 8191, 16383]
theorem till_Ballot.tab19 : rtab .any (opsOf Tryd.f24 19) = till_Ballot.T19 := by kernel_rfl
theorem till_Ballot.bits19 : waitsOk till_Ballot.T19.2 till_Ballot.B19 = true := by kernel_rfl
def till_Ballot.T21 : Bool × List (List Nat × List Nat) := (true, [([], []), ([], []), ([0, 1], [0, 1]), ([2], [2]), ([], []), ([3, 4], [3, 4]), ([5], [5]), ([], []), ([], []), ([7, 8], [7, 8]), ([9], [9]), ([], []), ([11], [11]), ([10, 12], [10, 12]), ([13], [13]), ([6, 14], [6, 14]), ([3, 4, 0, 1, 2, 3, 4, 5, 6, 7, 8, 9, 10, 11, 12, 13, 14, 15], [3, 4]), ([16, 15, 0, 1, 2, 3, 4, 5, 6, 7, 8, 9, 10, 11, 12, 13, 14, 15], [15, 16])])
def till_Ballot.B21 : List Nat := [0, 0, 3, 7, 0, 31, 63, 0, 0, 384, 896, 0, 2048, 8064, 16256, 32767, 65535, 131071]
theorem till_Ballot.tab21 : rtab .any (opsOf Tryd.f24 21) = till_Ballot.T21 := by kernel_rfl
theorem till_Ballot.bits21 : waitsOk till_Ballot.T21.2 till_Ballot.B21 = true := by kernel_rfl
set_option maxHeartbeats 8000000 in
set_option maxRecDepth 100000 in
theorem till_Ballot.calls (k : Nat) (a0 : Int) (a1 : Int) (a2 : Int) (r1 : Int) (r2 : Int) (w : World) (h : till_Ballot.f k a0 a1 a2 = some (r1, r2)) :
  Calls Tryd.prog 24 #[.int .i64 a0, .int .i64 a1, .int .i64 a2] w fun e w' => e = .returned (.tuple #[.int .i64 r1, .int .i64 r2]) ∧ Below w.heap.size w w' := by
 have HB := Aside0.mk (Below.refl w.heap.size w)
 have H : ((till_Ballot_1.f a0 0).bind fun t101 => (if t101 = true then (till_Ballot.j0 k a0 a1 a2 true) else ((till_Ballot_1.f a1 0).bind fun t102 => (if t102 = true then (till_Ballot.j0 k a0 a1 a2 true) else ((till_Ballot_1.f a2 1).bind fun t103 => (till_Ballot.j0 k a0 a1 a2 t103)))))) = some (r1, r2) := h
 clear h
 have HC4 := Aside0.mk H
 clear H
 go_enter Tryd.func24, Tryd.ntmps24
 go_upto_region 2 with (fail)
 go_cut [12] (fun v12 wc => ∃ (kq : Nat) (x12_3 : Bool), v12 = .bool x12_3 ∧ Aside0 (till_Ballot.j0 kq a0 a1 a2 x12_3 = some (r1, r2)) ∧ Aside0 (kq ≤ k) ∧ Aside0 (Below w.heap.size w wc))
 case first =>
  have H := HC4.out
  clear HC4
  replace H := Option.bind_eq_some_iff.mp H
  obtain ⟨t101, A50, H⟩ := H
  replace H : (if t101 = true then (till_Ballot.j0 k a0 a1 a2 true) else ((till_Ballot_1.f a1 0).bind fun t102 => (if t102 = true then (till_Ballot.j0 k a0 a1 a2 true) else ((till_Ballot_1.f a2 1).bind fun t103 => (till_Ballot.j0 k a0 a1 a2 t103))))) = some (r1, r2) := H
  have A5 := Aside0.mk A50
  clear A50
  by_cases c6 : t101 = true
  ·subst c6
   have H1 : (till_Ballot.j0 k a0 a1 a2 true) = some (r1, r2) := by rw [if_pos rfl] at H; exact H
   clear H
   have H := H1
   clear H1
   have H' := Aside0.mk H
   clear H
   go_wp2_with (first | ((with_reducible refine Goes.gate_slot rfl ?_); refine Goes.goesTL (some 15) rfl rfl Tryd.func53 (by kernel_rfl) rfl #[.int .i64 a0, .int .i64 0] rfl (by (try simp only [List.map_toArray, List.map_cons, List.map_nil]); first | done | rfl | (simp only [List.length_drop, List.length_take]; rfl)) ?_; (with_reducible refine (till_Ballot_1.calls a0 0 true _ A5.out).mono ?_); rintro e w' ⟨rfl, ⟨nd, rfl⟩⟩; refine ⟨_, rfl, ?_⟩))
   go_meet
   case rel => exact ⟨_, (true), (by first | rfl | (simp; done) | (simp [*]; done)), H', ⟨by first | omega | exact Nat.le_refl _⟩, ⟨by repeat (first | (with_reducible first | exact HB.out | apply below_alloc | apply pw_below_drewN | apply below_drew1) | exact HB.out)⟩⟩
  ·replace c6 := Bool.eq_false_iff.mpr c6
   subst c6
   have H1 : ((till_Ballot_1.f a1 0).bind fun t102 => (if t102 = true then (till_Ballot.j0 k a0 a1 a2 true) else ((till_Ballot_1.f a2 1).bind fun t103 => (till_Ballot.j0 k a0 a1 a2 t103)))) = some (r1, r2) := by rw [if_neg (show ¬ (false = true) by decide)] at H; exact H
   clear H
   have H := H1
   clear H1
   replace H := Option.bind_eq_some_iff.mp H
   obtain ⟨t102, A70, H⟩ := H
   replace H : (if t102 = true then (till_Ballot.j0 k a0 a1 a2 true) else ((till_Ballot_1.f a2 1).bind fun t103 => (till_Ballot.j0 k a0 a1 a2 t103))) = some (r1, r2) := H
   have A7 := Aside0.mk A70
   clear A70
   by_cases c8 : t102 = true
   ·subst c8
    have H1 : (till_Ballot.j0 k a0 a1 a2 true) = some (r1, r2) := by rw [if_pos rfl] at H; exact H
    clear H
    have H := H1
    clear H1
    have H' := Aside0.mk H
    clear H
    go_wp2_with (first | ((with_reducible refine Goes.gate_slot rfl ?_); refine Goes.goesTL (some 15) rfl rfl Tryd.func53 (by kernel_rfl) rfl #[.int .i64 a0, .int .i64 0] rfl (by (try simp only [List.map_toArray, List.map_cons, List.map_nil]); first | done | rfl | (simp only [List.length_drop, List.length_take]; rfl)) ?_; (with_reducible refine (till_Ballot_1.calls a0 0 false _ A5.out).mono ?_); rintro e w' ⟨rfl, ⟨nd, rfl⟩⟩; refine ⟨_, rfl, ?_⟩) | (go_at_call 53; (with_reducible refine (till_Ballot_1.calls a1 0 true _ A7.out).mono ?_); rintro e w' ⟨rfl, ⟨nd, rfl⟩⟩))
    go_meet
    case rel => exact ⟨_, (true), (by first | rfl | (simp; done) | (simp [*]; done)), H', ⟨by first | omega | exact Nat.le_refl _⟩, ⟨by repeat (first | (with_reducible first | exact HB.out | apply below_alloc | apply pw_below_drewN | apply below_drew1) | exact HB.out)⟩⟩
   ·replace c8 := Bool.eq_false_iff.mpr c8
    subst c8
    have H1 : ((till_Ballot_1.f a2 1).bind fun t103 => (till_Ballot.j0 k a0 a1 a2 t103)) = some (r1, r2) := by rw [if_neg (show ¬ (false = true) by decide)] at H; exact H
    clear H
    have H := H1
    clear H1
    replace H := Option.bind_eq_some_iff.mp H
    obtain ⟨t103, A90, H⟩ := H
    replace H : (till_Ballot.j0 k a0 a1 a2 t103) = some (r1, r2) := H
    have A9 := Aside0.mk A90
    clear A90
    have H' := Aside0.mk H
    clear H
    go_wp2_with (first | ((with_reducible refine Goes.gate_slot rfl ?_); refine Goes.goesTL (some 15) rfl rfl Tryd.func53 (by kernel_rfl) rfl #[.int .i64 a0, .int .i64 0] rfl (by (try simp only [List.map_toArray, List.map_cons, List.map_nil]); first | done | rfl | (simp only [List.length_drop, List.length_take]; rfl)) ?_; (with_reducible refine (till_Ballot_1.calls a0 0 false _ A5.out).mono ?_); rintro e w' ⟨rfl, ⟨nd, rfl⟩⟩; refine ⟨_, rfl, ?_⟩) | (go_at_call 53; (with_reducible refine (till_Ballot_1.calls a1 0 false _ A7.out).mono ?_); rintro e w' ⟨rfl, ⟨nd, rfl⟩⟩) | (go_at_call 53; (with_reducible refine (till_Ballot_1.calls a2 1 t103 _ A9.out).mono ?_); rintro e w' ⟨rfl, ⟨nd, rfl⟩⟩))
    go_meet
    case rel => exact ⟨_, (t103), (by first | rfl | (simp; done) | (simp [*]; done)), H', ⟨by first | omega | exact Nat.le_refl _⟩, ⟨by repeat (first | (with_reducible first | exact HB.out | apply below_alloc | apply pw_below_drewN | apply below_drew1) | exact HB.out)⟩⟩
 case rest =>
  clear HC4
  try clear c2
  try clear p2
  try clear c5
  try clear c6
  try clear c8
  obtain ⟨kq, x12_3, rfl, HA, HJ3, HB⟩ := hcut
  cases kq with
  | zero => exact absurd HA.out (by simp [till_Ballot.j0])
  | succ kj3 =>
   have H := HA.out
   clear HA
   simp only [till_Ballot.j0] at H
   by_cases c10 : x12_3 = true
   ·subst c10
    have H1 : (some (0, 2)) = some (r1, r2) := by rw [if_pos rfl] at H; exact H
    clear H
    have H := H1
    clear H1
    simp only [Option.some.injEq, Prod.mk.injEq] at H
    obtain ⟨rfl, rfl⟩ := H
    go_wp2
    go_ret2
    exact ⟨by first | rfl | (simp [errW_none, errW_some] <;> rfl) | (simp [*, errW_none, errW_some] <;> rfl), by repeat (first | (with_reducible first | exact HB.out | apply below_alloc | apply pw_below_drewN | apply below_drew1) | exact HB.out)⟩
   ·replace c10 := Bool.eq_false_iff.mpr c10
    subst c10
    have H1 : (if a0 = 0 then (till_Ballot.j1 kj3 a0 a1 a2 (a1 == 0)) else (till_Ballot.j1 kj3 a0 a1 a2 false)) = some (r1, r2) := by rw [if_neg (show ¬ (false = true) by decide)] at H; exact H
    clear H
    have H := H1
    clear H1
    have HC11 := Aside0.mk H
    clear H
    go_upto_region 4 with (fail)
    go_cut [26] (fun v26 wc => ∃ (kq : Nat) (x26_10 : Bool), v26 = .bool x26_10 ∧ Aside0 (till_Ballot.j1 kq a0 a1 a2 x26_10 = some (r1, r2)) ∧ Aside0 (kq ≤ kj3) ∧ Aside0 (Below w.heap.size w wc))
    case first =>
     have H := HC11.out
     clear HC11
     by_cases c12 : a0 = 0
     ·rw [if_pos c12] at H
      have c12b0 : (a0 == 0) = true := beq_iff_eq.mpr c12
      have c12b1 : (a0 != 0) = false := bne_eq_false_iff_eq.mpr c12
      clear c12
      (first | rw [c12b0] | (simp only [i64_w, i32_w]; rw [c12b0]) | skip)
      have H' := Aside0.mk H
      clear H
      go_wp2
      go_meet
      case rel => exact ⟨_, ((a1 == 0)), (by first | rfl | (simp; done) | (simp [*]; done)), H', ⟨by have := HJ3.out; first | omega | exact Nat.le_refl _⟩, ⟨by repeat (first | (with_reducible first | exact HB.out | apply below_alloc | apply pw_below_drewN | apply below_drew1) | exact HB.out)⟩⟩
     ·rw [if_neg c12] at H
      have c12b0 : (a0 == 0) = false := beq_eq_false_iff_ne.mpr c12
      have c12b1 : (a0 != 0) = true := bne_iff_ne.mpr c12
      (first | rw [c12b0] | (simp only [i64_w, i32_w]; rw [c12b0]) | skip)
      have H' := Aside0.mk H
      clear H
      go_wp2
      go_meet
      case rel => exact ⟨_, (false), (by first | rfl | (simp; done) | (simp [*]; done)), H', ⟨by have := HJ3.out; first | omega | exact Nat.le_refl _⟩, ⟨by repeat (first | (with_reducible first | exact HB.out | apply below_alloc | apply pw_below_drewN | apply below_drew1) | exact HB.out)⟩⟩
    case rest =>
     clear HC11
     try clear c1
     try clear c2
     try clear p2
     try clear c5
     try clear c6
     try clear c8
     try clear c10
     try clear c12
     try clear c12b0
     try clear c12b1
     try clear p2
     obtain ⟨kq, x26_10, rfl, HA, HJ10, HB⟩ := hcut
     cases kq with
     | zero => exact absurd HA.out (by simp [till_Ballot.j1])
     | succ kj10 =>
      have H := HA.out
      clear HA
      simp only [till_Ballot.j1] at H
      by_cases c13 : x26_10 = true
      ·subst c13
       have H1 : (some (1, 0)) = some (r1, r2) := by rw [if_pos rfl] at H; exact H
       clear H
       have H := H1
       clear H1
       simp only [Option.some.injEq, Prod.mk.injEq] at H
       obtain ⟨rfl, rfl⟩ := H
       go_wp2
       go_ret2
       exact ⟨by first | rfl | (simp [errW_none, errW_some] <;> rfl) | (simp [*, errW_none, errW_some] <;> rfl), by repeat (first | (with_reducible first | exact HB.out | apply below_alloc | apply pw_below_drewN | apply below_drew1) | exact HB.out)⟩
      ·replace c13 := Bool.eq_false_iff.mpr c13
       subst c13
       have H1 : (if a0 ≤ (wrap64 (a2 * a1)) then (some (0, 0)) else (if 0 ≤ (wrap64 (a0 + 1)) then (if (wrap64 (a0 + 1) : Int).toNat ≤ 11728124029610 then ((some (List.replicate (wrap64 (a0 + 1) : Int).toNat [] : List (List Int))).bind fun y104 => (till_Ballot.l0 kj10 a0 a1 a2 y104 (y104.length : Int) 0)) else (none)) else (none))) = some (r1, r2) := by rw [if_neg (show ¬ (false = true) by decide)] at H; exact H
       clear H
       have H := H1
       clear H1
       by_cases c14 : a0 ≤ (wrap64 (a2 * a1))
       ·rw [if_pos c14] at H
        have c14b0 : decide (a0 ≤ (wrap64 (a2 * a1))) = true := decide_eq_true c14
        clear c14
        simp only [Option.some.injEq, Prod.mk.injEq] at H
        obtain ⟨rfl, rfl⟩ := H
        go_wp2
        go_ret2
        exact ⟨by first | rfl | (simp [errW_none, errW_some] <;> rfl) | (simp [*, errW_none, errW_some] <;> rfl), by repeat (first | (with_reducible first | exact HB.out | apply below_alloc | apply pw_below_drewN | apply below_drew1) | exact HB.out)⟩
       ·rw [if_neg c14] at H
        have c14b0 : decide (a0 ≤ (wrap64 (a2 * a1))) = false := decide_eq_false c14
        clear c14
        obtain ⟨ji15, hji15⟩ : ∃ j_ : Int, (wrap64 (a0 + 1)) = j_ := ⟨_, rfl⟩
        replace H : (if 0 ≤ (ji15) then (if (ji15 : Int).toNat ≤ 11728124029610 then ((some (List.replicate (ji15 : Int).toNat [] : List (List Int))).bind fun y104 => (till_Ballot.l0 kj10 a0 a1 a2 y104 (y104.length : Int) 0)) else (none)) else (none)) = some (r1, r2) := by first | (rw [hji15] at H; exact H) | (simp only [hji15] at H ⊢; exact H)
        have hji15w : (IntKind.i64.wrap (a0 + 1)) = ji15 := (i64_w _).trans hji15
        by_cases c16 : 0 ≤ (ji15)
        ·rw [if_pos c16] at H
         have c16b0 := eq_true c16
         have c16b1 : decide (0 ≤ (ji15)) = true := decide_eq_true c16
         clear c16
         by_cases c17 : (ji15 : Int).toNat ≤ 11728124029610
         ·rw [if_pos c17] at H
          have c17b0 := eq_true c17
          have c17b1 : decide ((ji15 : Int).toNat ≤ 11728124029610) = true := decide_eq_true c17
          clear c17
          obtain ⟨y104, hy104⟩ : ∃ y_ : List (List Int), y_ = (List.replicate (ji15 : Int).toNat []) := ⟨_, rfl⟩
          replace H : (till_Ballot.l0 kj10 a0 a1 a2 y104 (y104.length : Int) 0) = some (r1, r2) := by first | (rw [hy104]; with_reducible exact H) | (have H2_ := (Option.bind_some _ _).symm.trans H; rw [hy104]; with_reducible exact H2_) | (have H2_ := (Option.bind_some _ _).symm.trans H; with_reducible exact H2_) | with_reducible exact H | (rw [hy104]; exact H) | exact H
          have Ny104 := Aside0.mk hy104
          clear hy104
          have H' := Aside0.mk H
          clear H
          go_wp2_with (first | ((with_reducible refine gate_dst (N := 41) rfl ?_); refine Kd.S_make (Kd.slice 3 (Kd.int .i64)) _ 22 rfl (N := 41) rfl 59 _ _ rfl ji15 rfl rfl Tryd.underlying59 (.slice none 0 0) 24 info22 rfl (by decide) (by omega) [] (ok := fun _ => True) (okp := fun _ => True) ⟨_, rfl, Kd.R_nil _ _ _ _ _⟩ (fun _ hk => hk) trivial (of_decide_eq_true (by first | (with_reducible assumption) | assumption)) (Nat.le_trans (Nat.mul_le_mul_right _ (of_decide_eq_true (by first | (with_reducible assumption) | assumption) : ji15.toNat ≤ 11728124029610)) (by omega)) (Below.refl _ _) (Nat.le_refl _) ?_; intro v105 w18 ho19 hb hg_ hnew_; clear hg_ hnew_; (first | rw [← Ny104.out] at ho19 | (simp only [Int.reduceToNat] at ho19; rw [← Ny104.out] at ho19)); have n0_ := Aside0.mk (Kd.S_lower ho19 (below_size (by repeat (first | (with_reducible first | exact HB.out | apply below_alloc | apply pw_below_drewN | apply below_drew1) | exact HB.out)))); have n1_ := Aside0.mk (below_step (by repeat (first | (with_reducible first | exact HB.out | apply below_alloc | apply pw_below_drewN | apply below_drew1) | exact HB.out)) hb); clear HB; have HO106 := n0_; have HB := n1_; clear n0_ n1_; clear hb ho19; obtain ⟨Ao20, co20, eo20⟩ := Kd.S_slice HO106.out; subst eo20))
          go_loopg [44] kj10 (fun kq v44 w' => ∃ (x9_3 : List (List Int)) (x44_3 : Int), v44 = .int .i64 x44_3 ∧ Aside0 (till_Ballot.l0 kq a0 a1 a2 x9_3 (y104.length : Int) x44_3 = some (r1, r2)) ∧ Aside0 (kq ≤ kj10) ∧ Aside0 (Kd.S (Kd.slice 3 (Kd.int .i64)) 22 w' w.heap.size (fun _ => True) (.slice Ao20 y104.length co20) x9_3) ∧ Aside0 (Below w.heap.size w w'))
          case atStart => exact ⟨(y104), (0), (by first | rfl | (simp; done) | (simp [*]; done)), H', ⟨Nat.le_refl _⟩, ⟨by (with_reducible repeat (first | apply Kd.S_alloc | apply Kd.S_drewN | apply Kd.S_drew)); exact HO106.out⟩, ⟨by repeat (first | (with_reducible first | exact HB.out | apply below_alloc | apply pw_below_drewN | apply below_drew1) | exact HB.out)⟩⟩
          case round =>
           clear H'
           try clear c1
           try clear c2
           try clear p2
           try clear c5
           try clear c6
           try clear p6
           try clear c8
           try clear c10
           try clear c12
           try clear c12b0
           try clear c12b1
           try clear c13
           try clear c14
           try clear c14b0
           try clear c16
           try clear c16b0
           try clear c16b1
           try clear c17
           try clear c17b0
           try clear c17b1
           try clear p2
           obtain ⟨x9_3, x44_3, rfl, HA, HK3, HO_9, HB⟩ := hrel
           have hl9_3 := (Kd.S_reads' HO_9.out).1
           rw [hl9_3] at HO_9
           (try simp only [hl9_3])
           cases gk with
           | zero => exact absurd HA.out (by simp [till_Ballot.l0])
           | succ k3 =>
            have H := HA.out
            clear HA
            simp only [till_Ballot.l0] at H
            by_cases c21 : x44_3 < (y104.length : Int)
            ·rw [if_pos c21] at H
             have c21b0 : decide (x44_3 < (y104.length : Int)) = true := decide_eq_true c21
             clear c21
             obtain ⟨ji22, hji22⟩ : ∃ j_ : Int, (wrap64 (a1 + 1)) = j_ := ⟨_, rfl⟩
             replace H : (if 0 ≤ (ji22) then (if (ji22 : Int).toNat ≤ 35184372088832 then (if 0 ≤ x44_3 then (if x44_3 < (x9_3.length : Int) then ((some (x9_3.set (x44_3 : Int).toNat (List.replicate (ji22 : Int).toNat 0) : List (List Int))).bind fun y112 => (till_Ballot.l1 k3 a0 a1 a2 y112 x44_3 (y104.length : Int) x44_3 ((rd_L1 y112 x44_3).length : Int) 0)) else (none)) else (none)) else (none)) else (none)) = some (r1, r2) := by first | (rw [hji22] at H; exact H) | (simp only [hji22] at H ⊢; exact H)
             have hji22w : (IntKind.i64.wrap (a1 + 1)) = ji22 := (i64_w _).trans hji22
             by_cases c23 : 0 ≤ (ji22)
             ·rw [if_pos c23] at H
              have c23b0 := eq_true c23
              have c23b1 : decide (0 ≤ (ji22)) = true := decide_eq_true c23
              clear c23
              by_cases c24 : (ji22 : Int).toNat ≤ 35184372088832
              ·rw [if_pos c24] at H
               have c24b0 := eq_true c24
               have c24b1 : decide ((ji22 : Int).toNat ≤ 35184372088832) = true := decide_eq_true c24
               clear c24
               obtain ⟨y109, hy109⟩ : ∃ y_ : List Int, y_ = (List.replicate (ji22 : Int).toNat 0) := ⟨_, rfl⟩
               replace H : (if 0 ≤ x44_3 then (if x44_3 < (x9_3.length : Int) then ((some (x9_3.set (x44_3 : Int).toNat y109 : List (List Int))).bind fun y112 => (till_Ballot.l1 k3 a0 a1 a2 y112 x44_3 (y104.length : Int) x44_3 ((rd_L1 y112 x44_3).length : Int) 0)) else (none)) else (none)) = some (r1, r2) := by first | (rw [hy109]; with_reducible exact H) | (have H2_ := (Option.bind_some _ _).symm.trans H; rw [hy109]; with_reducible exact H2_) | (have H2_ := (Option.bind_some _ _).symm.trans H; with_reducible exact H2_) | with_reducible exact H | (rw [hy109]; exact H) | exact H
               have Ny109 := Aside0.mk hy109
               clear hy109
               by_cases c25 : 0 ≤ x44_3
               ·rw [if_pos c25] at H
                have c25b0 : decide (0 ≤ x44_3) = true := decide_eq_true c25
                clear c25
                by_cases c26 : x44_3 < (x9_3.length : Int)
                ·rw [if_pos c26] at H
                 have c26b0 : decide (x44_3 < (x9_3.length : Int)) = true := decide_eq_true c26
                 clear c26
                 obtain ⟨y112, hy112⟩ : ∃ y_ : List (List Int), y_ = (x9_3.set (x44_3 : Int).toNat y109) := ⟨_, rfl⟩
                 replace H : (till_Ballot.l1 k3 a0 a1 a2 y112 x44_3 (y104.length : Int) x44_3 ((rd_L1 y112 x44_3).length : Int) 0) = some (r1, r2) := by first | (rw [hy112]; with_reducible exact H) | (have H2_ := (Option.bind_some _ _).symm.trans H; rw [hy112]; with_reducible exact H2_) | (have H2_ := (Option.bind_some _ _).symm.trans H; with_reducible exact H2_) | with_reducible exact H | (rw [hy112]; exact H) | exact H
                 have Ny112 := Aside0.mk hy112
                 clear hy112
                 have H' := Aside0.mk H
                 clear H
                 go_wp2_with (first | ((with_reducible refine gate_dst (N := 51) rfl ?_); refine Kd.R_make (Kd.int .i64) _ 3 rfl (N := 51) rfl 22 _ _ rfl ji22 rfl rfl Tryd.underlying22 (.int .i64 0) 8 info3 rfl (by decide) (by omega) 0 (ok := fun _ => True) (okp := fun _ => True) rfl (fun _ hk => hk) trivial (of_decide_eq_true (by first | (with_reducible assumption) | assumption)) (Nat.le_trans (Nat.mul_le_mul_right _ (of_decide_eq_true (by first | (with_reducible assumption) | assumption) : ji22.toNat ≤ 35184372088832)) (by omega)) (Below.refl _ _) (Nat.le_refl _) ?_; intro v110 w28 ho29 hb hg_ hnew_; clear hg_ hnew_; (first | rw [← Ny109.out] at ho29 | (simp only [Int.reduceToNat] at ho29; rw [← Ny109.out] at ho29)); have n0_ := Aside0.mk (Kd.S_elder' (by (with_reducible repeat (first | apply Kd.S_alloc | apply Kd.S_drewN | apply Kd.S_drew)); exact HO_9.out) (Kd.R_base ho29) hb); have n1_ := Aside0.mk (Kd.R_lower ho29 (below_size (by repeat (first | (with_reducible first | exact HB.out | apply below_alloc | apply pw_below_drewN | apply below_drew1) | exact HB.out)))); have n2_ := Aside0.mk (below_step (by repeat (first | (with_reducible first | exact HB.out | apply below_alloc | apply pw_below_drewN | apply below_drew1) | exact HB.out)) hb); clear HO_9; clear HB; have HO_9 := n0_; have HO111 := n1_; have HB := n2_; clear n0_ n1_ n2_; clear hb ho29; have p27 : 0 ≤ (x44_3 : Int) := of_decide_eq_true (by first | (with_reducible assumption) | assumption); have q27 : (x44_3 : Int) < ((x9_3.length : Int) : Int) := of_decide_eq_true (by first | (with_reducible assumption) | assumption); obtain ⟨go27, co27, eo27, gb27, gl27, cl27, HG27⟩ := Kd.S_form HO_9.out (by omega); (first | cases eo27 | (injection eo27 with ea_ en_ ec_; (first | subst ea_ | (injection ea_ with ea_; subst ea_)); subst ec_; clear en_)); have GB27 := Aside0.mk gb27; have GG27 := Aside0.mk HG27; clear gb27 gl27 HG27; obtain ⟨_, ce27, hcl27, hM27, hcc27, hfr27, _, _⟩ := Kd.S_elem HO_9.out [] (x44_3 : Int) p27 q27; obtain ⟨ve27_0, rfl, ge27_0⟩ := hM27; have hx27_0 := hcc27 0 _ rfl; have hf27_0 := hfr27 0; (try simp only [show ((Kd.slice 3 (Kd.int .i64))).sz = 1 from rfl, Nat.mul_one, Nat.add_zero] at hx27_0); (try simp only [show ((Kd.slice 3 (Kd.int .i64))).sz = 1 from rfl, Nat.mul_one, Nat.add_zero] at hf27_0); clear hcl27 hcc27 hfr27; (try clear hM27); replace p27 := eq_true p27; replace q27 := eq_true q27; have n_ := Aside0.mk (Kd.S_mono (ok' := (fun k_ => some k_ ≠ (v110 : Value).ownBlock)) HO_9.out (fun k_ hk => hk.2)); clear HO_9; have HO_9 := n_; clear n_; have HX30 := Aside0.mk (show Kd.S (Kd.slice 3 (Kd.int .i64)) 22 w28 w.heap.size (fun k_ => ((fun _ => True)) k_ ∧ ¬ ((fun k_ => some k_ = (v110 : Value).ownBlock)) k_) (.slice (some ⟨go27, 0, none⟩) x9_3.length co20) x9_3 from (by (with_reducible repeat (first | apply Kd.S_alloc | apply Kd.S_drewN | apply Kd.S_drew)); exact Kd.S_mono HO_9.out (fun k_ hk => ⟨trivial, fun e_ => hk e_⟩))); obtain ⟨oki30, ce30, hcl30, hM30, hcc30, hfr30, hoki30, hH30⟩ := Kd.S_elem HX30.out [] (x44_3 : Int) (of_decide_eq_true (by first | (with_reducible assumption) | assumption)) (by have h_ : (x44_3 : Int) < ((x9_3.length : Int) : Int) := of_decide_eq_true (by first | (with_reducible assumption) | assumption); first | exact h_ | (have e_ := (Kd.S_reads' HO_9.out).1; omega) | simpa using h_); obtain ⟨ve30_0, rfl, ge30_0⟩ := hM30; have HP30 := Kd.S_seg hH30 (of_decide_eq_true (by first | (with_reducible assumption) | assumption)) (by have h_ : (x44_3 : Int) < ((x9_3.length : Int) : Int) := of_decide_eq_true (by first | (with_reducible assumption) | assumption); first | exact h_ | (have e_ := (Kd.S_reads' HO_9.out).1; omega) | simpa using h_) (seg := [v110]) (j := 0) (show 1 ≤ 1 from by decide) (x' := y109) (Kd.M_row (Kd.R_mono (Kd.R_tight rfl (Kd.R_mono (ok' := fun k_ => ((fun _ => True)) k_ ∧ k_ ≠ go27) (Kd.R_apart' (HO111.out) (Kd.S_typed HO_9.out) (by decide)) (fun k_ hk => ⟨trivial, fun e_ => (hk.2) (by rw [e_]; rfl)⟩))) (fun _ h_ => Or.inr (h_)))) (fun _ hk => hk) (fun k_ hk_ => ((Kd.R_mono (ok' := fun k_ => ((fun _ => True)) k_ ∧ k_ ≠ go27) (Kd.R_apart' (HO111.out) (Kd.S_typed HO_9.out) (by decide)) (fun k_ hk => ⟨trivial, fun e_ => (hk.2) (by rw [e_]; rfl)⟩))).1 k_ hk_.symm); have hx30_0 := hcc30 0 _ rfl; (try simp only [show ((Kd.slice 3 (Kd.int .i64))).sz = 1 from rfl, Nat.mul_one, Nat.add_zero] at hx30_0); have hf30_0 := hfr30 0; (try simp only [show ((Kd.slice 3 (Kd.int .i64))).sz = 1 from rfl, Nat.mul_one, Nat.add_zero] at hf30_0); clear hcl30 hcc30 hfr30 hoki30 hH30; (try clear hM30); (try simp only [show ((Kd.slice 3 (Kd.int .i64))).sz = 1 from rfl, Nat.mul_one, Nat.add_zero] at HP30)) | ((with_reducible refine gate_store (t := 22) (p := 52) rfl ?_); refine store_event (t := 22) (p := 52) (v := ?vo_w31) (w1 := (w28.setCell ⟨go27, (x44_3 : Int).toNat, none⟩ (v110))) ?hg ?ho ?hn ?hr ?_; (case ho => rfl); (case hg => rfl); (case hn => rfl); (case hr => first | (go_simp; done) | (go_simp; rfl) | (obtain ⟨A_, c_, e_⟩ := Kd.R_slice HO111.out; subst e_; first | (go_simp; done) | (go_simp; rfl))); intro w31 hw; have hg : w28.grownBy w31 (some go27) := (by rw [hw]; exact HP30.2); have hp_ : Kd.S (Kd.slice 3 (Kd.int .i64)) 22 w31 w.heap.size (fun _ => True) (.slice (some ⟨go27, 0, none⟩) x9_3.length co20) y112 := (by rw [hw, Ny112.out]; exact HP30.1); clear HP30; have n0_ := Aside0.mk (hp_); have n1_ := Aside0.mk ((by rw [hw]; exact below_set (HB.out) GB27.out : Below w.heap.size w w31)); clear HO_9; clear HB; clear HO111; have HO_9 := n0_; have HB := n1_; clear n0_ n1_; clear hg hw hp_; have p113 : 0 ≤ (x44_3 : Int) := of_decide_eq_true (by first | (with_reducible assumption) | assumption); have q113 : x44_3 < (y112.length : Int) := (by have h_ : (x44_3 : Int) < ((x9_3.length : Int) : Int) := of_decide_eq_true (by first | (with_reducible assumption) | assumption); first | (have e_ := (Kd.S_reads' HO_9.out).1; omega) | simpa only [Ny112.out, List.length_set] using h_); have ql113 : ((x44_3 : Int) < ((x9_3.length : Int) : Int)) = True := eq_true (of_decide_eq_true (by first | (with_reducible assumption) | assumption)); obtain ⟨ad113, A113_0, c113_0, e113, hx113_0, hl113_0, hi113_0⟩ := at_L1 (Kd.S_reads' HO_9.out).2.2 x44_3 p113 q113; obtain rfl : (⟨go27, 0, none⟩ : Addr) = ad113 := (by injection e113); obtain ⟨ce113, hce113, hMe113, hcc113⟩ := Kd.S_get HO_9.out [] x44_3 p113 (by first | exact q113 | exact of_decide_eq_true (by first | (with_reducible assumption) | assumption) | (have e_ := (Kd.S_reads' HO_9.out).1; omega)); obtain ⟨ve113_0, rfl, ge113_0⟩ := hMe113; have hv113_0 := hcc113 0 _ rfl; rw [Nat.add_zero, show ((Kd.slice 3 (Kd.int .i64))).sz = 1 from rfl, Nat.mul_one] at hv113_0; replace hv113_0 := Option.some.inj (hv113_0.symm.trans hx113_0); rw [hv113_0] at ge113_0; have HL113_0 := Aside0.mk (show Kd.R (Kd.int .i64) 3 _ _ _ _ (rd_L1 y112 x44_3) from ge113_0); clear hv113_0 ge113_0; have HX113_0 := Aside0.mk hx113_0; clear hcc113 hce113; (first | simp only [add_plain] at hx113_0 | simp only [add_at] at hx113_0 | simp only [Addr.add, Nat.zero_add] at hx113_0 | skip); have HR113_0 := Aside0.mk hi113_0; have HC113_0 := Aside0.mk hl113_0; clear hi113_0 hl113_0; replace p113 := eq_true p113; replace q113 := eq_true q113))
                 go_loopg [58] k3 (fun kq v58 w' => ∃ (x9_4 : List (List Int)) (x58_4 : Int), v58 = .int .i64 x58_4 ∧ Aside0 (till_Ballot.l1 kq a0 a1 a2 x9_4 x44_3 (y104.length : Int) x44_3 ((rd_L1 y112 x44_3).length : Int) x58_4 = some (r1, r2)) ∧ Aside0 (kq ≤ k3) ∧ Aside0 (Kd.S (Kd.slice 3 (Kd.int .i64)) 22 w' w.heap.size (fun _ => True) (.slice (some ⟨go27, 0, none⟩) x9_3.length co20) x9_4) ∧ Aside0 (Below w.heap.size w w'))
                 case atStart => exact ⟨(y112), (0), (by first | rfl | (simp; done) | (simp [*]; done)), H', ⟨Nat.le_refl _⟩, ⟨by (try simp only [hl9_3]); (with_reducible repeat (first | apply Kd.S_alloc | apply Kd.S_drewN | apply Kd.S_drew)); exact HO_9.out⟩, ⟨by repeat (first | (with_reducible first | exact HB.out | apply below_alloc | apply pw_below_drewN | apply below_drew1) | exact HB.out)⟩⟩
                 case round =>
                  clear H'
                  try clear c1
                  try clear p1
                  try clear q1
                  try clear hx1
                  try clear c2
                  try clear p2
                  try clear q2
                  try clear hx2
                  try clear c3
                  try clear hx3
                  try clear hf3
                  try clear c5
                  try clear c6
                  try clear p6
                  try clear c8
                  try clear c10
                  try clear c11
                  try clear p11
                  try clear q11
                  try clear hx11
                  try clear c12
                  try clear c12b0
                  try clear c12b1
                  try clear c13
                  try clear c14
                  try clear c14b0
                  try clear c16
                  try clear c16b0
                  try clear c16b1
                  try clear c17
                  try clear c17b0
                  try clear c17b1
                  try clear c21
                  try clear c21b0
                  try clear c23
                  try clear c23b0
                  try clear c23b1
                  try clear c24
                  try clear c24b0
                  try clear c24b1
                  try clear c25
                  try clear c25b0
                  try clear c26
                  try clear c26b0
                  try clear c27
                  try clear p27
                  try clear q27
                  try clear hx27
                  try clear hf27
                  try clear c30
                  try clear hx30
                  try clear hf30
                  try clear hx113_0
                  try clear hx27_0
                  try clear hx30_0
                  try clear p113
                  try clear p2
                  try clear p27
                  try clear p6
                  try clear q113
                  try clear q27
                  obtain ⟨x9_4, x58_4, rfl, HA, HK4, HO_9, HB⟩ := hrel
                  have hl9_4 := (Kd.S_reads' HO_9.out).1
                  rw [hl9_4] at HO_9
                  (try simp only [hl9_4])
                  cases gk with
                  | zero => exact absurd HA.out (by simp [till_Ballot.l1])
                  | succ k4 =>
                   have H := HA.out
                   clear HA
                   simp only [till_Ballot.l1] at H
                   by_cases c32 : x58_4 < ((rd_L1 y112 x44_3).length : Int)
                   ·rw [if_pos c32] at H
                    have c32b0 : decide (x58_4 < ((rd_L1 y112 x44_3).length : Int)) = true := decide_eq_true c32
                    clear c32
                    have HC33 := Aside0.mk H
                    clear H
                    go_upto_region 16 with (fail)
                    go_cut [61] (fun v61 wc => ∃ (kq : Nat) (x61_32 : Bool), v61 = .bool x61_32 ∧ Aside0 (till_Ballot.j4 kq a0 a1 a2 x9_4 x44_3 x58_4 (y104.length : Int) x44_3 ((rd_L1 y112 x44_3).length : Int) x58_4 x61_32 = some (r1, r2)) ∧ Aside0 (kq ≤ k4) ∧ Aside0 (Kd.S (Kd.slice 3 (Kd.int .i64)) 22 wc w.heap.size (fun _ => True) (.slice (some ⟨go27, 0, none⟩) x9_4.length co20) x9_4) ∧ Aside0 (Below w.heap.size w wc))
                    case first =>
                     have H := HC33.out
                     clear HC33
                     by_cases c34 : x44_3 = 0
                     ·rw [if_pos c34] at H
                      have c34b0 : (x44_3 == 0) = true := beq_iff_eq.mpr c34
                      have c34b1 : (x44_3 != 0) = false := bne_eq_false_iff_eq.mpr c34
                      clear c34
                      (first | rw [c34b0] | (simp only [i64_w, i32_w]; rw [c34b0]) | skip)
                      have H' := Aside0.mk H
                      clear H
                      go_wp2
                      go_meet
                      case rel => exact ⟨_, ((x58_4 == 0)), (by first | rfl | (simp; done) | (simp [*]; done)), H', ⟨by have := HJ3.out; have := HJ10.out; have := HK3.out; have := HK4.out; first | omega | exact Nat.le_refl _⟩, ⟨by (try simp only [hl9_3]); (try simp only [hl9_4]); (with_reducible repeat (first | apply Kd.S_alloc | apply Kd.S_drewN | apply Kd.S_drew)); exact HO_9.out⟩, ⟨by repeat (first | (with_reducible first | exact HB.out | apply below_alloc | apply pw_below_drewN | apply below_drew1) | exact HB.out)⟩⟩
                     ·rw [if_neg c34] at H
                      have c34b0 : (x44_3 == 0) = false := beq_eq_false_iff_ne.mpr c34
                      have c34b1 : (x44_3 != 0) = true := bne_iff_ne.mpr c34
                      (first | rw [c34b0] | (simp only [i64_w, i32_w]; rw [c34b0]) | skip)
                      have H' := Aside0.mk H
                      clear H
                      go_wp2
                      go_meet
                      case rel => exact ⟨_, (false), (by first | rfl | (simp; done) | (simp [*]; done)), H', ⟨by have := HJ3.out; have := HJ10.out; have := HK3.out; have := HK4.out; first | omega | exact Nat.le_refl _⟩, ⟨by (try simp only [hl9_3]); (try simp only [hl9_4]); (with_reducible repeat (first | apply Kd.S_alloc | apply Kd.S_drewN | apply Kd.S_drew)); exact HO_9.out⟩, ⟨by repeat (first | (with_reducible first | exact HB.out | apply below_alloc | apply pw_below_drewN | apply below_drew1) | exact HB.out)⟩⟩
                    case rest =>
                     clear HC33
                     try clear c1
                     try clear p1
                     try clear q1
                     try clear hx1
                     try clear c2
                     try clear p2
                     try clear q2
                     try clear hx2
                     try clear c3
                     try clear hx3
                     try clear hf3
                     try clear c5
                     try clear c6
                     try clear p6
                     try clear c8
                     try clear c10
                     try clear c11
                     try clear p11
                     try clear q11
                     try clear hx11
                     try clear c12
                     try clear c12b0
                     try clear c12b1
                     try clear c13
                     try clear c14
                     try clear c14b0
                     try clear c16
                     try clear c16b0
                     try clear c16b1
                     try clear c17
                     try clear c17b0
                     try clear c17b1
                     try clear c21
                     try clear c21b0
                     try clear c23
                     try clear c23b0
                     try clear c23b1
                     try clear c24
                     try clear c24b0
                     try clear c24b1
                     try clear c25
                     try clear c25b0
                     try clear c26
                     try clear c26b0
                     try clear c27
                     try clear p27
                     try clear q27
                     try clear hx27
                     try clear hf27
                     try clear c30
                     try clear hx30
                     try clear hf30
                     try clear c32
                     try clear c32b0
                     try clear c34
                     try clear c34b0
                     try clear c34b1
                     try clear hx113_0
                     try clear hx27_0
                     try clear hx30_0
                     try clear p1
                     try clear p11
                     try clear p113
                     try clear p2
                     try clear p27
                     try clear p6
                     try clear q1
                     try clear q11
                     try clear q113
                     try clear q2
                     try clear q27
                     obtain ⟨kq, x61_32, rfl, HA, HJ32, HO_9, HB⟩ := hcut
                     cases kq with
                     | zero => exact absurd HA.out (by simp [till_Ballot.j4])
                     | succ kj32 =>
                      have H := HA.out
                      clear HA
                      simp only [till_Ballot.j4] at H
                      by_cases c35 : x61_32 = true
                      ·subst c35
                       have H1 : (if 0 ≤ x44_3 then (if x44_3 < (x9_4.length : Int) then (if 0 ≤ x58_4 then (if x58_4 < ((rd_L1 x9_4 x44_3).length : Int) then (till_Ballot.l1 kj32 a0 a1 a2 (x9_4.set (x44_3 : Int).toNat ((rd_L1 x9_4 x44_3).set (x58_4 : Int).toNat 1)) x44_3 (y104.length : Int) x44_3 ((rd_L1 y112 x44_3).length : Int) (wrap64 (x58_4 + 1))) else (none)) else (none)) else (none)) else (none)) = some (r1, r2) := by rw [if_pos rfl] at H; exact H
                       clear H
                       have H := H1
                       clear H1
                       by_cases c36 : 0 ≤ x44_3
                       ·rw [if_pos c36] at H
                        have c36b0 : decide (0 ≤ x44_3) = true := decide_eq_true c36
                        clear c36
                        by_cases c37 : x44_3 < (x9_4.length : Int)
                        ·rw [if_pos c37] at H
                         have c37b0 : decide (x44_3 < (x9_4.length : Int)) = true := decide_eq_true c37
                         clear c37
                         by_cases c38 : 0 ≤ x58_4
                         ·rw [if_pos c38] at H
                          have c38b0 : decide (0 ≤ x58_4) = true := decide_eq_true c38
                          clear c38
                          by_cases c39 : x58_4 < ((rd_L1 x9_4 x44_3).length : Int)
                          ·rw [if_pos c39] at H
                           have c39b0 : decide (x58_4 < ((rd_L1 x9_4 x44_3).length : Int)) = true := decide_eq_true c39
                           clear c39
                           obtain ⟨y115, hy115⟩ : ∃ y_ : List Int, y_ = ((rd_L1 x9_4 x44_3).set (x58_4 : Int).toNat 1) := ⟨_, rfl⟩
                           replace H : (till_Ballot.l1 kj32 a0 a1 a2 (x9_4.set (x44_3 : Int).toNat y115) x44_3 (y104.length : Int) x44_3 ((rd_L1 y112 x44_3).length : Int) (wrap64 (x58_4 + 1))) = some (r1, r2) := by first | (rw [hy115]; with_reducible exact H) | (have H2_ := (Option.bind_some _ _).symm.trans H; rw [hy115]; with_reducible exact H2_) | (have H2_ := (Option.bind_some _ _).symm.trans H; with_reducible exact H2_) | with_reducible exact H | (rw [hy115]; exact H) | exact H
                           have Ny115 := Aside0.mk hy115
                           clear hy115
                           obtain ⟨y117, hy117⟩ : ∃ y_ : List (List Int), y_ = (x9_4.set (x44_3 : Int).toNat y115) := ⟨_, rfl⟩
                           replace H : (till_Ballot.l1 kj32 a0 a1 a2 y117 x44_3 (y104.length : Int) x44_3 ((rd_L1 y112 x44_3).length : Int) (wrap64 (x58_4 + 1))) = some (r1, r2) := by first | (rw [hy117]; with_reducible exact H) | (have H2_ := (Option.bind_some _ _).symm.trans H; rw [hy117]; with_reducible exact H2_) | (have H2_ := (Option.bind_some _ _).symm.trans H; with_reducible exact H2_) | with_reducible exact H | (rw [hy117]; exact H) | exact H
                           have Ny117 := Aside0.mk hy117
                           clear hy117
                           have H' := Aside0.mk H
                           clear H
                           have p114 : 0 ≤ (x44_3 : Int) := of_decide_eq_true (by first | (with_reducible assumption) | assumption)
                           have q114 : x44_3 < (x9_4.length : Int) := of_decide_eq_true (by first | (with_reducible assumption) | assumption)
                           obtain ⟨ad114, A114_0, c114_0, e114, hx114_0, hl114_0, hi114_0⟩ := at_L1 (Kd.S_reads' HO_9.out).2.2 x44_3 p114 q114
                           obtain rfl : (⟨go27, 0, none⟩ : Addr) = ad114 := (by injection e114)
                           obtain ⟨ce114, hce114, hMe114, hcc114⟩ := Kd.S_get HO_9.out [] x44_3 p114 (by first | exact q114 | exact of_decide_eq_true (by first | (with_reducible assumption) | assumption) | (have e_ := (Kd.S_reads' HO_9.out).1; omega))
                           obtain ⟨ve114_0, rfl, ge114_0⟩ := hMe114
                           have hv114_0 := hcc114 0 _ rfl
                           rw [Nat.add_zero, show ((Kd.slice 3 (Kd.int .i64))).sz = 1 from rfl, Nat.mul_one] at hv114_0
                           replace hv114_0 := Option.some.inj (hv114_0.symm.trans hx114_0)
                           rw [hv114_0] at ge114_0
                           have HL114_0 := Aside0.mk (show Kd.R (Kd.int .i64) 3 _ _ _ _ (rd_L1 x9_4 x44_3) from ge114_0)
                           clear hv114_0 ge114_0
                           have HX114_0 := Aside0.mk hx114_0
                           clear hcc114 hce114
                           (first | simp only [add_plain] at hx114_0 | simp only [add_at] at hx114_0 | simp only [Addr.add, Nat.zero_add] at hx114_0 | skip)
                           have HR114_0 := Aside0.mk hi114_0
                           have HC114_0 := Aside0.mk hl114_0
                           clear hi114_0 hl114_0
                           replace p114 := eq_true p114
                           replace q114 := eq_true q114
                           have p40 : 0 ≤ (x58_4 : Int) := of_decide_eq_true (by first | (with_reducible assumption) | assumption)
                           have q40 : (x58_4 : Int) < (((rd_L1 x9_4 x44_3).length : Int) : Int) := of_decide_eq_true (by first | (with_reducible assumption) | assumption)
                           obtain ⟨go40, co40, eo40, gb40, gl40, cl40, HG40⟩ := Kd.R_form HL114_0.out (by omega)
                           (first | cases eo40 | (injection eo40 with ea_ en_ ec_; (first | subst ea_ | (injection ea_ with ea_; subst ea_)); subst ec_; clear en_))
                           have GB40 := Aside0.mk gb40
                           have GG40 := Aside0.mk HG40
                           clear gb40 gl40 HG40
                           obtain ⟨hx40_0, hf40_0⟩ := Kd.R_celln 0 HL114_0.out (x58_4 : Int) p40 q40
                           replace p40 := eq_true p40
                           replace q40 := eq_true q40
                           have hq41 : (x44_3 : Int) < (x9_4.length : Int) := (by have h_ : (x44_3 : Int) < ((x9_4.length : Int) : Int) := of_decide_eq_true (by first | (with_reducible assumption) | assumption); first | exact h_ | (have e_ := (Kd.S_reads' HO_9.out).1; omega) | simpa only [List.length_set, List.length_set] using h_)
                           obtain ⟨oki41, ce41, hcl41, hM41, hcc41, hok41, hbk41⟩ := Kd.S_borrow HO_9.out [] (x44_3 : Int) (of_decide_eq_true (by first | (with_reducible assumption) | assumption)) hq41
                           obtain ⟨ve41_0, rfl, ge41_0⟩ := hM41
                           have hv41 := hcc41 0 _ rfl
                           rw [Nat.add_zero, show ((Kd.slice 3 (Kd.int .i64))).sz = 1 from rfl, Nat.mul_one] at hv41
                           replace hv41 := Option.some.inj (hv41.symm.trans HX114_0.out)
                           subst hv41
                           clear hcc41 hcl41
                           replace ge41_0 := (show Kd.R (Kd.int .i64) 3 _ _ _ _ (rd_L1 x9_4 x44_3) from ge41_0)
                           have HP41 := Kd.R_putg ge41_0 (x58_4 : Int) 1
                           go_wp2_with (first | ((with_reducible refine gate_store (t := 3) (p := 73) rfl ?_); refine store_event (t := 3) (p := 73) (v := ?vo_w42) (w1 := (wc.setCell ⟨go40, (x58_4 : Int).toNat, none⟩ (.int .i64 1))) ?hg ?ho ?hn ?hr ?_; (case ho => rfl); (case hg => rfl); (case hn => rfl); (case hr => first | (go_simp; done) | (go_simp; rfl) | (obtain ⟨A_, c_, e_⟩ := Kd.R_slice HO111.out; subst e_; first | (go_simp; done) | (go_simp; rfl))); intro w42 hw; have hg : wc.grownBy w42 (some go40) := (by rw [hw]; exact HP41.2); have hz_ : Kd.R (Kd.int .i64) 3 w42 w.heap.size oki41 (.slice (some ⟨go40, 0, none⟩) (rd_L1 x9_4 x44_3).length c114_0) y115 := (by rw [hw, Ny115.out]; exact HP41.1); have hp_ : Kd.S (Kd.slice 3 (Kd.int .i64)) 22 w42 w.heap.size (fun _ => True) (.slice (some ⟨go27, 0, none⟩) x9_4.length co20) y117 := (by rw [Ny117.out]; exact hbk41 hg (fun k_ e_ => by injection e_ with e_; subst e_; exact ge41_0.1 _ rfl) (Kd.M_row hz_)); have hm_ := Kd.R_mono hz_ hok41; clear HP41 hbk41; have n0_ := Aside0.mk (hp_); have n1_ := Aside0.mk ((by rw [hw]; exact below_set (HB.out) GB40.out : Below w.heap.size w w42)); have n2_ := Aside0.mk (hm_); have n3_ := Aside0.mk ((Kd.R_reads' hm_).2.1); clear HO_9; clear HB; clear HL114_0; have HO_9 := n0_; have HB := n1_; have HL131 := n2_; have HC116 := n3_; clear n0_ n1_ n2_ n3_; clear hg hw hp_ hz_ hm_ hok41))
                           (try simp only [← hl9_4])
                           go_roundg kj32
                           case measure => have := HJ3.out; have := HJ10.out; have := HK3.out; have := HK4.out; have := HJ32.out; omega
                           case rel => exact ⟨(y117), (wrap64 (x58_4 + 1)), (by first | rfl | (simp; done) | (simp [*]; done)), H', ⟨by have := HJ3.out; have := HJ10.out; have := HK3.out; have := HK4.out; have := HJ32.out; omega⟩, ⟨by (try simp only [hl9_3]); (try simp only [hl9_4]); (with_reducible repeat (first | apply Kd.S_alloc | apply Kd.S_drewN | apply Kd.S_drew)); exact HO_9.out⟩, ⟨by repeat (first | (with_reducible first | exact HB.out | apply below_alloc | apply pw_below_drewN | apply below_drew1) | exact HB.out)⟩⟩
                          ·rw [if_neg c39] at H
                           exact absurd H (by simp)
                         ·rw [if_neg c38] at H
                          exact absurd H (by simp)
                        ·rw [if_neg c37] at H
                         exact absurd H (by simp)
                       ·rw [if_neg c36] at H
                        exact absurd H (by simp)
                      ·replace c35 := Bool.eq_false_iff.mpr c35
                       subst c35
                       have H1 : (if x44_3 > (wrap64 (a2 * x58_4)) then (if 0 ≤ x44_3 then (if x44_3 < (x9_4.length : Int) then (if 0 ≤ (wrap64 (x44_3 - 1)) then (if (wrap64 (x44_3 - 1)) < (x9_4.length : Int) then (if 0 ≤ x58_4 then (if x58_4 < ((rd_L1 x9_4 (wrap64 (x44_3 - 1))).length : Int) then (if x58_4 < ((rd_L1 x9_4 x44_3).length : Int) then ((some (x9_4.set (x44_3 : Int).toNat ((rd_L1 x9_4 x44_3).set (x58_4 : Int).toNat (rd (rd_L1 x9_4 (wrap64 (x44_3 - 1))) x58_4)) : List (List Int))).bind fun y123 => (if x58_4 > 0 then (if x58_4 < ((rd_L1 y123 x44_3).length : Int) then (if 0 ≤ (wrap64 (x58_4 - 1)) then (if (wrap64 (x58_4 - 1)) < ((rd_L1 y123 x44_3).length : Int) then (till_Ballot.l1 kj32 a0 a1 a2 (y123.set (x44_3 : Int).toNat ((rd_L1 y123 x44_3).set (x58_4 : Int).toNat (wrap64 ((rd (rd_L1 y123 x44_3) x58_4) + (rd (rd_L1 y123 x44_3) (wrap64 (x58_4 - 1))))))) x44_3 (y104.length : Int) x44_3 ((rd_L1 y112 x44_3).length : Int) (wrap64 (x58_4 + 1))) else (none)) else (none)) else (none)) else (till_Ballot.l1 kj32 a0 a1 a2 y123 x44_3 (y104.length : Int) x44_3 ((rd_L1 y112 x44_3).length : Int) (wrap64 (x58_4 + 1))))) else (none)) else (none)) else (none)) else (none)) else (none)) else (none)) else (none)) else (till_Ballot.l1 kj32 a0 a1 a2 x9_4 x44_3 (y104.length : Int) x44_3 ((rd_L1 y112 x44_3).length : Int) (wrap64 (x58_4 + 1)))) = some (r1, r2) := by rw [if_neg (show ¬ (false = true) by decide)] at H; exact H
                       clear H
                       have H := H1
                       clear H1
                       by_cases c43 : x44_3 > (wrap64 (a2 * x58_4))
                       ·rw [if_pos c43] at H
                        have c43b0 : decide ((wrap64 (a2 * x58_4)) < x44_3) = true := decide_eq_true c43
                        clear c43
                        by_cases c44 : 0 ≤ x44_3
                        ·rw [if_pos c44] at H
                         have c44b0 : decide (0 ≤ x44_3) = true := decide_eq_true c44
                         clear c44
                         by_cases c45 : x44_3 < (x9_4.length : Int)
                         ·rw [if_pos c45] at H
                          have c45b0 : decide (x44_3 < (x9_4.length : Int)) = true := decide_eq_true c45
                          clear c45
                          obtain ⟨ji46, hji46⟩ : ∃ j_ : Int, (wrap64 (x44_3 - 1)) = j_ := ⟨_, rfl⟩
                          replace H : (if 0 ≤ (ji46) then (if (ji46) < (x9_4.length : Int) then (if 0 ≤ x58_4 then (if x58_4 < ((rd_L1 x9_4 (ji46)).length : Int) then (if x58_4 < ((rd_L1 x9_4 x44_3).length : Int) then ((some (x9_4.set (x44_3 : Int).toNat ((rd_L1 x9_4 x44_3).set (x58_4 : Int).toNat (rd (rd_L1 x9_4 (ji46)) x58_4)) : List (List Int))).bind fun y123 => (if x58_4 > 0 then (if x58_4 < ((rd_L1 y123 x44_3).length : Int) then (if 0 ≤ (wrap64 (x58_4 - 1)) then (if (wrap64 (x58_4 - 1)) < ((rd_L1 y123 x44_3).length : Int) then (till_Ballot.l1 kj32 a0 a1 a2 (y123.set (x44_3 : Int).toNat ((rd_L1 y123 x44_3).set (x58_4 : Int).toNat (wrap64 ((rd (rd_L1 y123 x44_3) x58_4) + (rd (rd_L1 y123 x44_3) (wrap64 (x58_4 - 1))))))) x44_3 (y104.length : Int) x44_3 ((rd_L1 y112 x44_3).length : Int) (wrap64 (x58_4 + 1))) else (none)) else (none)) else (none)) else (till_Ballot.l1 kj32 a0 a1 a2 y123 x44_3 (y104.length : Int) x44_3 ((rd_L1 y112 x44_3).length : Int) (wrap64 (x58_4 + 1))))) else (none)) else (none)) else (none)) else (none)) else (none)) = some (r1, r2) := by first | (rw [hji46] at H; exact H) | (simp only [hji46] at H ⊢; exact H)
                          have hji46w : (IntKind.i64.wrap (x44_3 - 1)) = ji46 := (i64_w _).trans hji46
                          by_cases c47 : 0 ≤ (ji46)
                          ·rw [if_pos c47] at H
                           have c47b0 : decide (0 ≤ (ji46)) = true := decide_eq_true c47
                           clear c47
                           by_cases c48 : (ji46) < (x9_4.length : Int)
                           ·rw [if_pos c48] at H
                            have c48b0 : decide ((ji46) < (x9_4.length : Int)) = true := decide_eq_true c48
                            clear c48
                            by_cases c49 : 0 ≤ x58_4
                            ·rw [if_pos c49] at H
                             have c49b0 : decide (0 ≤ x58_4) = true := decide_eq_true c49
                             clear c49
                             by_cases c50 : x58_4 < ((rd_L1 x9_4 (ji46)).length : Int)
                             ·rw [if_pos c50] at H
                              have c50b0 : decide (x58_4 < ((rd_L1 x9_4 (ji46)).length : Int)) = true := decide_eq_true c50
                              clear c50
                              by_cases c51 : x58_4 < ((rd_L1 x9_4 x44_3).length : Int)
                              ·rw [if_pos c51] at H
                               have c51b0 : decide (x58_4 < ((rd_L1 x9_4 x44_3).length : Int)) = true := decide_eq_true c51
                               clear c51
                               obtain ⟨y121, hy121⟩ : ∃ y_ : List Int, y_ = ((rd_L1 x9_4 x44_3).set (x58_4 : Int).toNat (rd (rd_L1 x9_4 (ji46)) x58_4)) := ⟨_, rfl⟩
                               replace H : ((some (x9_4.set (x44_3 : Int).toNat y121 : List (List Int))).bind fun y123 => (if x58_4 > 0 then (if x58_4 < ((rd_L1 y123 x44_3).length : Int) then (if 0 ≤ (wrap64 (x58_4 - 1)) then (if (wrap64 (x58_4 - 1)) < ((rd_L1 y123 x44_3).length : Int) then (till_Ballot.l1 kj32 a0 a1 a2 (y123.set (x44_3 : Int).toNat ((rd_L1 y123 x44_3).set (x58_4 : Int).toNat (wrap64 ((rd (rd_L1 y123 x44_3) x58_4) + (rd (rd_L1 y123 x44_3) (wrap64 (x58_4 - 1))))))) x44_3 (y104.length : Int) x44_3 ((rd_L1 y112 x44_3).length : Int) (wrap64 (x58_4 + 1))) else (none)) else (none)) else (none)) else (till_Ballot.l1 kj32 a0 a1 a2 y123 x44_3 (y104.length : Int) x44_3 ((rd_L1 y112 x44_3).length : Int) (wrap64 (x58_4 + 1))))) = some (r1, r2) := by first | (rw [hy121]; with_reducible exact H) | (have H2_ := (Option.bind_some _ _).symm.trans H; rw [hy121]; with_reducible exact H2_) | (have H2_ := (Option.bind_some _ _).symm.trans H; with_reducible exact H2_) | with_reducible exact H | (rw [hy121]; exact H) | exact H
                               have Ny121 := Aside0.mk hy121
                               clear hy121
                               obtain ⟨y123, hy123⟩ : ∃ y_ : List (List Int), y_ = (x9_4.set (x44_3 : Int).toNat y121) := ⟨_, rfl⟩
                               replace H : (if x58_4 > 0 then (if x58_4 < ((rd_L1 y123 x44_3).length : Int) then (if 0 ≤ (wrap64 (x58_4 - 1)) then (if (wrap64 (x58_4 - 1)) < ((rd_L1 y123 x44_3).length : Int) then (till_Ballot.l1 kj32 a0 a1 a2 (y123.set (x44_3 : Int).toNat ((rd_L1 y123 x44_3).set (x58_4 : Int).toNat (wrap64 ((rd (rd_L1 y123 x44_3) x58_4) + (rd (rd_L1 y123 x44_3) (wrap64 (x58_4 - 1))))))) x44_3 (y104.length : Int) x44_3 ((rd_L1 y112 x44_3).length : Int) (wrap64 (x58_4 + 1))) else (none)) else (none)) else (none)) else (till_Ballot.l1 kj32 a0 a1 a2 y123 x44_3 (y104.length : Int) x44_3 ((rd_L1 y112 x44_3).length : Int) (wrap64 (x58_4 + 1)))) = some (r1, r2) := by first | (rw [hy123]; with_reducible exact H) | (have H2_ := (Option.bind_some _ _).symm.trans H; rw [hy123]; with_reducible exact H2_) | (have H2_ := (Option.bind_some _ _).symm.trans H; with_reducible exact H2_) | with_reducible exact H | (rw [hy123]; exact H) | exact H
                               have Ny123 := Aside0.mk hy123
                               clear hy123
                               by_cases c53 : x58_4 > 0
                               ·rw [if_pos c53] at H
                                have c53b0 : decide (0 < x58_4) = true := decide_eq_true c53
                                clear c53
                                by_cases c54 : x58_4 < ((rd_L1 y123 x44_3).length : Int)
                                ·rw [if_pos c54] at H
                                 have c54b0 : decide (x58_4 < ((rd_L1 y123 x44_3).length : Int)) = true := decide_eq_true c54
                                 clear c54
                                 obtain ⟨ji55, hji55⟩ : ∃ j_ : Int, (wrap64 (x58_4 - 1)) = j_ := ⟨_, rfl⟩
                                 replace H : (if 0 ≤ (ji55) then (if (ji55) < ((rd_L1 y123 x44_3).length : Int) then (till_Ballot.l1 kj32 a0 a1 a2 (y123.set (x44_3 : Int).toNat ((rd_L1 y123 x44_3).set (x58_4 : Int).toNat (wrap64 ((rd (rd_L1 y123 x44_3) x58_4) + (rd (rd_L1 y123 x44_3) (ji55)))))) x44_3 (y104.length : Int) x44_3 ((rd_L1 y112 x44_3).length : Int) (wrap64 (x58_4 + 1))) else (none)) else (none)) = some (r1, r2) := by first | (rw [hji55] at H; exact H) | (simp only [hji55] at H ⊢; exact H)
                                 have hji55w : (IntKind.i64.wrap (x58_4 - 1)) = ji55 := (i64_w _).trans hji55
                                 by_cases c56 : 0 ≤ (ji55)
                                 ·rw [if_pos c56] at H
                                  have c56b0 : decide (0 ≤ (ji55)) = true := decide_eq_true c56
                                  clear c56
                                  by_cases c57 : (ji55) < ((rd_L1 y123 x44_3).length : Int)
                                  ·rw [if_pos c57] at H
                                   have c57b0 : decide ((ji55) < ((rd_L1 y123 x44_3).length : Int)) = true := decide_eq_true c57
                                   clear c57
                                   obtain ⟨y128, hy128⟩ : ∃ y_ : List Int, y_ = ((rd_L1 y123 x44_3).set (x58_4 : Int).toNat (wrap64 ((rd (rd_L1 y123 x44_3) x58_4) + (rd (rd_L1 y123 x44_3) (ji55))))) := ⟨_, rfl⟩
                                   replace H : (till_Ballot.l1 kj32 a0 a1 a2 (y123.set (x44_3 : Int).toNat y128) x44_3 (y104.length : Int) x44_3 ((rd_L1 y112 x44_3).length : Int) (wrap64 (x58_4 + 1))) = some (r1, r2) := by first | (rw [hy128]; with_reducible exact H) | (have H2_ := (Option.bind_some _ _).symm.trans H; rw [hy128]; with_reducible exact H2_) | (have H2_ := (Option.bind_some _ _).symm.trans H; with_reducible exact H2_) | with_reducible exact H | (rw [hy128]; exact H) | exact H
                                   have Ny128 := Aside0.mk hy128
                                   clear hy128
                                   obtain ⟨y130, hy130⟩ : ∃ y_ : List (List Int), y_ = (y123.set (x44_3 : Int).toNat y128) := ⟨_, rfl⟩
                                   replace H : (till_Ballot.l1 kj32 a0 a1 a2 y130 x44_3 (y104.length : Int) x44_3 ((rd_L1 y112 x44_3).length : Int) (wrap64 (x58_4 + 1))) = some (r1, r2) := by first | (rw [hy130]; with_reducible exact H) | (have H2_ := (Option.bind_some _ _).symm.trans H; rw [hy130]; with_reducible exact H2_) | (have H2_ := (Option.bind_some _ _).symm.trans H; with_reducible exact H2_) | with_reducible exact H | (rw [hy130]; exact H) | exact H
                                   have Ny130 := Aside0.mk hy130
                                   clear hy130
                                   have H' := Aside0.mk H
                                   clear H
                                   try go_wp2
                                   have n0_ := Aside0.mk (Kd.S_drew HO_9.out)
                                   have n1_ := Aside0.mk (below_drew1 HB.out)
                                   clear HO_9
                                   clear HB
                                   have HO_9 := n0_
                                   have HB := n1_
                                   clear n0_ n1_
                                   have p118 : 0 ≤ (x44_3 : Int) := of_decide_eq_true (by first | (with_reducible assumption) | assumption)
                                   have q118 : x44_3 < (x9_4.length : Int) := of_decide_eq_true (by first | (with_reducible assumption) | assumption)
                                   obtain ⟨ad118, A118_0, c118_0, e118, hx118_0, hl118_0, hi118_0⟩ := at_L1 (Kd.S_reads' HO_9.out).2.2 x44_3 p118 q118
                                   obtain rfl : (⟨go27, 0, none⟩ : Addr) = ad118 := (by injection e118)
                                   obtain ⟨ce118, hce118, hMe118, hcc118⟩ := Kd.S_get HO_9.out [] x44_3 p118 (by first | exact q118 | exact of_decide_eq_true (by first | (with_reducible assumption) | assumption) | (have e_ := (Kd.S_reads' HO_9.out).1; omega))
                                   obtain ⟨ve118_0, rfl, ge118_0⟩ := hMe118
                                   have hv118_0 := hcc118 0 _ rfl
                                   rw [Nat.add_zero, show ((Kd.slice 3 (Kd.int .i64))).sz = 1 from rfl, Nat.mul_one] at hv118_0
                                   replace hv118_0 := Option.some.inj (hv118_0.symm.trans hx118_0)
                                   rw [hv118_0] at ge118_0
                                   have HL118_0 := Aside0.mk (show Kd.R (Kd.int .i64) 3 _ _ _ _ (rd_L1 x9_4 x44_3) from ge118_0)
                                   clear hv118_0 ge118_0
                                   have HX118_0 := Aside0.mk hx118_0
                                   clear hcc118 hce118
                                   (first | simp only [add_plain] at hx118_0 | simp only [add_at] at hx118_0 | simp only [Addr.add, Nat.zero_add] at hx118_0 | skip)
                                   have HR118_0 := Aside0.mk hi118_0
                                   have HC118_0 := Aside0.mk hl118_0
                                   clear hi118_0 hl118_0
                                   replace p118 := eq_true p118
                                   replace q118 := eq_true q118
                                   have p119 : 0 ≤ ((ji46) : Int) := of_decide_eq_true (by first | (with_reducible assumption) | assumption)
                                   have q119 : (ji46) < (x9_4.length : Int) := of_decide_eq_true (by first | (with_reducible assumption) | assumption)
                                   obtain ⟨ad119, A119_0, c119_0, e119, hx119_0, hl119_0, hi119_0⟩ := at_L1 (Kd.S_reads' HO_9.out).2.2 (ji46) p119 q119
                                   obtain rfl : (⟨go27, 0, none⟩ : Addr) = ad119 := (by injection e119)
                                   obtain ⟨ce119, hce119, hMe119, hcc119⟩ := Kd.S_get HO_9.out [] (ji46) p119 (by first | exact q119 | exact of_decide_eq_true (by first | (with_reducible assumption) | assumption) | (have e_ := (Kd.S_reads' HO_9.out).1; omega))
                                   obtain ⟨ve119_0, rfl, ge119_0⟩ := hMe119
                                   have hv119_0 := hcc119 0 _ rfl
                                   rw [Nat.add_zero, show ((Kd.slice 3 (Kd.int .i64))).sz = 1 from rfl, Nat.mul_one] at hv119_0
                                   replace hv119_0 := Option.some.inj (hv119_0.symm.trans hx119_0)
                                   rw [hv119_0] at ge119_0
                                   have HL119_0 := Aside0.mk (show Kd.R (Kd.int .i64) 3 _ _ _ _ (rd_L1 x9_4 (ji46)) from ge119_0)
                                   clear hv119_0 ge119_0
                                   have HX119_0 := Aside0.mk hx119_0
                                   clear hcc119 hce119
                                   (first | simp only [add_plain] at hx119_0 | simp only [add_at] at hx119_0 | simp only [Addr.add, Nat.zero_add] at hx119_0 | skip)
                                   have HR119_0 := Aside0.mk hi119_0
                                   have HC119_0 := Aside0.mk hl119_0
                                   clear hi119_0 hl119_0
                                   replace p119 := eq_true p119
                                   replace q119 := eq_true q119
                                   have p120 : 0 ≤ (x58_4 : Int) := of_decide_eq_true (by first | (with_reducible assumption) | assumption)
                                   have q120 : x58_4 < ((rd_L1 x9_4 (ji46)).length : Int) := of_decide_eq_true (by first | (with_reducible assumption) | assumption)
                                   obtain ⟨ad120, e120, hx120_0⟩ := Kd.at_int (by repeat (first | (with_reducible exact HR119_0.out) | (with_reducible refine Kd.C_alloc ?_ _) | (with_reducible refine Kd.C_drewN ?_ _) | (with_reducible refine Kd.C_drew ?_) | exact HR119_0.out)) x58_4 p120 q120
                                   cases e120
                                   replace p120 := eq_true p120
                                   replace q120 := eq_true q120
                                   have p52 : 0 ≤ (x58_4 : Int) := of_decide_eq_true (by first | (with_reducible assumption) | assumption)
                                   have q52 : (x58_4 : Int) < (((rd_L1 x9_4 x44_3).length : Int) : Int) := of_decide_eq_true (by first | (with_reducible assumption) | assumption)
                                   obtain ⟨go52, co52, eo52, gb52, gl52, cl52, HG52⟩ := Kd.R_form HL118_0.out (by omega)
                                   (first | cases eo52 | (injection eo52 with ea_ en_ ec_; (first | subst ea_ | (injection ea_ with ea_; subst ea_)); subst ec_; clear en_))
                                   have GB52 := Aside0.mk gb52
                                   have GG52 := Aside0.mk HG52
                                   clear gb52 gl52 HG52
                                   obtain ⟨hx52_0, hf52_0⟩ := Kd.R_celln 0 HL118_0.out (x58_4 : Int) p52 q52
                                   replace p52 := eq_true p52
                                   replace q52 := eq_true q52
                                   have hq60 : (x44_3 : Int) < (x9_4.length : Int) := (by have h_ : (x44_3 : Int) < ((x9_4.length : Int) : Int) := of_decide_eq_true (by first | (with_reducible assumption) | assumption); first | exact h_ | (have e_ := (Kd.S_reads' HO_9.out).1; omega) | simpa only [List.length_set, List.length_set] using h_)
                                   obtain ⟨oki60, ce60, hcl60, hM60, hcc60, hok60, hbk60⟩ := Kd.S_borrow HO_9.out [] (x44_3 : Int) (of_decide_eq_true (by first | (with_reducible assumption) | assumption)) hq60
                                   obtain ⟨ve60_0, rfl, ge60_0⟩ := hM60
                                   have hv60 := hcc60 0 _ rfl
                                   rw [Nat.add_zero, show ((Kd.slice 3 (Kd.int .i64))).sz = 1 from rfl, Nat.mul_one] at hv60
                                   replace hv60 := Option.some.inj (hv60.symm.trans HX118_0.out)
                                   subst hv60
                                   clear hcc60 hcl60
                                   replace ge60_0 := (show Kd.R (Kd.int .i64) 3 _ _ _ _ (rd_L1 x9_4 x44_3) from ge60_0)
                                   have HP60 := Kd.R_putg ge60_0 (x58_4 : Int) (rd (rd_L1 x9_4 (ji46)) x58_4)
                                   rw [← Ny121.out] at HP60
                                   have HS60 := hbk60 HP60.2 (fun k_ e_ => by injection e_ with e_; subst e_; exact ge60_0.1 _ rfl) (x' := y121) (Kd.M_row HP60.1)
                                   rw [← Ny123.out] at HS60
                                   have HQ60 := Aside0.mk HS60
                                   clear HP60 HS60 hbk60 hok60
                                   refine start_ (n := 15) (S := fun w' => w'.cell? ⟨go27, (x44_3).toNat, none⟩ = some (.slice (some ⟨go52, 0, none⟩) (rd_L1 x9_4 x44_3).length c118_0) ∧ w'.cell? ⟨go27, ((ji46)).toNat, none⟩ = some (.slice (some ad120) (rd_L1 x9_4 (ji46)).length c119_0) ∧ w'.cell? (ad120.add (x58_4).toNat) = some (.int .i64 (rd (rd_L1 x9_4 (ji46)) x58_4))) (ds := [14]) #[false, false, false, false, false, false, false, false, false, false, false, false, false, false, false] (by kernel_rfl) rfl rfl ⟨hx118_0, hx119_0, hx120_0⟩ (fun hHeld => ?_); refine with_tabW till_Ballot.tab19 till_Ballot.bits19 (fun HT_ HW_ => ?_)
                                   generalize wc.drew = w59 at HO_9 HB GG52 HL118_0 HL119_0 HQ60 HR118_0 HR119_0 HX118_0 HX119_0 hf52_0 hx118_0 hx119_0 hx120_0 hx52_0 hHeld ⊢
                                   refine pure_ (i := 0) (N := some 80) (v := ?_) (a' := ?_) #[true, false, false, false, false, false, false, false, false, false, false, false, false, false, false] rfl rfl (any_of HT_.out (by kernel_rfl)) (fun _ _ _ h => h) (Or.inl ⟨by rfl, ?_⟩) ?_ ?_
                                   rotate_left
                                   ·intro w'
                                    go_simp
                                    with_reducible rfl
                                   rotate_left
                                   ·simp only [Act.put, List.setIfInBounds_toArray, List.set_cons_zero, List.set_cons_succ, i64_w, i32_w]
                                    rfl
                                   refine pure_ (i := 1) (N := some 81) (v := ?_) (a' := ?_) #[true, true, false, false, false, false, false, false, false, false, false, false, false, false, false] rfl rfl (any_of HT_.out (by kernel_rfl)) (fun _ _ _ h => h) (Or.inl ⟨by rfl, ?_⟩) ?_ ?_
                                   rotate_left
                                   ·intro w'
                                    go_simp
                                    with_reducible rfl
                                   rotate_left
                                   ·simp only [Act.put, List.setIfInBounds_toArray, List.set_cons_zero, List.set_cons_succ, i64_w, i32_w]
                                    rfl
                                   refine pure_ (i := 2) (N := some 82) (v := ?_) (a' := ?_) #[true, true, true, false, false, false, false, false, false, false, false, false, false, false, false] rfl rfl (any_of HT_.out (by kernel_rfl)) (fun _ _ _ h => h) (Or.inl ⟨by rfl, ?_⟩) ?_ ?_
                                   rotate_left
                                   ·intro w'
                                    go_simp
                                    with_reducible rfl
                                   rotate_left
                                   ·simp only [Act.put, List.setIfInBounds_toArray, List.set_cons_zero, List.set_cons_succ, i64_w, i32_w]
                                    rfl
                                   refine pure_ (i := 4) (N := some 84) (v := ?_) (a' := ?_) #[true, true, true, false, true, false, false, false, false, false, false, false, false, false, false] rfl rfl (any_of HT_.out (by kernel_rfl)) (fun _ _ _ h => h) (Or.inl ⟨by rfl, ?_⟩) ?_ ?_
                                   rotate_left
                                   ·intro w'
                                    go_simp
                                    with_reducible rfl
                                   rotate_left
                                   ·simp only [Act.put, List.setIfInBounds_toArray, List.set_cons_zero, List.set_cons_succ, i64_w, i32_w]
                                    rfl
                                   refine pure_ (i := 5) (N := some 85) (v := ?_) (a' := ?_) #[true, true, true, false, true, true, false, false, false, false, false, false, false, false, false] rfl rfl (any_of HT_.out (by kernel_rfl)) (fun _ _ _ h => h) (Or.inl ⟨by rfl, ?_⟩) ?_ ?_
                                   rotate_left
                                   ·intro w'
                                    go_simp
                                    with_reducible rfl
                                   rotate_left
                                   ·simp only [Act.put, List.setIfInBounds_toArray, List.set_cons_zero, List.set_cons_succ, i64_w, i32_w]
                                    rfl
                                   refine pure_ (i := 6) (N := some 86) (v := ?_) (a' := ?_) #[true, true, true, false, true, true, true, false, false, false, false, false, false, false, false] rfl rfl (any_of HT_.out (by kernel_rfl)) (fun _ _ _ h => h) (Or.inl ⟨by rfl, ?_⟩) ?_ ?_
                                   rotate_left
                                   ·intro w'
                                    go_simp
                                    with_reducible rfl
                                   rotate_left
                                   ·simp only [Act.put, List.setIfInBounds_toArray, List.set_cons_zero, List.set_cons_succ, i64_w, i32_w]
                                    rfl
                                   refine pure_ (i := 7) (N := some 87) (v := ?_) (a' := ?_) #[true, true, true, false, true, true, true, true, false, false, false, false, false, false, false] rfl rfl (any_of HT_.out (by kernel_rfl)) (fun _ _ _ h => h) (Or.inl ⟨by rfl, ?_⟩) ?_ ?_
                                   rotate_left
                                   ·intro w'
                                    go_simp
                                    with_reducible rfl
                                   rotate_left
                                   ·simp only [Act.put, List.setIfInBounds_toArray, List.set_cons_zero, List.set_cons_succ, i64_w, i32_w]
                                    rfl
                                   refine pure_ (i := 8) (N := some 88) (v := ?_) (a' := ?_) #[true, true, true, false, true, true, true, true, true, false, false, false, false, false, false] rfl rfl (any_of HT_.out (by kernel_rfl)) (fun _ _ _ h => h) (Or.inl ⟨by rfl, ?_⟩) ?_ ?_
                                   rotate_left
                                   ·intro w'
                                    go_simp
                                    with_reducible rfl
                                   rotate_left
                                   ·simp only [Act.put, List.setIfInBounds_toArray, List.set_cons_zero, List.set_cons_succ, i64_w, i32_w]
                                    rfl
                                   refine pure_ (i := 10) (N := some 90) (v := ?_) (a' := ?_) #[true, true, true, false, true, true, true, true, true, false, true, false, false, false, false] rfl rfl (any_of HT_.out (by kernel_rfl)) (fun _ _ _ h => h) (Or.inl ⟨by rfl, ?_⟩) ?_ ?_
                                   rotate_left
                                   ·intro w'
                                    go_simp
                                    with_reducible rfl
                                   rotate_left
                                   ·simp only [Act.put, List.setIfInBounds_toArray, List.set_cons_zero, List.set_cons_succ, i64_w, i32_w]
                                    rfl
                                   refine take_ (i := 3) (N := some 83) (v := ?_) (a' := ?_) #[true, true, true, true, true, true, true, true, true, false, true, false, false, false, false] rfl rfl (take_ofW HT_.out HW_.out (by kernel_rfl)) (fun _ _ _ h => h) (Or.inl ⟨by rfl, ?_⟩) hHeld ?_ ?_
                                   rotate_left
                                   ·rintro w' ⟨s0, s1, s2⟩
                                    go_simp
                                    with_reducible rfl
                                   rotate_left
                                   ·simp only [Act.put, List.setIfInBounds_toArray, List.set_cons_zero, List.set_cons_succ, i64_w, i32_w]
                                    rfl
                                   refine take_ (i := 9) (N := some 89) (v := ?_) (a' := ?_) #[true, true, true, true, true, true, true, true, true, true, true, false, false, false, false] rfl rfl (take_ofW HT_.out HW_.out (by kernel_rfl)) (fun _ _ _ h => h) (Or.inl ⟨by rfl, ?_⟩) hHeld ?_ ?_
                                   rotate_left
                                   ·rintro w' ⟨s0, s1, s2⟩
                                    go_simp
                                    with_reducible rfl
                                   rotate_left
                                   ·simp only [Act.put, List.setIfInBounds_toArray, List.set_cons_zero, List.set_cons_succ, i64_w, i32_w]
                                    rfl
                                   refine pure_ (i := 11) (N := some 91) (v := ?_) (a' := ?_) #[true, true, true, true, true, true, true, true, true, true, true, true, false, false, false] rfl rfl (any_of HT_.out (by kernel_rfl)) (fun _ _ _ h => h) (Or.inl ⟨by rfl, ?_⟩) ?_ ?_
                                   rotate_left
                                   ·intro w'
                                    go_simp
                                    with_reducible rfl
                                   rotate_left
                                   ·simp only [Act.put, List.setIfInBounds_toArray, List.set_cons_zero, List.set_cons_succ, i64_w, i32_w]
                                    rfl
                                   refine take_ (i := 12) (N := some 92) (v := ?_) (a' := ?_) #[true, true, true, true, true, true, true, true, true, true, true, true, true, false, false] rfl rfl (take_ofW HT_.out HW_.out (by kernel_rfl)) (fun _ _ _ h => h) (Or.inl ⟨by rfl, ?_⟩) hHeld ?_ ?_
                                   rotate_left
                                   ·rintro w' ⟨s0, s1, s2⟩
                                    go_simp
                                    with_reducible rfl
                                   rotate_left
                                   ·simp only [Act.put, List.setIfInBounds_toArray, List.set_cons_zero, List.set_cons_succ, i64_w, i32_w]
                                    rfl
                                   refine pure_ (i := 13) (N := some 93) (v := ?_) (a' := ?_) #[true, true, true, true, true, true, true, true, true, true, true, true, true, true, false] rfl rfl (any_of HT_.out (by kernel_rfl)) (fun _ _ _ h => h) (Or.inl ⟨by rfl, ?_⟩) ?_ ?_
                                   rotate_left
                                   ·intro w'
                                    go_simp
                                    with_reducible rfl
                                   rotate_left
                                   ·simp only [Act.put, List.setIfInBounds_toArray, List.set_cons_zero, List.set_cons_succ, i64_w, i32_w]
                                    rfl
                                   refine last_ (i := 14) (N := none) #[true, true, true, true, true, true, true, true, true, true, true, true, true, true, true] rfl rfl (one_of HT_.out (by kernel_rfl)) (by decide) (fun K hK => ?_)
                                   refine skip_ (w1 := ?_) (by rfl) rfl ?_ ?_
                                   rotate_left
                                   ·go_simp
                                    rfl
                                   refine hK.out _ _ ?_
                                   clear hK K
                                   refine done_ (done_of HT_.out (by kernel_rfl)) ?_
                                   try go_wp2
                                   have n0_ : Aside0 (Kd.S (Kd.slice 3 (Kd.int .i64)) 22 (w59.setCell ⟨go52, (x58_4 : Int).toNat, none⟩ (.int .i64 (rd (rd_L1 x9_4 (ji46)) x58_4))) w.heap.size (fun _ => True) (.slice (some ⟨go27, 0, none⟩) x9_4.length co20) y123) := ⟨by (with_reducible repeat (first | apply Kd.S_alloc | apply Kd.S_drewN | apply Kd.S_drew)); exact HQ60.out⟩
                                   have n1_ : Aside0 (Below w.heap.size w (w59.setCell ⟨go52, (x58_4 : Int).toNat, none⟩ (.int .i64 (rd (rd_L1 x9_4 (ji46)) x58_4)))) := ⟨by repeat (first | (with_reducible first | exact HB.out | apply below_alloc | apply pw_below_drewN | apply below_drew1 | refine below_set ?_ GB52.out) | exact HB.out)⟩
                                   (try clear HO_9)
                                   (try clear HB)
                                   generalize (w59.setCell ⟨go52, (x58_4 : Int).toNat, none⟩ (.int .i64 (rd (rd_L1 x9_4 (ji46)) x58_4))) = w62 at n0_ n1_ ⊢
                                   have HO_9 := n0_
                                   have HB := n1_
                                   clear n0_ n1_
                                   have n0_ := Aside0.mk (Kd.S_drew HO_9.out)
                                   have n1_ := Aside0.mk (below_drew1 HB.out)
                                   clear HO_9
                                   clear HB
                                   have HO_9 := n0_
                                   have HB := n1_
                                   clear n0_ n1_
                                   have p124 : 0 ≤ (x44_3 : Int) := of_decide_eq_true (by first | (with_reducible assumption) | assumption)
                                   have q124 : x44_3 < (y123.length : Int) := (by have h_ : (x44_3 : Int) < ((x9_4.length : Int) : Int) := of_decide_eq_true (by first | (with_reducible assumption) | assumption); first | (have e_ := (Kd.S_reads' HO_9.out).1; omega) | simpa only [Ny123.out, List.length_set] using h_)
                                   have ql124 : ((x44_3 : Int) < ((x9_4.length : Int) : Int)) = True := eq_true (of_decide_eq_true (by first | (with_reducible assumption) | assumption))
                                   obtain ⟨ad124, A124_0, c124_0, e124, hx124_0, hl124_0, hi124_0⟩ := at_L1 (Kd.S_reads' HO_9.out).2.2 x44_3 p124 q124
                                   obtain rfl : (⟨go27, 0, none⟩ : Addr) = ad124 := (by injection e124)
                                   obtain ⟨ce124, hce124, hMe124, hcc124⟩ := Kd.S_get HO_9.out [] x44_3 p124 (by first | exact q124 | exact of_decide_eq_true (by first | (with_reducible assumption) | assumption) | (have e_ := (Kd.S_reads' HO_9.out).1; omega))
                                   obtain ⟨ve124_0, rfl, ge124_0⟩ := hMe124
                                   have hv124_0 := hcc124 0 _ rfl
                                   rw [Nat.add_zero, show ((Kd.slice 3 (Kd.int .i64))).sz = 1 from rfl, Nat.mul_one] at hv124_0
                                   replace hv124_0 := Option.some.inj (hv124_0.symm.trans hx124_0)
                                   rw [hv124_0] at ge124_0
                                   have HL124_0 := Aside0.mk (show Kd.R (Kd.int .i64) 3 _ _ _ _ (rd_L1 y123 x44_3) from ge124_0)
                                   clear hv124_0 ge124_0
                                   have HX124_0 := Aside0.mk hx124_0
                                   clear hcc124 hce124
                                   (first | simp only [add_plain] at hx124_0 | simp only [add_at] at hx124_0 | simp only [Addr.add, Nat.zero_add] at hx124_0 | skip)
                                   have HR124_0 := Aside0.mk hi124_0
                                   have HC124_0 := Aside0.mk hl124_0
                                   clear hi124_0 hl124_0
                                   replace p124 := eq_true p124
                                   replace q124 := eq_true q124
                                   have p125 : 0 ≤ (x58_4 : Int) := of_decide_eq_true (by first | (with_reducible assumption) | assumption)
                                   have q125 : x58_4 < ((rd_L1 y123 x44_3).length : Int) := of_decide_eq_true (by first | (with_reducible assumption) | assumption)
                                   obtain ⟨ad125, e125, hx125_0⟩ := Kd.at_int (by repeat (first | (with_reducible exact HR124_0.out) | (with_reducible refine Kd.C_alloc ?_ _) | (with_reducible refine Kd.C_drewN ?_ _) | (with_reducible refine Kd.C_drew ?_) | exact HR124_0.out)) x58_4 p125 q125
                                   cases e125
                                   replace p125 := eq_true p125
                                   replace q125 := eq_true q125
                                   have p126 : 0 ≤ (x44_3 : Int) := of_decide_eq_true (by first | (with_reducible assumption) | assumption)
                                   have q126 : x44_3 < (y123.length : Int) := (by have h_ : (x44_3 : Int) < ((x9_4.length : Int) : Int) := of_decide_eq_true (by first | (with_reducible assumption) | assumption); first | (have e_ := (Kd.S_reads' HO_9.out).1; omega) | simpa only [Ny123.out, List.length_set] using h_)
                                   have ql126 : ((x44_3 : Int) < ((x9_4.length : Int) : Int)) = True := eq_true (of_decide_eq_true (by first | (with_reducible assumption) | assumption))
                                   obtain ⟨ad126, A126_0, c126_0, e126, hx126_0, hl126_0, hi126_0⟩ := at_L1 (Kd.S_reads' HO_9.out).2.2 x44_3 p126 q126
                                   obtain rfl : (⟨go27, 0, none⟩ : Addr) = ad126 := (by injection e126)
                                   obtain ⟨ce126, hce126, hMe126, hcc126⟩ := Kd.S_get HO_9.out [] x44_3 p126 (by first | exact q126 | exact of_decide_eq_true (by first | (with_reducible assumption) | assumption) | (have e_ := (Kd.S_reads' HO_9.out).1; omega))
                                   obtain ⟨ve126_0, rfl, ge126_0⟩ := hMe126
                                   have hv126_0 := hcc126 0 _ rfl
                                   rw [Nat.add_zero, show ((Kd.slice 3 (Kd.int .i64))).sz = 1 from rfl, Nat.mul_one] at hv126_0
                                   replace hv126_0 := Option.some.inj (hv126_0.symm.trans hx126_0)
                                   rw [hv126_0] at ge126_0
                                   have HL126_0 := Aside0.mk (show Kd.R (Kd.int .i64) 3 _ _ _ _ (rd_L1 y123 x44_3) from ge126_0)
                                   clear hv126_0 ge126_0
                                   have HX126_0 := Aside0.mk hx126_0
                                   clear hcc126 hce126
                                   (first | simp only [add_plain] at hx126_0 | simp only [add_at] at hx126_0 | simp only [Addr.add, Nat.zero_add] at hx126_0 | skip)
                                   have HR126_0 := Aside0.mk hi126_0
                                   have HC126_0 := Aside0.mk hl126_0
                                   clear hi126_0 hl126_0
                                   replace p126 := eq_true p126
                                   replace q126 := eq_true q126
                                   have ea_ := Option.some.inj (hx124_0.symm.trans hx126_0)
                                   injection ea_ with ea_ en_ ec_
                                   subst ea_
                                   subst ec_
                                   clear en_
                                   have p127 : 0 ≤ ((ji55) : Int) := of_decide_eq_true (by first | (with_reducible assumption) | assumption)
                                   have q127 : (ji55) < ((rd_L1 y123 x44_3).length : Int) := of_decide_eq_true (by first | (with_reducible assumption) | assumption)
                                   obtain ⟨ad127, e127, hx127_0⟩ := Kd.at_int (by repeat (first | (with_reducible exact HR126_0.out) | (with_reducible refine Kd.C_alloc ?_ _) | (with_reducible refine Kd.C_drewN ?_ _) | (with_reducible refine Kd.C_drew ?_) | exact HR126_0.out)) (ji55) p127 q127
                                   cases e127
                                   replace p127 := eq_true p127
                                   replace q127 := eq_true q127
                                   have p58 : 0 ≤ (x58_4 : Int) := of_decide_eq_true (by first | (with_reducible assumption) | assumption)
                                   have q58 : (x58_4 : Int) < (((rd_L1 y123 x44_3).length : Int) : Int) := of_decide_eq_true (by first | (with_reducible assumption) | assumption)
                                   obtain ⟨go58, co58, eo58, gb58, gl58, cl58, HG58⟩ := Kd.R_form HL124_0.out (by omega)
                                   (first | cases eo58 | (injection eo58 with ea_ en_ ec_; (first | subst ea_ | (injection ea_ with ea_; subst ea_)); subst ec_; clear en_))
                                   have GB58 := Aside0.mk gb58
                                   have GG58 := Aside0.mk HG58
                                   clear gb58 gl58 HG58
                                   (first | simp only [add_plain] at hx127_0 | skip); (first | simp only [add_plain] at hx125_0 | skip)
                                   obtain ⟨hx58_0, hf58_0⟩ := Kd.R_celln 0 HL124_0.out (x58_4 : Int) p58 q58
                                   replace p58 := eq_true p58
                                   replace q58 := eq_true q58
                                   have hq64 : (x44_3 : Int) < (x9_4.length : Int) := (by have h_ : (x44_3 : Int) < ((x9_4.length : Int) : Int) := of_decide_eq_true (by first | (with_reducible assumption) | assumption); first | exact h_ | (have e_ := (Kd.S_reads' HO_9.out).1; omega) | simpa only [Ny123.out, List.length_set] using h_)
                                   obtain ⟨oki64, ce64, hcl64, hM64, hcc64, hok64, hbk64⟩ := Kd.S_borrow HO_9.out [] (x44_3 : Int) (of_decide_eq_true (by first | (with_reducible assumption) | assumption)) hq64
                                   obtain ⟨ve64_0, rfl, ge64_0⟩ := hM64
                                   have hv64 := hcc64 0 _ rfl
                                   rw [Nat.add_zero, show ((Kd.slice 3 (Kd.int .i64))).sz = 1 from rfl, Nat.mul_one] at hv64
                                   replace hv64 := Option.some.inj (hv64.symm.trans HX124_0.out)
                                   subst hv64
                                   clear hcc64 hcl64
                                   replace ge64_0 := (show Kd.R (Kd.int .i64) 3 _ _ _ _ (rd_L1 y123 x44_3) from ge64_0)
                                   have HP64 := Kd.R_putg ge64_0 (x58_4 : Int) (wrap64 ((rd (rd_L1 y123 x44_3) x58_4) + (rd (rd_L1 y123 x44_3) (ji55))))
                                   rw [← Ny128.out] at HP64
                                   have HS64 := hbk64 HP64.2 (fun k_ e_ => by injection e_ with e_; subst e_; exact ge64_0.1 _ rfl) (x' := y128) (Kd.M_row HP64.1)
                                   rw [← Ny130.out] at HS64
                                   have HQ64 := Aside0.mk HS64
                                   clear HP64 HS64 hbk64 hok64
                                   refine start_ (n := 18) (S := fun w' => w'.cell? ⟨go27, (x44_3).toNat, none⟩ = some (.slice (some ⟨go58, 0, none⟩) (rd_L1 y123 x44_3).length c124_0) ∧ w'.cell? ⟨go58, (x58_4).toNat, none⟩ = some (.int .i64 (rd (rd_L1 y123 x44_3) x58_4)) ∧ w'.cell? ⟨go27, (x44_3).toNat, none⟩ = some (.slice (some ⟨go58, 0, none⟩) (rd_L1 y123 x44_3).length c124_0) ∧ w'.cell? ⟨go58, ((ji55)).toNat, none⟩ = some (.int .i64 (rd (rd_L1 y123 x44_3) (ji55)))) (ds := [17]) #[false, false, false, false, false, false, false, false, false, false, false, false, false, false, false, false, false, false] (by kernel_rfl) rfl rfl ⟨hx124_0, hx125_0, hx126_0, hx127_0⟩ (fun hHeld => ?_); refine with_tabW till_Ballot.tab21 till_Ballot.bits21 (fun HT_ HW_ => ?_)
                                   generalize w62.drew = w63 at HO_9 HB GG58 HL124_0 HL126_0 HQ60 HQ64 HR124_0 HR126_0 HX124_0 HX126_0 hf58_0 hx124_0 hx125_0 hx126_0 hx127_0 hx58_0 hHeld ⊢
                                   refine pure_ (i := 0) (N := some 96) (v := ?_) (a' := ?_) #[true, false, false, false, false, false, false, false, false, false, false, false, false, false, false, false, false, false] rfl rfl (any_of HT_.out (by kernel_rfl)) (fun _ _ _ h => h) (Or.inl ⟨by rfl, ?_⟩) ?_ ?_
                                   rotate_left
                                   ·intro w'
                                    go_simp
                                    with_reducible rfl
                                   rotate_left
                                   ·simp only [Act.put, List.setIfInBounds_toArray, List.set_cons_zero, List.set_cons_succ, i64_w, i32_w]
                                    rfl
                                   refine pure_ (i := 1) (N := some 97) (v := ?_) (a' := ?_) #[true, true, false, false, false, false, false, false, false, false, false, false, false, false, false, false, false, false] rfl rfl (any_of HT_.out (by kernel_rfl)) (fun _ _ _ h => h) (Or.inl ⟨by rfl, ?_⟩) ?_ ?_
                                   rotate_left
                                   ·intro w'
                                    go_simp
                                    with_reducible rfl
                                   rotate_left
                                   ·simp only [Act.put, List.setIfInBounds_toArray, List.set_cons_zero, List.set_cons_succ, i64_w, i32_w]
                                    rfl
                                   refine pure_ (i := 2) (N := some 98) (v := ?_) (a' := ?_) #[true, true, true, false, false, false, false, false, false, false, false, false, false, false, false, false, false, false] rfl rfl (any_of HT_.out (by kernel_rfl)) (fun _ _ _ h => h) (Or.inl ⟨by rfl, ?_⟩) ?_ ?_
                                   rotate_left
                                   ·intro w'
                                    go_simp
                                    with_reducible rfl
                                   rotate_left
                                   ·simp only [Act.put, List.setIfInBounds_toArray, List.set_cons_zero, List.set_cons_succ, i64_w, i32_w]
                                    rfl
                                   refine pure_ (i := 4) (N := some 100) (v := ?_) (a' := ?_) #[true, true, true, false, true, false, false, false, false, false, false, false, false, false, false, false, false, false] rfl rfl (any_of HT_.out (by kernel_rfl)) (fun _ _ _ h => h) (Or.inl ⟨by rfl, ?_⟩) ?_ ?_
                                   rotate_left
                                   ·intro w'
                                    go_simp
                                    with_reducible rfl
                                   rotate_left
                                   ·simp only [Act.put, List.setIfInBounds_toArray, List.set_cons_zero, List.set_cons_succ, i64_w, i32_w]
                                    rfl
                                   refine pure_ (i := 7) (N := some 103) (v := ?_) (a' := ?_) #[true, true, true, false, true, false, false, true, false, false, false, false, false, false, false, false, false, false] rfl rfl (any_of HT_.out (by kernel_rfl)) (fun _ _ _ h => h) (Or.inl ⟨by rfl, ?_⟩) ?_ ?_
                                   rotate_left
                                   ·intro w'
                                    go_simp
                                    with_reducible rfl
                                   rotate_left
                                   ·simp only [Act.put, List.setIfInBounds_toArray, List.set_cons_zero, List.set_cons_succ, i64_w, i32_w]
                                    rfl
                                   refine pure_ (i := 8) (N := some 104) (v := ?_) (a' := ?_) #[true, true, true, false, true, false, false, true, true, false, false, false, false, false, false, false, false, false] rfl rfl (any_of HT_.out (by kernel_rfl)) (fun _ _ _ h => h) (Or.inl ⟨by rfl, ?_⟩) ?_ ?_
                                   rotate_left
                                   ·intro w'
                                    go_simp
                                    with_reducible rfl
                                   rotate_left
                                   ·simp only [Act.put, List.setIfInBounds_toArray, List.set_cons_zero, List.set_cons_succ, i64_w, i32_w]
                                    rfl
                                   refine pure_ (i := 9) (N := some 105) (v := ?_) (a' := ?_) #[true, true, true, false, true, false, false, true, true, true, false, false, false, false, false, false, false, false] rfl rfl (any_of HT_.out (by kernel_rfl)) (fun _ _ _ h => h) (Or.inl ⟨by rfl, ?_⟩) ?_ ?_
                                   rotate_left
                                   ·intro w'
                                    go_simp
                                    with_reducible rfl
                                   rotate_left
                                   ·simp only [Act.put, List.setIfInBounds_toArray, List.set_cons_zero, List.set_cons_succ, i64_w, i32_w]
                                    rfl
                                   refine pure_ (i := 11) (N := some 107) (v := ?_) (a' := ?_) #[true, true, true, false, true, false, false, true, true, true, false, true, false, false, false, false, false, false] rfl rfl (any_of HT_.out (by kernel_rfl)) (fun _ _ _ h => h) (Or.inl ⟨by rfl, ?_⟩) ?_ ?_
                                   rotate_left
                                   ·intro w'
                                    go_simp
                                    with_reducible rfl
                                   rotate_left
                                   ·simp only [Act.put, List.setIfInBounds_toArray, List.set_cons_zero, List.set_cons_succ, i64_w, i32_w]
                                    rfl
                                   refine pure_ (i := 12) (N := some 108) (v := ?_) (a' := ?_) #[true, true, true, false, true, false, false, true, true, true, false, true, true, false, false, false, false, false] rfl rfl (any_of HT_.out (by kernel_rfl)) (fun _ _ _ h => h) (Or.inl ⟨by rfl, ?_⟩) ?_ ?_
                                   rotate_left
                                   ·intro w'
                                    go_simp
                                    with_reducible rfl
                                   rotate_left
                                   ·simp only [Act.put, List.setIfInBounds_toArray, List.set_cons_zero, List.set_cons_succ, i64_w, i32_w]
                                    rfl
                                   refine take_ (i := 3) (N := some 99) (v := ?_) (a' := ?_) #[true, true, true, true, true, false, false, true, true, true, false, true, true, false, false, false, false, false] rfl rfl (take_ofW HT_.out HW_.out (by kernel_rfl)) (fun _ _ _ h => h) (Or.inl ⟨by rfl, ?_⟩) hHeld ?_ ?_
                                   rotate_left
                                   ·rintro w' ⟨s0, s1, s2, s3⟩
                                    go_simp
                                    with_reducible rfl
                                   rotate_left
                                   ·simp only [Act.put, List.setIfInBounds_toArray, List.set_cons_zero, List.set_cons_succ, i64_w, i32_w]
                                    rfl
                                   refine pure_ (i := 5) (N := some 101) (v := ?_) (a' := ?_) #[true, true, true, true, true, true, false, true, true, true, false, true, true, false, false, false, false, false] rfl rfl (any_of HT_.out (by kernel_rfl)) (fun _ _ _ h => h) (Or.inl ⟨by rfl, ?_⟩) ?_ ?_
                                   rotate_left
                                   ·intro w'
                                    go_simp
                                    with_reducible rfl
                                   rotate_left
                                   ·simp only [Act.put, List.setIfInBounds_toArray, List.set_cons_zero, List.set_cons_succ, i64_w, i32_w]
                                    rfl
                                   refine take_ (i := 6) (N := some 102) (v := ?_) (a' := ?_) #[true, true, true, true, true, true, true, true, true, true, false, true, true, false, false, false, false, false] rfl rfl (take_ofW HT_.out HW_.out (by kernel_rfl)) (fun _ _ _ h => h) (Or.inl ⟨by rfl, ?_⟩) hHeld ?_ ?_
                                   rotate_left
                                   ·rintro w' ⟨s0, s1, s2, s3⟩
                                    go_simp
                                    with_reducible rfl
                                   rotate_left
                                   ·simp only [Act.put, List.setIfInBounds_toArray, List.set_cons_zero, List.set_cons_succ, i64_w, i32_w]
                                    rfl
                                   refine take_ (i := 10) (N := some 106) (v := ?_) (a' := ?_) #[true, true, true, true, true, true, true, true, true, true, true, true, true, false, false, false, false, false] rfl rfl (take_ofW HT_.out HW_.out (by kernel_rfl)) (fun _ _ _ h => h) (Or.inl ⟨by rfl, ?_⟩) hHeld ?_ ?_
                                   rotate_left
                                   ·rintro w' ⟨s0, s1, s2, s3⟩
                                    go_simp
                                    with_reducible rfl
                                   rotate_left
                                   ·simp only [Act.put, List.setIfInBounds_toArray, List.set_cons_zero, List.set_cons_succ, i64_w, i32_w]
                                    rfl
                                   refine pure_ (i := 13) (N := some 109) (v := ?_) (a' := ?_) #[true, true, true, true, true, true, true, true, true, true, true, true, true, true, false, false, false, false] rfl rfl (any_of HT_.out (by kernel_rfl)) (fun _ _ _ h => h) (Or.inl ⟨by rfl, ?_⟩) ?_ ?_
                                   rotate_left
                                   ·intro w'
                                    go_simp
                                    with_reducible rfl
                                   rotate_left
                                   ·simp only [Act.put, List.setIfInBounds_toArray, List.set_cons_zero, List.set_cons_succ, i64_w, i32_w]
                                    rfl
                                   refine take_ (i := 14) (N := some 110) (v := ?_) (a' := ?_) #[true, true, true, true, true, true, true, true, true, true, true, true, true, true, true, false, false, false] rfl rfl (take_ofW HT_.out HW_.out (by kernel_rfl)) (fun _ _ _ h => h) (Or.inl ⟨by rfl, ?_⟩) hHeld ?_ ?_
                                   rotate_left
                                   ·rintro w' ⟨s0, s1, s2, s3⟩
                                    go_simp
                                    with_reducible rfl
                                   rotate_left
                                   ·simp only [Act.put, List.setIfInBounds_toArray, List.set_cons_zero, List.set_cons_succ, i64_w, i32_w]
                                    rfl
                                   refine pure_ (i := 15) (N := some 111) (v := ?_) (a' := ?_) #[true, true, true, true, true, true, true, true, true, true, true, true, true, true, true, true, false, false] rfl rfl (any_of HT_.out (by kernel_rfl)) (fun _ _ _ h => h) (Or.inl ⟨by rfl, ?_⟩) ?_ ?_
                                   rotate_left
                                   ·intro w'
                                    go_simp
                                    with_reducible rfl
                                   rotate_left
                                   ·simp only [Act.put, List.setIfInBounds_toArray, List.set_cons_zero, List.set_cons_succ, i64_w, i32_w]
                                    rfl
                                   refine pure_ (i := 16) (N := some 112) (v := ?_) (a' := ?_) #[true, true, true, true, true, true, true, true, true, true, true, true, true, true, true, true, true, false] rfl rfl (any_of HT_.out (by kernel_rfl)) (fun _ _ _ h => h) (Or.inl ⟨by rfl, ?_⟩) ?_ ?_
                                   rotate_left
                                   ·intro w'
                                    go_simp
                                    with_reducible rfl
                                   rotate_left
                                   ·simp only [Act.put, List.setIfInBounds_toArray, List.set_cons_zero, List.set_cons_succ, i64_w, i32_w]
                                    rfl
                                   refine last_ (i := 17) (N := none) #[true, true, true, true, true, true, true, true, true, true, true, true, true, true, true, true, true, true] rfl rfl (one_of HT_.out (by kernel_rfl)) (by decide) (fun K hK => ?_)
                                   refine skip_ (w1 := ?_) (by rfl) rfl ?_ ?_
                                   rotate_left
                                   ·go_simp
                                    rfl
                                   refine hK.out _ _ ?_
                                   clear hK K
                                   refine done_ (done_of HT_.out (by kernel_rfl)) ?_
                                   try go_wp2
                                   (try simp only [← hl9_4])
                                   go_roundg kj32
                                   case measure => have := HJ3.out; have := HJ10.out; have := HK3.out; have := HK4.out; have := HJ32.out; omega
                                   case rel => exact ⟨(y130), (wrap64 (x58_4 + 1)), (by first | rfl | (simp; done) | (simp [*]; done)), H', ⟨by have := HJ3.out; have := HJ10.out; have := HK3.out; have := HK4.out; have := HJ32.out; omega⟩, ⟨by (try simp only [hl9_3]); (try simp only [hl9_4]); (with_reducible repeat (first | apply Kd.S_alloc | apply Kd.S_drewN | apply Kd.S_drew)); exact HQ64.out⟩, ⟨by repeat (first | (with_reducible first | exact HB.out | apply below_alloc | apply pw_below_drewN | apply below_drew1 | refine below_set ?_ GB58.out) | exact HB.out)⟩⟩
                                  ·rw [if_neg c57] at H
                                   exact absurd H (by simp)
                                 ·rw [if_neg c56] at H
                                  exact absurd H (by simp)
                                ·rw [if_neg c54] at H
                                 exact absurd H (by simp)
                               ·rw [if_neg c53] at H
                                have c53b0 : decide (0 < x58_4) = false := decide_eq_false c53
                                clear c53
                                have H' := Aside0.mk H
                                clear H
                                try go_wp2
                                have n0_ := Aside0.mk (Kd.S_drew HO_9.out)
                                have n1_ := Aside0.mk (below_drew1 HB.out)
                                clear HO_9
                                clear HB
                                have HO_9 := n0_
                                have HB := n1_
                                clear n0_ n1_
                                have p118 : 0 ≤ (x44_3 : Int) := of_decide_eq_true (by first | (with_reducible assumption) | assumption)
                                have q118 : x44_3 < (x9_4.length : Int) := of_decide_eq_true (by first | (with_reducible assumption) | assumption)
                                obtain ⟨ad118, A118_0, c118_0, e118, hx118_0, hl118_0, hi118_0⟩ := at_L1 (Kd.S_reads' HO_9.out).2.2 x44_3 p118 q118
                                obtain rfl : (⟨go27, 0, none⟩ : Addr) = ad118 := (by injection e118)
                                obtain ⟨ce118, hce118, hMe118, hcc118⟩ := Kd.S_get HO_9.out [] x44_3 p118 (by first | exact q118 | exact of_decide_eq_true (by first | (with_reducible assumption) | assumption) | (have e_ := (Kd.S_reads' HO_9.out).1; omega))
                                obtain ⟨ve118_0, rfl, ge118_0⟩ := hMe118
                                have hv118_0 := hcc118 0 _ rfl
                                rw [Nat.add_zero, show ((Kd.slice 3 (Kd.int .i64))).sz = 1 from rfl, Nat.mul_one] at hv118_0
                                replace hv118_0 := Option.some.inj (hv118_0.symm.trans hx118_0)
                                rw [hv118_0] at ge118_0
                                have HL118_0 := Aside0.mk (show Kd.R (Kd.int .i64) 3 _ _ _ _ (rd_L1 x9_4 x44_3) from ge118_0)
                                clear hv118_0 ge118_0
                                have HX118_0 := Aside0.mk hx118_0
                                clear hcc118 hce118
                                (first | simp only [add_plain] at hx118_0 | simp only [add_at] at hx118_0 | simp only [Addr.add, Nat.zero_add] at hx118_0 | skip)
                                have HR118_0 := Aside0.mk hi118_0
                                have HC118_0 := Aside0.mk hl118_0
                                clear hi118_0 hl118_0
                                replace p118 := eq_true p118
                                replace q118 := eq_true q118
                                have p119 : 0 ≤ ((ji46) : Int) := of_decide_eq_true (by first | (with_reducible assumption) | assumption)
                                have q119 : (ji46) < (x9_4.length : Int) := of_decide_eq_true (by first | (with_reducible assumption) | assumption)
                                obtain ⟨ad119, A119_0, c119_0, e119, hx119_0, hl119_0, hi119_0⟩ := at_L1 (Kd.S_reads' HO_9.out).2.2 (ji46) p119 q119
                                obtain rfl : (⟨go27, 0, none⟩ : Addr) = ad119 := (by injection e119)
                                obtain ⟨ce119, hce119, hMe119, hcc119⟩ := Kd.S_get HO_9.out [] (ji46) p119 (by first | exact q119 | exact of_decide_eq_true (by first | (with_reducible assumption) | assumption) | (have e_ := (Kd.S_reads' HO_9.out).1; omega))
                                obtain ⟨ve119_0, rfl, ge119_0⟩ := hMe119
                                have hv119_0 := hcc119 0 _ rfl
                                rw [Nat.add_zero, show ((Kd.slice 3 (Kd.int .i64))).sz = 1 from rfl, Nat.mul_one] at hv119_0
                                replace hv119_0 := Option.some.inj (hv119_0.symm.trans hx119_0)
                                rw [hv119_0] at ge119_0
                                have HL119_0 := Aside0.mk (show Kd.R (Kd.int .i64) 3 _ _ _ _ (rd_L1 x9_4 (ji46)) from ge119_0)
                                clear hv119_0 ge119_0
                                have HX119_0 := Aside0.mk hx119_0
                                clear hcc119 hce119
                                (first | simp only [add_plain] at hx119_0 | simp only [add_at] at hx119_0 | simp only [Addr.add, Nat.zero_add] at hx119_0 | skip)
                                have HR119_0 := Aside0.mk hi119_0
                                have HC119_0 := Aside0.mk hl119_0
                                clear hi119_0 hl119_0
                                replace p119 := eq_true p119
                                replace q119 := eq_true q119
                                have p120 : 0 ≤ (x58_4 : Int) := of_decide_eq_true (by first | (with_reducible assumption) | assumption)
                                have q120 : x58_4 < ((rd_L1 x9_4 (ji46)).length : Int) := of_decide_eq_true (by first | (with_reducible assumption) | assumption)
                                obtain ⟨ad120, e120, hx120_0⟩ := Kd.at_int (by repeat (first | (with_reducible exact HR119_0.out) | (with_reducible refine Kd.C_alloc ?_ _) | (with_reducible refine Kd.C_drewN ?_ _) | (with_reducible refine Kd.C_drew ?_) | exact HR119_0.out)) x58_4 p120 q120
                                cases e120
                                replace p120 := eq_true p120
                                replace q120 := eq_true q120
                                have p52 : 0 ≤ (x58_4 : Int) := of_decide_eq_true (by first | (with_reducible assumption) | assumption)
                                have q52 : (x58_4 : Int) < (((rd_L1 x9_4 x44_3).length : Int) : Int) := of_decide_eq_true (by first | (with_reducible assumption) | assumption)
                                obtain ⟨go52, co52, eo52, gb52, gl52, cl52, HG52⟩ := Kd.R_form HL118_0.out (by omega)
                                (first | cases eo52 | (injection eo52 with ea_ en_ ec_; (first | subst ea_ | (injection ea_ with ea_; subst ea_)); subst ec_; clear en_))
                                have GB52 := Aside0.mk gb52
                                have GG52 := Aside0.mk HG52
                                clear gb52 gl52 HG52
                                obtain ⟨hx52_0, hf52_0⟩ := Kd.R_celln 0 HL118_0.out (x58_4 : Int) p52 q52
                                replace p52 := eq_true p52
                                replace q52 := eq_true q52
                                have hq67 : (x44_3 : Int) < (x9_4.length : Int) := (by have h_ : (x44_3 : Int) < ((x9_4.length : Int) : Int) := of_decide_eq_true (by first | (with_reducible assumption) | assumption); first | exact h_ | (have e_ := (Kd.S_reads' HO_9.out).1; omega) | simpa only [List.length_set, List.length_set] using h_)
                                obtain ⟨oki67, ce67, hcl67, hM67, hcc67, hok67, hbk67⟩ := Kd.S_borrow HO_9.out [] (x44_3 : Int) (of_decide_eq_true (by first | (with_reducible assumption) | assumption)) hq67
                                obtain ⟨ve67_0, rfl, ge67_0⟩ := hM67
                                have hv67 := hcc67 0 _ rfl
                                rw [Nat.add_zero, show ((Kd.slice 3 (Kd.int .i64))).sz = 1 from rfl, Nat.mul_one] at hv67
                                replace hv67 := Option.some.inj (hv67.symm.trans HX118_0.out)
                                subst hv67
                                clear hcc67 hcl67
                                replace ge67_0 := (show Kd.R (Kd.int .i64) 3 _ _ _ _ (rd_L1 x9_4 x44_3) from ge67_0)
                                have HP67 := Kd.R_putg ge67_0 (x58_4 : Int) (rd (rd_L1 x9_4 (ji46)) x58_4)
                                rw [← Ny121.out] at HP67
                                have HS67 := hbk67 HP67.2 (fun k_ e_ => by injection e_ with e_; subst e_; exact ge67_0.1 _ rfl) (x' := y121) (Kd.M_row HP67.1)
                                rw [← Ny123.out] at HS67
                                have HQ67 := Aside0.mk HS67
                                clear HP67 HS67 hbk67 hok67
                                refine start_ (n := 15) (S := fun w' => w'.cell? ⟨go27, (x44_3).toNat, none⟩ = some (.slice (some ⟨go52, 0, none⟩) (rd_L1 x9_4 x44_3).length c118_0) ∧ w'.cell? ⟨go27, ((ji46)).toNat, none⟩ = some (.slice (some ad120) (rd_L1 x9_4 (ji46)).length c119_0) ∧ w'.cell? (ad120.add (x58_4).toNat) = some (.int .i64 (rd (rd_L1 x9_4 (ji46)) x58_4))) (ds := [14]) #[false, false, false, false, false, false, false, false, false, false, false, false, false, false, false] (by kernel_rfl) rfl rfl ⟨hx118_0, hx119_0, hx120_0⟩ (fun hHeld => ?_); refine with_tabW till_Ballot.tab19 till_Ballot.bits19 (fun HT_ HW_ => ?_)
                                generalize wc.drew = w66 at HO_9 HB GG52 HL118_0 HL119_0 HQ67 HR118_0 HR119_0 HX118_0 HX119_0 hf52_0 hx118_0 hx119_0 hx120_0 hx52_0 hHeld ⊢
                                refine pure_ (i := 0) (N := some 80) (v := ?_) (a' := ?_) #[true, false, false, false, false, false, false, false, false, false, false, false, false, false, false] rfl rfl (any_of HT_.out (by kernel_rfl)) (fun _ _ _ h => h) (Or.inl ⟨by rfl, ?_⟩) ?_ ?_
                                rotate_left
                                ·intro w'
                                 go_simp
                                 with_reducible rfl
                                rotate_left
                                ·simp only [Act.put, List.setIfInBounds_toArray, List.set_cons_zero, List.set_cons_succ, i64_w, i32_w]
                                 rfl
                                refine pure_ (i := 1) (N := some 81) (v := ?_) (a' := ?_) #[true, true, false, false, false, false, false, false, false, false, false, false, false, false, false] rfl rfl (any_of HT_.out (by kernel_rfl)) (fun _ _ _ h => h) (Or.inl ⟨by rfl, ?_⟩) ?_ ?_
                                rotate_left
                                ·intro w'
                                 go_simp
                                 with_reducible rfl
                                rotate_left
                                ·simp only [Act.put, List.setIfInBounds_toArray, List.set_cons_zero, List.set_cons_succ, i64_w, i32_w]
                                 rfl
                                refine pure_ (i := 2) (N := some 82) (v := ?_) (a' := ?_) #[true, true, true, false, false, false, false, false, false, false, false, false, false, false, false] rfl rfl (any_of HT_.out (by kernel_rfl)) (fun _ _ _ h => h) (Or.inl ⟨by rfl, ?_⟩) ?_ ?_
                                rotate_left
                                ·intro w'
                                 go_simp
                                 with_reducible rfl
                                rotate_left
                                ·simp only [Act.put, List.setIfInBounds_toArray, List.set_cons_zero, List.set_cons_succ, i64_w, i32_w]
                                 rfl
                                refine pure_ (i := 4) (N := some 84) (v := ?_) (a' := ?_) #[true, true, true, false, true, false, false, false, false, false, false, false, false, false, false] rfl rfl (any_of HT_.out (by kernel_rfl)) (fun _ _ _ h => h) (Or.inl ⟨by rfl, ?_⟩) ?_ ?_
                                rotate_left
                                ·intro w'
                                 go_simp
                                 with_reducible rfl
                                rotate_left
                                ·simp only [Act.put, List.setIfInBounds_toArray, List.set_cons_zero, List.set_cons_succ, i64_w, i32_w]
                                 rfl
                                refine pure_ (i := 5) (N := some 85) (v := ?_) (a' := ?_) #[true, true, true, false, true, true, false, false, false, false, false, false, false, false, false] rfl rfl (any_of HT_.out (by kernel_rfl)) (fun _ _ _ h => h) (Or.inl ⟨by rfl, ?_⟩) ?_ ?_
                                rotate_left
                                ·intro w'
                                 go_simp
                                 with_reducible rfl
                                rotate_left
                                ·simp only [Act.put, List.setIfInBounds_toArray, List.set_cons_zero, List.set_cons_succ, i64_w, i32_w]
                                 rfl
                                refine pure_ (i := 6) (N := some 86) (v := ?_) (a' := ?_) #[true, true, true, false, true, true, true, false, false, false, false, false, false, false, false] rfl rfl (any_of HT_.out (by kernel_rfl)) (fun _ _ _ h => h) (Or.inl ⟨by rfl, ?_⟩) ?_ ?_
                                rotate_left
                                ·intro w'
                                 go_simp
                                 with_reducible rfl
                                rotate_left
                                ·simp only [Act.put, List.setIfInBounds_toArray, List.set_cons_zero, List.set_cons_succ, i64_w, i32_w]
                                 rfl
                                refine pure_ (i := 7) (N := some 87) (v := ?_) (a' := ?_) #[true, true, true, false, true, true, true, true, false, false, false, false, false, false, false] rfl rfl (any_of HT_.out (by kernel_rfl)) (fun _ _ _ h => h) (Or.inl ⟨by rfl, ?_⟩) ?_ ?_
                                rotate_left
                                ·intro w'
                                 go_simp
                                 with_reducible rfl
                                rotate_left
                                ·simp only [Act.put, List.setIfInBounds_toArray, List.set_cons_zero, List.set_cons_succ, i64_w, i32_w]
                                 rfl
                                refine pure_ (i := 8) (N := some 88) (v := ?_) (a' := ?_) #[true, true, true, false, true, true, true, true, true, false, false, false, false, false, false] rfl rfl (any_of HT_.out (by kernel_rfl)) (fun _ _ _ h => h) (Or.inl ⟨by rfl, ?_⟩) ?_ ?_
                                rotate_left
                                ·intro w'
                                 go_simp
                                 with_reducible rfl
                                rotate_left
                                ·simp only [Act.put, List.setIfInBounds_toArray, List.set_cons_zero, List.set_cons_succ, i64_w, i32_w]
                                 rfl
                                refine pure_ (i := 10) (N := some 90) (v := ?_) (a' := ?_) #[true, true, true, false, true, true, true, true, true, false, true, false, false, false, false] rfl rfl (any_of HT_.out (by kernel_rfl)) (fun _ _ _ h => h) (Or.inl ⟨by rfl, ?_⟩) ?_ ?_
                                rotate_left
                                ·intro w'
                                 go_simp
                                 with_reducible rfl
                                rotate_left
                                ·simp only [Act.put, List.setIfInBounds_toArray, List.set_cons_zero, List.set_cons_succ, i64_w, i32_w]
                                 rfl
                                refine take_ (i := 3) (N := some 83) (v := ?_) (a' := ?_) #[true, true, true, true, true, true, true, true, true, false, true, false, false, false, false] rfl rfl (take_ofW HT_.out HW_.out (by kernel_rfl)) (fun _ _ _ h => h) (Or.inl ⟨by rfl, ?_⟩) hHeld ?_ ?_
                                rotate_left
                                ·rintro w' ⟨s0, s1, s2⟩
                                 go_simp
                                 with_reducible rfl
                                rotate_left
                                ·simp only [Act.put, List.setIfInBounds_toArray, List.set_cons_zero, List.set_cons_succ, i64_w, i32_w]
                                 rfl
                                refine take_ (i := 9) (N := some 89) (v := ?_) (a' := ?_) #[true, true, true, true, true, true, true, true, true, true, true, false, false, false, false] rfl rfl (take_ofW HT_.out HW_.out (by kernel_rfl)) (fun _ _ _ h => h) (Or.inl ⟨by rfl, ?_⟩) hHeld ?_ ?_
                                rotate_left
                                ·rintro w' ⟨s0, s1, s2⟩
                                 go_simp
                                 with_reducible rfl
                                rotate_left
                                ·simp only [Act.put, List.setIfInBounds_toArray, List.set_cons_zero, List.set_cons_succ, i64_w, i32_w]
                                 rfl
                                refine pure_ (i := 11) (N := some 91) (v := ?_) (a' := ?_) #[true, true, true, true, true, true, true, true, true, true, true, true, false, false, false] rfl rfl (any_of HT_.out (by kernel_rfl)) (fun _ _ _ h => h) (Or.inl ⟨by rfl, ?_⟩) ?_ ?_
                                rotate_left
                                ·intro w'
                                 go_simp
                                 with_reducible rfl
                                rotate_left
                                ·simp only [Act.put, List.setIfInBounds_toArray, List.set_cons_zero, List.set_cons_succ, i64_w, i32_w]
                                 rfl
                                refine take_ (i := 12) (N := some 92) (v := ?_) (a' := ?_) #[true, true, true, true, true, true, true, true, true, true, true, true, true, false, false] rfl rfl (take_ofW HT_.out HW_.out (by kernel_rfl)) (fun _ _ _ h => h) (Or.inl ⟨by rfl, ?_⟩) hHeld ?_ ?_
                                rotate_left
                                ·rintro w' ⟨s0, s1, s2⟩
                                 go_simp
                                 with_reducible rfl
                                rotate_left
                                ·simp only [Act.put, List.setIfInBounds_toArray, List.set_cons_zero, List.set_cons_succ, i64_w, i32_w]
                                 rfl
                                refine pure_ (i := 13) (N := some 93) (v := ?_) (a' := ?_) #[true, true, true, true, true, true, true, true, true, true, true, true, true, true, false] rfl rfl (any_of HT_.out (by kernel_rfl)) (fun _ _ _ h => h) (Or.inl ⟨by rfl, ?_⟩) ?_ ?_
                                rotate_left
                                ·intro w'
                                 go_simp
                                 with_reducible rfl
                                rotate_left
                                ·simp only [Act.put, List.setIfInBounds_toArray, List.set_cons_zero, List.set_cons_succ, i64_w, i32_w]
                                 rfl
                                refine last_ (i := 14) (N := none) #[true, true, true, true, true, true, true, true, true, true, true, true, true, true, true] rfl rfl (one_of HT_.out (by kernel_rfl)) (by decide) (fun K hK => ?_)
                                refine skip_ (w1 := ?_) (by rfl) rfl ?_ ?_
                                rotate_left
                                ·go_simp
                                 rfl
                                refine hK.out _ _ ?_
                                clear hK K
                                refine done_ (done_of HT_.out (by kernel_rfl)) ?_
                                try go_wp2
                                (try simp only [← hl9_4])
                                go_roundg kj32
                                case measure => have := HJ3.out; have := HJ10.out; have := HK3.out; have := HK4.out; have := HJ32.out; omega
                                case rel => exact ⟨(y123), (wrap64 (x58_4 + 1)), (by first | rfl | (simp; done) | (simp [*]; done)), H', ⟨by have := HJ3.out; have := HJ10.out; have := HK3.out; have := HK4.out; have := HJ32.out; omega⟩, ⟨by (try simp only [hl9_3]); (try simp only [hl9_4]); (with_reducible repeat (first | apply Kd.S_alloc | apply Kd.S_drewN | apply Kd.S_drew)); exact HQ67.out⟩, ⟨by repeat (first | (with_reducible first | exact HB.out | apply below_alloc | apply pw_below_drewN | apply below_drew1 | refine below_set ?_ GB52.out) | exact HB.out)⟩⟩
                              ·rw [if_neg c51] at H
                               exact absurd H (by simp)
                             ·rw [if_neg c50] at H
                              exact absurd H (by simp)
                            ·rw [if_neg c49] at H
                             exact absurd H (by simp)
                           ·rw [if_neg c48] at H
                            exact absurd H (by simp)
                          ·rw [if_neg c47] at H
                           exact absurd H (by simp)
                         ·rw [if_neg c45] at H
                          exact absurd H (by simp)
                        ·rw [if_neg c44] at H
                         exact absurd H (by simp)
                       ·rw [if_neg c43] at H
                        have c43b0 : decide ((wrap64 (a2 * x58_4)) < x44_3) = false := decide_eq_false c43
                        clear c43
                        have H' := Aside0.mk H
                        clear H
                        go_wp2
                        (try simp only [← hl9_4])
                        go_roundg kj32
                        case measure => have := HJ3.out; have := HJ10.out; have := HK3.out; have := HK4.out; have := HJ32.out; omega
                        case rel => exact ⟨(x9_4), (wrap64 (x58_4 + 1)), (by first | rfl | (simp; done) | (simp [*]; done)), H', ⟨by have := HJ3.out; have := HJ10.out; have := HK3.out; have := HK4.out; have := HJ32.out; omega⟩, ⟨by (try simp only [hl9_3]); (try simp only [hl9_4]); (with_reducible repeat (first | apply Kd.S_alloc | apply Kd.S_drewN | apply Kd.S_drew)); exact HO_9.out⟩, ⟨by repeat (first | (with_reducible first | exact HB.out | apply below_alloc | apply pw_below_drewN | apply below_drew1) | exact HB.out)⟩⟩
                   ·rw [if_neg c32] at H
                    have c32b0 : decide (x58_4 < ((rd_L1 y112 x44_3).length : Int)) = false := decide_eq_false c32
                    clear c32
                    have H' := Aside0.mk H
                    clear H
                    go_wp2
                    (try simp only [← hl9_3, ← hl9_4])
                    go_roundg k4
                    case measure => have := HJ3.out; have := HJ10.out; have := HK3.out; have := HK4.out; omega
                    case rel => exact ⟨(x9_4), (wrap64 (x44_3 + 1)), (by first | rfl | (simp; done) | (simp [*]; done)), H', ⟨by have := HJ3.out; have := HJ10.out; have := HK3.out; have := HK4.out; omega⟩, ⟨by (try simp only [hl9_3]); (try simp only [hl9_4]); (with_reducible repeat (first | apply Kd.S_alloc | apply Kd.S_drewN | apply Kd.S_drew)); exact HO_9.out⟩, ⟨by repeat (first | (with_reducible first | exact HB.out | apply below_alloc | apply pw_below_drewN | apply below_drew1) | exact HB.out)⟩⟩
                ·rw [if_neg c26] at H
                 exact absurd H (by simp)
               ·rw [if_neg c25] at H
                exact absurd H (by simp)
              ·rw [if_neg c24] at H
               exact absurd H (by simp)
             ·rw [if_neg c23] at H
              exact absurd H (by simp)
            ·rw [if_neg c21] at H
             have c21b0 : decide (x44_3 < (y104.length : Int)) = false := decide_eq_false c21
             have c21b1 : decide (x44_3 < (x9_3.length : Int)) = false := by first | (rw [← hl9_3]; exact c21b0) | (rw [hl9_3] at c21b0; exact c21b0)
             clear c21
             by_cases c69 : 0 ≤ a0
             ·rw [if_pos c69] at H
              have c69b0 : decide (0 ≤ a0) = true := decide_eq_true c69
              clear c69
              by_cases c70 : a0 < (x9_3.length : Int)
              ·rw [if_pos c70] at H
               have c70b0 : decide (a0 < (x9_3.length : Int)) = true := decide_eq_true c70
               clear c70
               by_cases c71 : 0 ≤ a1
               ·rw [if_pos c71] at H
                have c71b0 : decide (0 ≤ a1) = true := decide_eq_true c71
                clear c71
                by_cases c72 : a1 < ((rd_L1 x9_3 a0).length : Int)
                ·rw [if_pos c72] at H
                 have c72b0 : decide (a1 < ((rd_L1 x9_3 a0).length : Int)) = true := decide_eq_true c72
                 clear c72
                 simp only [Option.some.injEq, Prod.mk.injEq] at H
                 obtain ⟨rfl, rfl⟩ := H
                 have p107 : 0 ≤ (a0 : Int) := of_decide_eq_true (by first | (with_reducible assumption) | assumption)
                 have q107 : a0 < (x9_3.length : Int) := of_decide_eq_true (by first | (with_reducible assumption) | assumption)
                 obtain ⟨ad107, A107_0, c107_0, e107, hx107_0, hl107_0, hi107_0⟩ := at_L1 (Kd.S_reads' HO_9.out).2.2 a0 p107 q107
                 cases e107
                 obtain ⟨ce107, hce107, hMe107, hcc107⟩ := Kd.S_get HO_9.out [] a0 p107 (by first | exact q107 | exact of_decide_eq_true (by first | (with_reducible assumption) | assumption) | (have e_ := (Kd.S_reads' HO_9.out).1; omega))
                 obtain ⟨ve107_0, rfl, ge107_0⟩ := hMe107
                 have hv107_0 := hcc107 0 _ rfl
                 rw [Nat.add_zero, show ((Kd.slice 3 (Kd.int .i64))).sz = 1 from rfl, Nat.mul_one] at hv107_0
                 replace hv107_0 := Option.some.inj (hv107_0.symm.trans hx107_0)
                 rw [hv107_0] at ge107_0
                 have HL107_0 := Aside0.mk (show Kd.R (Kd.int .i64) 3 _ _ _ _ (rd_L1 x9_3 a0) from ge107_0)
                 clear hv107_0 ge107_0
                 have HX107_0 := Aside0.mk hx107_0
                 clear hcc107 hce107
                 have HR107_0 := Aside0.mk hi107_0
                 have HC107_0 := Aside0.mk hl107_0
                 clear hi107_0 hl107_0
                 replace p107 := eq_true p107
                 replace q107 := eq_true q107
                 have p108 : 0 ≤ (a1 : Int) := of_decide_eq_true (by first | (with_reducible assumption) | assumption)
                 have q108 : a1 < ((rd_L1 x9_3 a0).length : Int) := of_decide_eq_true (by first | (with_reducible assumption) | assumption)
                 obtain ⟨ad108, e108, hx108_0⟩ := Kd.at_int (by repeat (first | (with_reducible exact HR107_0.out) | (with_reducible refine Kd.C_alloc ?_ _) | (with_reducible refine Kd.C_drewN ?_ _) | (with_reducible refine Kd.C_drew ?_) | exact HR107_0.out)) a1 p108 q108
                 cases e108
                 replace p108 := eq_true p108
                 replace q108 := eq_true q108
                 go_wp2
                 go_ret2
                 exact ⟨by first | rfl | (simp [errW_none, errW_some] <;> rfl) | (simp only [← hji15]; first | rfl | (simp [errW_none, errW_some] <;> rfl)) | (simp [*, errW_none, errW_some] <;> rfl), by repeat (first | (with_reducible first | exact HB.out | apply below_alloc | apply pw_below_drewN | apply below_drew1) | exact HB.out)⟩
                ·rw [if_neg c72] at H
                 exact absurd H (by simp)
               ·rw [if_neg c71] at H
                exact absurd H (by simp)
              ·rw [if_neg c70] at H
               exact absurd H (by simp)
             ·rw [if_neg c69] at H
              exact absurd H (by simp)
         ·rw [if_neg c17] at H
          exact absurd H (by simp)
        ·rw [if_neg c16] at H
         exact absurd H (by simp)


end Go.Proofs.YtnjimbgfafkogaaDoor.Bal
