-- Written by a program of this session (wip/tools/hprint.py over the kit's print.py); Lean checks it.
import Derived.Test.YtcjbnonjhahakaaDoorFit0
import Derived.Laws.Cover1
namespace Go.Proofs.YtcjbnonjhahakaaDoor.Fit
open Go.RowKit Go.Proofs.YtcjbnonjhahakaaDoor.Hand Go.Proofs.YtcjbnonjhahakaaDoor.Print Go.Proofs.YtcjbnonjhahakaaDoor.Fir Go.Proofs.YtcjbnonjhahakaaDoorW.PrintWords Go.Proofs.YtcjbnonjhahakaaDoorW.PrintLast Go.Proofs.YtcjbnonjhahakaaDoorW.PrintMore
attribute [local go_sem] max2_int min2_int max_two min_two max_three min_three max_four min_four   -- for this text's walks alone
set_option linter.unusedVariables false
set_option linter.unusedSimpArgs false

abbrev bA := @below_alloc
abbrev bN := @pw_below_drewN
abbrev b1 := @below_drew1
abbrev kA := @Kd.R_alloc
abbrev kN := @Kd.R_drewN
abbrev kD := @Kd.R_drew
theorem leq_less : ∀ (a b : List UInt8), (Op.bytesLess a b || a == b) = !(Op.bytesLess b a)
  | [], [] => rfl
  | [], _ :: _ => rfl
  | _ :: _, [] => rfl
  | a :: x, b :: y => by
    have ih := leq_less x y
    rw [Op.bytesLess, Op.bytesLess, List.cons_beq_cons]
    by_cases h1 : a < b
    · have h2 : ¬ b < a := fun h => absurd (UInt8.lt_iff_toNat_lt.1 h) (by have := UInt8.lt_iff_toNat_lt.1 h1; omega)
      have h3 : (b == a) = false := beq_eq_false_iff_ne.2 (fun e => by subst e; exact h2 h1)
      simp [h1, h2, h3]
    · by_cases h4 : a = b
      · subst h4
        simp [h1]
        simpa using ih
      · have h5 : b < a := by
          rw [UInt8.lt_iff_toNat_lt] at h1 ⊢
          have : a.toNat ≠ b.toNat := fun e => h4 (UInt8.toNat_inj.1 e)
          omega
        have h6 : (a == b) = false := beq_eq_false_iff_ne.2 h4
        simp [h1, h5, h6]
/-! ### pomadelaw08_ParrotFound: function 15 -/
mutual
def pomadelaw08_ParrotFound.j0 : Nat → ByteArray → Int → ByteArray → Bool → Option (Bool)
 | 0, _, _, _, _ => none
 | k + 1, x0, x1, x2, x32 => if x32 = true then ((pomadelaw08_alive.f).bind fun t121 => (some t121)) else ((parrot_Makers.f x0 (wrap64 (1 + (wrap64 (Int.tmod x1 5))))).bind fun bt122 => (if bt122.2 = 0 then ((parrot_Make.f x2).bind fun bt126 => (pomadelaw08_ParrotFound.l0 k x0 x2 (wrap64 (1 + (wrap64 (Int.tmod x1 5)))) bt122.1 bt126.1 bt126.2 false 0 0)) else (some false)))
def pomadelaw08_ParrotFound.l0 : Nat → ByteArray → ByteArray → Int → List ByteArray → ByteArray → Int → Bool → Int → Int → Option (Bool)
 | 0, _, _, _, _, _, _, _, _, _ => none
 | k + 1, x0, x2, x7, x8, x10, x11, x12, x13, x14 => if x14 < (x8.length : Int) then (if 0 ≤ x14 then ((parrot_Make.f (rdOf ByteArray.empty x8 x14)).bind fun bt129 => (if bt129.2 = 0 then (if bt129.1.toList = x0.toList then (if ((rdOf ByteArray.empty x8 x14).size : Int) < 2 then (pomadelaw08_ParrotFound.j2 k x0 x2 x7 x8 x10 x11 x12 x13 x14 true) else (if ((rdOf ByteArray.empty x8 x14).size : Int) > x7 then (pomadelaw08_ParrotFound.j2 k x0 x2 x7 x8 x10 x11 x12 x13 x14 true) else (if x14 > 0 then (if 0 ≤ (wrap64 (x14 - 1)) then (if (wrap64 (x14 - 1)) < (x8.length : Int) then (if ((rdOf ByteArray.empty x8 x14).size : Int) < ((rdOf ByteArray.empty x8 (wrap64 (x14 - 1))).size : Int) then (pomadelaw08_ParrotFound.j2 k x0 x2 x7 x8 x10 x11 x12 x13 x14 true) else (if ((rdOf ByteArray.empty x8 x14).size : Int) = ((rdOf ByteArray.empty x8 (wrap64 (x14 - 1))).size : Int) then (pomadelaw08_ParrotFound.j2 k x0 x2 x7 x8 x10 x11 x12 x13 x14 (!(Op.bytesLess ((rdOf ByteArray.empty x8 (wrap64 (x14 - 1))).toList) ((rdOf ByteArray.empty x8 x14).toList)))) else (pomadelaw08_ParrotFound.j2 k x0 x2 x7 x8 x10 x11 x12 x13 x14 false))) else (none)) else (none)) else (pomadelaw08_ParrotFound.j2 k x0 x2 x7 x8 x10 x11 x12 x13 x14 false)))) else (pomadelaw08_ParrotFound.j2 k x0 x2 x7 x8 x10 x11 x12 x13 x14 true)) else (pomadelaw08_ParrotFound.j2 k x0 x2 x7 x8 x10 x11 x12 x13 x14 true))) else (none)) else (if x11 = 0 then (if x10.toList = x0.toList then (if (x2.size : Int) ≤ x7 then (if x12 = true then (pomadelaw08_ParrotFound.j3 k x0 x7 x8 ((x13 == 1) != (decide ((x0.size : Int) < x7)))) else (pomadelaw08_ParrotFound.j3 k x0 x7 x8 true)) else (pomadelaw08_ParrotFound.j3 k x0 x7 x8 ((x13 == 1) != (decide ((x0.size : Int) < x7))))) else (pomadelaw08_ParrotFound.j3 k x0 x7 x8 ((x13 == 1) != (decide ((x0.size : Int) < x7))))) else (pomadelaw08_ParrotFound.j3 k x0 x7 x8 ((x13 == 1) != (decide ((x0.size : Int) < x7)))))
def pomadelaw08_ParrotFound.j2 : Nat → ByteArray → ByteArray → Int → List ByteArray → ByteArray → Int → Bool → Int → Int → Bool → Option (Bool)
 | 0, _, _, _, _, _, _, _, _, _, _ => none
 | k + 1, x0, x2, x7, x8, x10, x11, x12, x13, x14, x132 => if x132 = true then (some false) else (if x12 = true then (if 0 ≤ x14 then (if x14 < (x8.length : Int) then (if 0 < ((rdOf ByteArray.empty x8 x14).size : Int) then (if (bt (rdOf ByteArray.empty x8 x14) 0) = 50 then (pomadelaw08_ParrotFound.l0 k x0 x2 x7 x8 x10 x11 true (wrap64 (x13 + 1)) (wrap64 (x14 + 1))) else (pomadelaw08_ParrotFound.l0 k x0 x2 x7 x8 x10 x11 true x13 (wrap64 (x14 + 1)))) else (none)) else (none)) else (none)) else (if 0 ≤ x14 then (if x14 < (x8.length : Int) then (if 0 < ((rdOf ByteArray.empty x8 x14).size : Int) then (if (bt (rdOf ByteArray.empty x8 x14) 0) = 50 then (pomadelaw08_ParrotFound.l0 k x0 x2 x7 x8 x10 x11 ((rdOf ByteArray.empty x8 x14).toList == x2.toList) (wrap64 (x13 + 1)) (wrap64 (x14 + 1))) else (pomadelaw08_ParrotFound.l0 k x0 x2 x7 x8 x10 x11 ((rdOf ByteArray.empty x8 x14).toList == x2.toList) x13 (wrap64 (x14 + 1)))) else (none)) else (none)) else (none)))
def pomadelaw08_ParrotFound.j3 : Nat → ByteArray → Int → List ByteArray → Bool → Option (Bool)
 | 0, _, _, _, _ => none
 | k + 1, x0, x7, x8, x175 => if x175 = true then (some false) else ((parrot_Shortest.f x0).bind fun bt142 => (if (x8.length : Int) > 0 then (if bt142.2 = 0 then (if 0 < (x8.length : Int) then (if bt142.1.toList = (rdOf ByteArray.empty x8 0).toList then ((pomadelaw08_alive.f).bind fun t145 => (some t145)) else (some false)) else (none)) else (some false)) else (if bt142.2 = 0 then ((parrot_Make.f bt142.1).bind fun bt146 => (if bt146.2 = 0 then (if bt146.1.toList = x0.toList then (if (bt142.1.size : Int) > x7 then (if (bt142.1.size : Int) ≤ (mn 8 (wrap64 ((x0.size : Int) + 1))) then ((pomadelaw08_alive.f).bind fun t148 => (some t148)) else (some false)) else (some false)) else (some false)) else (some false))) else (if bt142.2 = 10 then (if bt142.1.toList = ([] : List UInt8) then (if (x0.size : Int) ≥ 8 then ((pomadelaw08_alive.f).bind fun t149 => (some t149)) else (some false)) else (some false)) else (some false)))))
end
def pomadelaw08_ParrotFound.f (k : Nat) (a0 : ByteArray) (a1 : Int) (a2 : ByteArray) : Option (Bool) := if (a0.size : Int) > 300 then (pomadelaw08_ParrotFound.j0 k a0 a1 a2 true) else (if (a2.size : Int) > 300 then (pomadelaw08_ParrotFound.j0 k a0 a1 a2 true) else ((pomaderef08_IsWord.f k a0).bind fun t120 => (pomadelaw08_ParrotFound.j0 k a0 a1 a2 (t120 != 0))))
theorem pomadelaw08_ParrotFound.mono_l : ∀ k, (∀ y0 y1 y2 y3, LeO (pomadelaw08_ParrotFound.j0 k y0 y1 y2 y3) (pomadelaw08_ParrotFound.j0 (k + 1) y0 y1 y2 y3)) ∧ (∀ y0 y1 y2 y3 y4 y5 y6 y7 y8, LeO (pomadelaw08_ParrotFound.l0 k y0 y1 y2 y3 y4 y5 y6 y7 y8) (pomadelaw08_ParrotFound.l0 (k + 1) y0 y1 y2 y3 y4 y5 y6 y7 y8)) ∧ (∀ y0 y1 y2 y3 y4 y5 y6 y7 y8 y9, LeO (pomadelaw08_ParrotFound.j2 k y0 y1 y2 y3 y4 y5 y6 y7 y8 y9) (pomadelaw08_ParrotFound.j2 (k + 1) y0 y1 y2 y3 y4 y5 y6 y7 y8 y9)) ∧ (∀ y0 y1 y2 y3, LeO (pomadelaw08_ParrotFound.j3 k y0 y1 y2 y3) (pomadelaw08_ParrotFound.j3 (k + 1) y0 y1 y2 y3))
 | 0 => ⟨fun _ _ _ _ r h => by simp [pomadelaw08_ParrotFound.j0] at h, fun _ _ _ _ _ _ _ _ _ r h => by simp [pomadelaw08_ParrotFound.l0] at h, fun _ _ _ _ _ _ _ _ _ _ r h => by simp [pomadelaw08_ParrotFound.j2] at h, fun _ _ _ _ r h => by simp [pomadelaw08_ParrotFound.j3] at h⟩
 | k + 1 => by
  obtain ⟨ih0, ih1, ih2, ih3⟩ := pomadelaw08_ParrotFound.mono_l k
  refine ⟨?_, ?_, ?_, ?_⟩
  ·intro y0 y1 y2 y3
   unfold pomadelaw08_ParrotFound.j0
   repeat' first
   | (with_reducible exact ih0 _ _ _ _)
   | (with_reducible exact ih1 _ _ _ _ _ _ _ _ _)
   | (with_reducible exact ih2 _ _ _ _ _ _ _ _ _ _)
   | (with_reducible exact ih3 _ _ _ _)
   | (with_reducible exact pomaderef08_IsWord.mono _ _)
   | (with_reducible exact LeO.refl _)
   | (with_reducible exact LeO.none _)
   | (with_reducible refine LeO.ite ?_ ?_)
   | (with_reducible refine LeO.bind ?_ (fun _ => ?_))
   | exact ih0 _ _ _ _
   | exact ih1 _ _ _ _ _ _ _ _ _
   | exact ih2 _ _ _ _ _ _ _ _ _ _
   | exact ih3 _ _ _ _
   | exact pomaderef08_IsWord.mono _ _
   | exact LeO.none _
   | refine LeO.ite ?_ ?_
   | refine LeO.bind ?_ (fun _ => ?_)
  ·intro y0 y1 y2 y3 y4 y5 y6 y7 y8
   unfold pomadelaw08_ParrotFound.l0
   repeat' first
   | (with_reducible exact ih0 _ _ _ _)
   | (with_reducible exact ih1 _ _ _ _ _ _ _ _ _)
   | (with_reducible exact ih2 _ _ _ _ _ _ _ _ _ _)
   | (with_reducible exact ih3 _ _ _ _)
   | (with_reducible exact pomaderef08_IsWord.mono _ _)
   | (with_reducible exact LeO.refl _)
   | (with_reducible exact LeO.none _)
   | (with_reducible refine LeO.ite ?_ ?_)
   | (with_reducible refine LeO.bind ?_ (fun _ => ?_))
   | exact ih0 _ _ _ _
   | exact ih1 _ _ _ _ _ _ _ _ _
   | exact ih2 _ _ _ _ _ _ _ _ _ _
   | exact ih3 _ _ _ _
   | exact pomaderef08_IsWord.mono _ _
   | exact LeO.none _
   | refine LeO.ite ?_ ?_
   | refine LeO.bind ?_ (fun _ => ?_)
  ·intro y0 y1 y2 y3 y4 y5 y6 y7 y8 y9
   unfold pomadelaw08_ParrotFound.j2
   repeat' first
   | (with_reducible exact ih0 _ _ _ _)
   | (with_reducible exact ih1 _ _ _ _ _ _ _ _ _)
   | (with_reducible exact ih2 _ _ _ _ _ _ _ _ _ _)
   | (with_reducible exact ih3 _ _ _ _)
   | (with_reducible exact pomaderef08_IsWord.mono _ _)
   | (with_reducible exact LeO.refl _)
   | (with_reducible exact LeO.none _)
   | (with_reducible refine LeO.ite ?_ ?_)
   | (with_reducible refine LeO.bind ?_ (fun _ => ?_))
   | exact ih0 _ _ _ _
   | exact ih1 _ _ _ _ _ _ _ _ _
   | exact ih2 _ _ _ _ _ _ _ _ _ _
   | exact ih3 _ _ _ _
   | exact pomaderef08_IsWord.mono _ _
   | exact LeO.none _
   | refine LeO.ite ?_ ?_
   | refine LeO.bind ?_ (fun _ => ?_)
  ·intro y0 y1 y2 y3
   unfold pomadelaw08_ParrotFound.j3
   repeat' first
   | (with_reducible exact ih0 _ _ _ _)
   | (with_reducible exact ih1 _ _ _ _ _ _ _ _ _)
   | (with_reducible exact ih2 _ _ _ _ _ _ _ _ _ _)
   | (with_reducible exact ih3 _ _ _ _)
   | (with_reducible exact pomaderef08_IsWord.mono _ _)
   | (with_reducible exact LeO.refl _)
   | (with_reducible exact LeO.none _)
   | (with_reducible refine LeO.ite ?_ ?_)
   | (with_reducible refine LeO.bind ?_ (fun _ => ?_))
   | exact ih0 _ _ _ _
   | exact ih1 _ _ _ _ _ _ _ _ _
   | exact ih2 _ _ _ _ _ _ _ _ _ _
   | exact ih3 _ _ _ _
   | exact pomaderef08_IsWord.mono _ _
   | exact LeO.none _
   | refine LeO.ite ?_ ?_
   | refine LeO.bind ?_ (fun _ => ?_)
theorem pomadelaw08_ParrotFound.mono : ∀ a0 a1 a2 k, LeO (pomadelaw08_ParrotFound.f k a0 a1 a2) (pomadelaw08_ParrotFound.f (k + 1) a0 a1 a2) := by
 intro a0 a1 a2 k
 obtain ⟨ih0, ih1, ih2, ih3⟩ := pomadelaw08_ParrotFound.mono_l k
 unfold pomadelaw08_ParrotFound.f
 repeat' first
   | (with_reducible exact ih0 _ _ _ _)
   | (with_reducible exact ih1 _ _ _ _ _ _ _ _ _)
   | (with_reducible exact ih2 _ _ _ _ _ _ _ _ _ _)
   | (with_reducible exact ih3 _ _ _ _)
   | (with_reducible exact pomaderef08_IsWord.mono _ _)
   | (with_reducible exact LeO.refl _)
   | (with_reducible exact LeO.none _)
   | (with_reducible refine LeO.ite ?_ ?_)
   | (with_reducible refine LeO.bind ?_ (fun _ => ?_))
   | exact ih0 _ _ _ _
   | exact ih1 _ _ _ _ _ _ _ _ _
   | exact ih2 _ _ _ _ _ _ _ _ _ _
   | exact ih3 _ _ _ _
   | exact pomaderef08_IsWord.mono _ _
   | exact LeO.none _
   | refine LeO.ite ?_ ?_
   | refine LeO.bind ?_ (fun _ => ?_)
set_option maxHeartbeats 40000000 in
set_option maxRecDepth 100000 in
theorem pomadelaw08_ParrotFound.calls (k : Nat) (a0 : ByteArray) (a1 : Int) (a2 : ByteArray) (r : Bool) (w : World) (hO : Ops w) (h : pomadelaw08_ParrotFound.f k a0 a1 a2 = some r) :
  Calls Tryd.prog 15 #[.string a0, .int .u8 a1, .string a2] w fun e w' => e = .returned (.bool r) ∧ Below w.heap.size w w' := by
 have HB := Aside0.mk (Below.refl w.heap.size w)
 have H : (if (a0.size : Int) > 300 then (pomadelaw08_ParrotFound.j0 k a0 a1 a2 true) else (if (a2.size : Int) > 300 then (pomadelaw08_ParrotFound.j0 k a0 a1 a2 true) else ((pomaderef08_IsWord.f k a0).bind fun t120 => (pomadelaw08_ParrotFound.j0 k a0 a1 a2 (t120 != 0))))) = some r := h
 clear h
 have HC4 := Aside0.mk H
 clear H
 go_enter Tryd.func15, Tryd.ntmps15
 go_upto_region 1 with (fail)
 repeat (go_quiet (fail); go_upto_region 1 with (fail))
 go_cut [32] (fun v32 wc => ∃ (kq : Nat) (x32_3 : Bool), v32 = .bool x32_3 ∧ Aside0 (pomadelaw08_ParrotFound.j0 kq a0 a1 a2 x32_3 = some r) ∧ Aside0 (kq ≤ k) ∧ Aside0 (Below w.heap.size w wc))
 case first =>
  have H := HC4.out
  clear HC4
  by_cases c5 : (a0.size : Int) > 300
  ·rw [if_pos c5] at H
   have c5b0 : decide (300 < (a0.size : Int)) = true := decide_eq_true c5
   have c5b1 : decide (300 < a0.size) = true := decide_eq_true (by omega)
   clear c5
   (first | rw [c5b0] | (simp only [i64_w, i32_w]; rw [c5b0]) | skip)
   have H' := Aside0.mk H
   clear H
   go_wp2
   repeat (go_quiet (fail); try go_wp2)
   go_meet
   case rel => exact ⟨_, (true), (by first | rfl | (simp; done) | (simp [*]; done)), H', ⟨by first | omega | exact Nat.le_refl _⟩, ⟨by repeat (first | (with_reducible first | exact HB.out | apply bA | apply bN | apply b1) | exact HB.out)⟩⟩
  ·rw [if_neg c5] at H
   have c5b0 : decide (300 < (a0.size : Int)) = false := decide_eq_false c5
   have c5b1 : decide (300 < a0.size) = false := decide_eq_false (by omega)
   clear c5
   (first | rw [c5b0] | (simp only [i64_w, i32_w]; rw [c5b0]) | skip)
   by_cases c6 : (a2.size : Int) > 300
   ·rw [if_pos c6] at H
    have c6b0 : decide (300 < (a2.size : Int)) = true := decide_eq_true c6
    have c6b1 : decide (300 < a2.size) = true := decide_eq_true (by omega)
    clear c6
    have H' := Aside0.mk H
    clear H
    go_wp2
    repeat (go_quiet (fail); try go_wp2)
    go_meet
    case rel => exact ⟨_, (true), (by first | rfl | (simp; done) | (simp [*]; done)), H', ⟨by first | omega | exact Nat.le_refl _⟩, ⟨by repeat (first | (with_reducible first | exact HB.out | apply bA | apply bN | apply b1) | exact HB.out)⟩⟩
   ·rw [if_neg c6] at H
    have c6b0 : decide (300 < (a2.size : Int)) = false := decide_eq_false c6
    have c6b1 : decide (300 < a2.size) = false := decide_eq_false (by omega)
    clear c6
    replace H := Option.bind_eq_some_iff.mp H
    obtain ⟨t120, A70, H⟩ := H
    replace H : (pomadelaw08_ParrotFound.j0 k a0 a1 a2 (t120 != 0)) = some r := H
    have A7 := Aside0.mk A70
    clear A70
    have H' := Aside0.mk H
    clear H
    go_wp2_with (first | (go_at_call 27; (with_reducible refine (pomaderef08_IsWord.calls k a0 t120 _ A7.out).mono ?_); rintro e w' ⟨rfl, ⟨nd, rfl⟩⟩; (try first | exact ⟨rfl, _, World.drewN_drewN _ _ _⟩ | exact ⟨rfl, _, Eq.trans (World.drewN_drewN _ _ _) (congrArg (World.drewN _) (Nat.add_assoc _ _ _))⟩)))
    repeat (go_quiet (first | (go_at_call 27; (with_reducible refine (pomaderef08_IsWord.calls k a0 t120 _ A7.out).mono ?_); rintro e w' ⟨rfl, ⟨nd, rfl⟩⟩; (try first | exact ⟨rfl, _, World.drewN_drewN _ _ _⟩ | exact ⟨rfl, _, Eq.trans (World.drewN_drewN _ _ _) (congrArg (World.drewN _) (Nat.add_assoc _ _ _))⟩))); try go_wp2_with (first | (go_at_call 27; (with_reducible refine (pomaderef08_IsWord.calls k a0 t120 _ A7.out).mono ?_); rintro e w' ⟨rfl, ⟨nd, rfl⟩⟩; (try first | exact ⟨rfl, _, World.drewN_drewN _ _ _⟩ | exact ⟨rfl, _, Eq.trans (World.drewN_drewN _ _ _) (congrArg (World.drewN _) (Nat.add_assoc _ _ _))⟩))))
    go_meet
    case rel => exact ⟨_, ((t120 != 0)), (by first | rfl | (simp; done) | (simp [*]; done)), H', ⟨by first | omega | exact Nat.le_refl _⟩, ⟨by repeat (first | (with_reducible first | exact HB.out | apply bA | apply bN | apply b1) | exact HB.out)⟩⟩
 case rest =>
  clear HC4
  try clear c1
  try clear p2
  try clear c5
  try clear c5b0
  try clear c5b1
  try clear c6
  try clear c6b0
  try clear c6b1
  obtain ⟨kq, x32_3, rfl, HA, HJ3, HB⟩ := hcut
  cases kq with
  | zero => exact absurd HA.out (by simp [pomadelaw08_ParrotFound.j0])
  | succ kj3 =>
   have H := HA.out
   clear HA
   simp only [pomadelaw08_ParrotFound.j0] at H
   by_cases c8 : x32_3 = true
   ·subst c8
    have H1 : ((pomadelaw08_alive.f).bind fun t121 => (some t121)) = some r := by rw [if_pos rfl] at H; exact H
    clear H
    have H := H1
    clear H1
    replace H := Option.bind_eq_some_iff.mp H
    obtain ⟨t121, A90, H⟩ := H
    replace H : (some t121) = some r := H
    have A9 := Aside0.mk A90
    clear A90
    obtain rfl := Option.some.inj H
    go_wp2_with (first | (go_at_call 16; (with_reducible refine (pomadelaw08_alive.calls t121 _ (hO.below (by repeat (first | (with_reducible first | exact HB.out | apply bA | apply bN | apply b1) | exact HB.out))) A9.out).mono ?_); rintro e w10 ⟨rfl, hb⟩; have n0_ := Aside0.mk (below_step (by repeat (first | (with_reducible first | exact HB.out | apply bA | apply bN | apply b1) | exact HB.out)) hb); clear HB; have HB := n0_; clear n0_; (try clear hb); (try clear hb2); (try clear hk); (try clear hi)))
    repeat (go_quiet (first | (go_at_call 16; (with_reducible refine (pomadelaw08_alive.calls t121 _ (hO.below (by repeat (first | (with_reducible first | exact HB.out | apply bA | apply bN | apply b1) | exact HB.out))) A9.out).mono ?_); rintro e w10 ⟨rfl, hb⟩; have n0_ := Aside0.mk (below_step (by repeat (first | (with_reducible first | exact HB.out | apply bA | apply bN | apply b1) | exact HB.out)) hb); clear HB; have HB := n0_; clear n0_; (try clear hb); (try clear hb2); (try clear hk); (try clear hi))); try go_wp2_with (first | (go_at_call 16; (with_reducible refine (pomadelaw08_alive.calls t121 _ (hO.below (by repeat (first | (with_reducible first | exact HB.out | apply bA | apply bN | apply b1) | exact HB.out))) A9.out).mono ?_); rintro e w10 ⟨rfl, hb⟩; have n0_ := Aside0.mk (below_step (by repeat (first | (with_reducible first | exact HB.out | apply bA | apply bN | apply b1) | exact HB.out)) hb); clear HB; have HB := n0_; clear n0_; (try clear hb); (try clear hb2); (try clear hk); (try clear hi))))
    go_ret
    exact ⟨by first | rfl | (simp [errW_none, errW_some] <;> rfl) | (simp [*, errW_none, errW_some] <;> rfl), by repeat (first | (with_reducible first | exact HB.out | apply bA | apply bN | apply b1) | exact HB.out)⟩
   ·replace c8 := Bool.eq_false_iff.mpr c8
    subst c8
    have H1 : ((parrot_Makers.f a0 (wrap64 (1 + (wrap64 (Int.tmod a1 5))))).bind fun bt122 => (if bt122.2 = 0 then ((parrot_Make.f a2).bind fun bt126 => (pomadelaw08_ParrotFound.l0 kj3 a0 a2 (wrap64 (1 + (wrap64 (Int.tmod a1 5)))) bt122.1 bt126.1 bt126.2 false 0 0)) else (some false))) = some r := by rw [if_neg (show ¬ (false = true) by decide)] at H; exact H
    clear H
    have H := H1
    clear H1
    replace H := Option.bind_eq_some_iff.mp H
    obtain ⟨⟨t122, t123⟩, A110, H⟩ := H
    replace H : (if t123 = 0 then ((parrot_Make.f a2).bind fun bt126 => (pomadelaw08_ParrotFound.l0 kj3 a0 a2 (wrap64 (1 + (wrap64 (Int.tmod a1 5)))) t122 bt126.1 bt126.2 false 0 0)) else (some false)) = some r := H
    have A11 := Aside0.mk A110
    clear A110
    by_cases c12 : t123 = 0
    ·rw [if_pos c12] at H
     have c12b0 : (t123 == 0) = true := beq_iff_eq.mpr c12
     have c12b1 : (t123 != 0) = false := bne_eq_false_iff_eq.mpr c12
     clear c12
     replace H := Option.bind_eq_some_iff.mp H
     obtain ⟨⟨t126, t127⟩, A130, H⟩ := H
     replace H : (pomadelaw08_ParrotFound.l0 kj3 a0 a2 (wrap64 (1 + (wrap64 (Int.tmod a1 5)))) t122 t126 t127 false 0 0) = some r := H
     have A13 := Aside0.mk A130
     clear A130
     have H' := Aside0.mk H
     clear H
     go_wp2_with (first | (go_at_call 36; (with_reducible refine (parrot_Makers.calls a0 (wrap64 (1 + (wrap64 (Int.tmod a1 5)))) t122 t123 _ (hO.below (by repeat (first | (with_reducible first | exact HB.out | apply bA | apply bN | apply b1) | exact HB.out))) A11.out).mono ?_); rintro e w14 ⟨v124, rfl, ho0, hb⟩; have n0_ := Aside0.mk (Kd.R_lower ho0 (below_size (by repeat (first | (with_reducible first | exact HB.out | apply bA | apply bN | apply b1) | exact HB.out)))); have n1_ := Aside0.mk (below_step (by repeat (first | (with_reducible first | exact HB.out | apply bA | apply bN | apply b1) | exact HB.out)) hb); clear HB; have HO125 := n0_; have HB := n1_; clear n0_ n1_; (try clear hb); (try clear hb2); (try clear hk); (try clear hi); (try clear ho0)) | (go_at_call 21; (with_reducible refine (parrot_Make.calls a2 t126 t127 _ (hO.below (by repeat (first | (with_reducible first | exact HB.out | apply bA | apply bN | apply b1) | exact HB.out))) A13.out).mono ?_); rintro e w15 ⟨rfl, hb⟩; have n0_ := Aside0.mk (Kd.R_below (by (with_reducible repeat (first | apply Kd.R_alloc | apply Kd.R_drewN | apply Kd.R_drew)); exact HO125.out) hb); have n1_ := Aside0.mk (below_step (by repeat (first | (with_reducible first | exact HB.out | apply bA | apply bN | apply b1) | exact HB.out)) hb); clear HO125; clear HB; have HO125 := n0_; have HB := n1_; clear n0_ n1_; (try clear hb); (try clear hb2); (try clear hk); (try clear hi)))
     repeat (go_quiet (first | (go_at_call 36; (with_reducible refine (parrot_Makers.calls a0 (wrap64 (1 + (wrap64 (Int.tmod a1 5)))) t122 t123 _ (hO.below (by repeat (first | (with_reducible first | exact HB.out | apply bA | apply bN | apply b1) | exact HB.out))) A11.out).mono ?_); rintro e w14 ⟨v124, rfl, ho0, hb⟩; have n0_ := Aside0.mk (Kd.R_lower ho0 (below_size (by repeat (first | (with_reducible first | exact HB.out | apply bA | apply bN | apply b1) | exact HB.out)))); have n1_ := Aside0.mk (below_step (by repeat (first | (with_reducible first | exact HB.out | apply bA | apply bN | apply b1) | exact HB.out)) hb); clear HB; have HO125 := n0_; have HB := n1_; clear n0_ n1_; (try clear hb); (try clear hb2); (try clear hk); (try clear hi); (try clear ho0)) | (go_at_call 21; (with_reducible refine (parrot_Make.calls a2 t126 t127 _ (hO.below (by repeat (first | (with_reducible first | exact HB.out | apply bA | apply bN | apply b1) | exact HB.out))) A13.out).mono ?_); rintro e w15 ⟨rfl, hb⟩; have n0_ := Aside0.mk (Kd.R_below (by (with_reducible repeat (first | apply Kd.R_alloc | apply Kd.R_drewN | apply Kd.R_drew)); exact HO125.out) hb); have n1_ := Aside0.mk (below_step (by repeat (first | (with_reducible first | exact HB.out | apply bA | apply bN | apply b1) | exact HB.out)) hb); clear HO125; clear HB; have HO125 := n0_; have HB := n1_; clear n0_ n1_; (try clear hb); (try clear hb2); (try clear hk); (try clear hi))); try go_wp2_with (first | (go_at_call 36; (with_reducible refine (parrot_Makers.calls a0 (wrap64 (1 + (wrap64 (Int.tmod a1 5)))) t122 t123 _ (hO.below (by repeat (first | (with_reducible first | exact HB.out | apply bA | apply bN | apply b1) | exact HB.out))) A11.out).mono ?_); rintro e w14 ⟨v124, rfl, ho0, hb⟩; have n0_ := Aside0.mk (Kd.R_lower ho0 (below_size (by repeat (first | (with_reducible first | exact HB.out | apply bA | apply bN | apply b1) | exact HB.out)))); have n1_ := Aside0.mk (below_step (by repeat (first | (with_reducible first | exact HB.out | apply bA | apply bN | apply b1) | exact HB.out)) hb); clear HB; have HO125 := n0_; have HB := n1_; clear n0_ n1_; (try clear hb); (try clear hb2); (try clear hk); (try clear hi); (try clear ho0)) | (go_at_call 21; (with_reducible refine (parrot_Make.calls a2 t126 t127 _ (hO.below (by repeat (first | (with_reducible first | exact HB.out | apply bA | apply bN | apply b1) | exact HB.out))) A13.out).mono ?_); rintro e w15 ⟨rfl, hb⟩; have n0_ := Aside0.mk (Kd.R_below (by (with_reducible repeat (first | apply Kd.R_alloc | apply Kd.R_drewN | apply Kd.R_drew)); exact HO125.out) hb); have n1_ := Aside0.mk (below_step (by repeat (first | (with_reducible first | exact HB.out | apply bA | apply bN | apply b1) | exact HB.out)) hb); clear HO125; clear HB; have HO125 := n0_; have HB := n1_; clear n0_ n1_; (try clear hb); (try clear hb2); (try clear hk); (try clear hi))))
     go_loopg [12, 13, 14] kj3 (fun kq v12 v13 v14 w' => ∃ (x12_2 : Bool) (x13_2 : Int) (x14_2 : Int), v12 = .bool x12_2 ∧ v13 = .int .i64 x13_2 ∧ v14 = .int .i64 x14_2 ∧ Aside0 (pomadelaw08_ParrotFound.l0 kq a0 a2 (wrap64 (1 + (wrap64 (Int.tmod a1 5)))) t122 t126 t127 x12_2 x13_2 x14_2 = some r) ∧ Aside0 (kq ≤ kj3) ∧ Aside0 (Kd.R Kd.string 9 w' w.heap.size (fun _ => True) v124 t122) ∧ Aside0 (Below w.heap.size w w'))
     case atStart => exact ⟨(false), (0), (0), (by first | rfl | (simp; done) | (simp [*]; done)), (by first | rfl | (simp; done) | (simp [*]; done)), (by first | rfl | (simp; done) | (simp [*]; done)), H', ⟨Nat.le_refl _⟩, ⟨by (with_reducible repeat (first | apply Kd.R_alloc | apply Kd.R_drewN | apply Kd.R_drew)); exact HO125.out⟩, ⟨by repeat (first | (with_reducible first | exact HB.out | apply bA | apply bN | apply b1) | exact HB.out)⟩⟩
     case round =>
      as_aux_lemma =>
       clear H'
       try clear c1
       try clear p2
       try clear c5
       try clear c5b0
       try clear c5b1
       try clear c6
       try clear c6b0
       try clear c6b1
       try clear p6
       try clear c8
       try clear c12
       try clear c12b0
       try clear c12b1
       try clear c15
       try clear p2
       obtain ⟨x12_2, x13_2, x14_2, rfl, rfl, rfl, HA, HK2, HO_8, HB⟩ := hrel
       cases gk with
       | zero => exact absurd HA.out (by simp [pomadelaw08_ParrotFound.l0])
       | succ k2 =>
        have H := HA.out
        clear HA
        simp only [pomadelaw08_ParrotFound.l0] at H
        by_cases c16 : x14_2 < (t122.length : Int)
        ·rw [if_pos c16] at H
         have c16b0 : decide (x14_2 < (t122.length : Int)) = true := decide_eq_true c16
         clear c16
         by_cases c17 : 0 ≤ x14_2
         ·rw [if_pos c17] at H
          have c17b0 : decide (0 ≤ x14_2) = true := decide_eq_true c17
          clear c17
          replace H := Option.bind_eq_some_iff.mp H
          obtain ⟨⟨t129, t130⟩, A180, H⟩ := H
          replace H : (if t130 = 0 then (if t129.toList = a0.toList then (if ((rdOf ByteArray.empty t122 x14_2).size : Int) < 2 then (pomadelaw08_ParrotFound.j2 k2 a0 a2 (wrap64 (1 + (wrap64 (Int.tmod a1 5)))) t122 t126 t127 x12_2 x13_2 x14_2 true) else (if ((rdOf ByteArray.empty t122 x14_2).size : Int) > (wrap64 (1 + (wrap64 (Int.tmod a1 5)))) then (pomadelaw08_ParrotFound.j2 k2 a0 a2 (wrap64 (1 + (wrap64 (Int.tmod a1 5)))) t122 t126 t127 x12_2 x13_2 x14_2 true) else (if x14_2 > 0 then (if 0 ≤ (wrap64 (x14_2 - 1)) then (if (wrap64 (x14_2 - 1)) < (t122.length : Int) then (if ((rdOf ByteArray.empty t122 x14_2).size : Int) < ((rdOf ByteArray.empty t122 (wrap64 (x14_2 - 1))).size : Int) then (pomadelaw08_ParrotFound.j2 k2 a0 a2 (wrap64 (1 + (wrap64 (Int.tmod a1 5)))) t122 t126 t127 x12_2 x13_2 x14_2 true) else (if ((rdOf ByteArray.empty t122 x14_2).size : Int) = ((rdOf ByteArray.empty t122 (wrap64 (x14_2 - 1))).size : Int) then (pomadelaw08_ParrotFound.j2 k2 a0 a2 (wrap64 (1 + (wrap64 (Int.tmod a1 5)))) t122 t126 t127 x12_2 x13_2 x14_2 (!(Op.bytesLess ((rdOf ByteArray.empty t122 (wrap64 (x14_2 - 1))).toList) ((rdOf ByteArray.empty t122 x14_2).toList)))) else (pomadelaw08_ParrotFound.j2 k2 a0 a2 (wrap64 (1 + (wrap64 (Int.tmod a1 5)))) t122 t126 t127 x12_2 x13_2 x14_2 false))) else (none)) else (none)) else (pomadelaw08_ParrotFound.j2 k2 a0 a2 (wrap64 (1 + (wrap64 (Int.tmod a1 5)))) t122 t126 t127 x12_2 x13_2 x14_2 false)))) else (pomadelaw08_ParrotFound.j2 k2 a0 a2 (wrap64 (1 + (wrap64 (Int.tmod a1 5)))) t122 t126 t127 x12_2 x13_2 x14_2 true)) else (pomadelaw08_ParrotFound.j2 k2 a0 a2 (wrap64 (1 + (wrap64 (Int.tmod a1 5)))) t122 t126 t127 x12_2 x13_2 x14_2 true)) = some r := H
          have A18 := Aside0.mk A180
          clear A180
          have HC19 := Aside0.mk H
          clear H
          obtain ⟨Ao20, co20, eo20⟩ := Kd.R_slice HO_8.out
          subst eo20
          have p128 : 0 ≤ (x14_2 : Int) := of_decide_eq_true (by first | (with_reducible assumption) | assumption)
          have q128 : x14_2 < (t122.length : Int) := of_decide_eq_true (by first | (with_reducible assumption) | assumption)
          obtain ⟨ad128, e128, hx128_0⟩ := Kd.at_string (Kd.R_reads' HO_8.out).2.2 x14_2 p128 q128
          cases e128
          replace p128 := eq_true p128
          replace q128 := eq_true q128
          go_upto_region 13 with (first | (go_at_call 21; (with_reducible refine (parrot_Make.calls (rdOf ByteArray.empty t122 x14_2) t129 t130 _ (hO.below (by repeat (first | (with_reducible first | exact HB.out | apply bA | apply bN | apply b1) | exact HB.out))) A18.out).mono ?_); rintro e w21 ⟨rfl, hb⟩; have n0_ := Aside0.mk (Kd.R_below (by (with_reducible repeat (first | apply kA | apply kN | apply kD)); exact HO_8.out) hb); have n1_ := Aside0.mk (below_step (by repeat (first | (with_reducible first | exact HB.out | apply bA | apply bN | apply b1) | exact HB.out)) hb); clear HO_8; clear HB; have HO_8 := n0_; have HB := n1_; clear n0_ n1_; (try clear hb); (try clear hb2); (try clear hk); (try clear hi)))
          repeat (go_quiet (first | (go_at_call 21; (with_reducible refine (parrot_Make.calls (rdOf ByteArray.empty t122 x14_2) t129 t130 _ (hO.below (by repeat (first | (with_reducible first | exact HB.out | apply bA | apply bN | apply b1) | exact HB.out))) A18.out).mono ?_); rintro e w21 ⟨rfl, hb⟩; have n0_ := Aside0.mk (Kd.R_below (by (with_reducible repeat (first | apply kA | apply kN | apply kD)); exact HO_8.out) hb); have n1_ := Aside0.mk (below_step (by repeat (first | (with_reducible first | exact HB.out | apply bA | apply bN | apply b1) | exact HB.out)) hb); clear HO_8; clear HB; have HO_8 := n0_; have HB := n1_; clear n0_ n1_; (try clear hb); (try clear hb2); (try clear hk); (try clear hi))); go_upto_region 13 with (first | (go_at_call 21; (with_reducible refine (parrot_Make.calls (rdOf ByteArray.empty t122 x14_2) t129 t130 _ (hO.below (by repeat (first | (with_reducible first | exact HB.out | apply bA | apply bN | apply b1) | exact HB.out))) A18.out).mono ?_); rintro e w21 ⟨rfl, hb⟩; have n0_ := Aside0.mk (Kd.R_below (by (with_reducible repeat (first | apply kA | apply kN | apply kD)); exact HO_8.out) hb); have n1_ := Aside0.mk (below_step (by repeat (first | (with_reducible first | exact HB.out | apply bA | apply bN | apply b1) | exact HB.out)) hb); clear HO_8; clear HB; have HO_8 := n0_; have HB := n1_; clear n0_ n1_; (try clear hb); (try clear hb2); (try clear hk); (try clear hi))))
          (try simp only [Act.put, List.setIfInBounds_toArray, List.set_cons_zero, List.set_cons_succ])
          go_cut [132] (fun v132 wc => ∃ (kq : Nat) (x132_18 : Bool), v132 = .bool x132_18 ∧ Aside0 (pomadelaw08_ParrotFound.j2 kq a0 a2 (wrap64 (1 + (wrap64 (Int.tmod a1 5)))) t122 t126 t127 x12_2 x13_2 x14_2 x132_18 = some r) ∧ Aside0 (kq ≤ k2) ∧ Aside0 (Kd.R Kd.string 9 wc w.heap.size (fun _ => True) (.slice (some ad128) t122.length co20) t122) ∧ Aside0 (Below w.heap.size w wc))
          case first =>
           as_aux_lemma =>
            simp only [List.append_eq, List.cons_append, List.nil_append]
            have H := HC19.out
            clear HC19
            by_cases c22 : t130 = 0
            ·rw [if_pos c22] at H
             have c22b0 : (t130 == 0) = true := beq_iff_eq.mpr c22
             have c22b1 : (t130 != 0) = false := bne_eq_false_iff_eq.mpr c22
             clear c22
             (first | rw [c22b0] | (simp only [i64_w, i32_w]; rw [c22b0]) | skip)
             by_cases c23 : t129.toList = a0.toList
             ·rw [if_pos c23] at H
              have c23b0 : (t129.toList == a0.toList) = true := beq_iff_eq.mpr c23
              have c23b1 : (t129.toList != a0.toList) = false := bne_eq_false_iff_eq.mpr c23
              clear c23
              by_cases c24 : ((rdOf ByteArray.empty t122 x14_2).size : Int) < 2
              ·rw [if_pos c24] at H
               have c24b0 : decide (((rdOf ByteArray.empty t122 x14_2).size : Int) < 2) = true := decide_eq_true c24
               have c24b1 : decide ((rdOf ByteArray.empty t122 x14_2).size < 2) = true := decide_eq_true (by omega)
               clear c24
               have H' := Aside0.mk H
               clear H
               have p131 : 0 ≤ (x14_2 : Int) := of_decide_eq_true (by first | (with_reducible assumption) | assumption)
               have q131 : x14_2 < (t122.length : Int) := of_decide_eq_true (by first | (with_reducible assumption) | assumption)
               obtain ⟨ad131, e131, hx131_0⟩ := Kd.at_string (Kd.R_reads' HO_8.out).2.2 x14_2 p131 q131
               obtain rfl : ad128 = ad131 := (by injection e131)
               replace p131 := eq_true p131
               replace q131 := eq_true q131
               go_wp2
               repeat (go_quiet (fail); try go_wp2)
               go_meet
               case rel => exact ⟨_, (true), (by first | rfl | (simp; done) | (simp [*]; done)), H', ⟨by have := HJ3.out; have := HK2.out; first | omega | exact Nat.le_refl _⟩, ⟨by (with_reducible repeat (first | apply kA | apply kN | apply kD)); exact HO_8.out⟩, ⟨by repeat (first | (with_reducible first | exact HB.out | apply bA | apply bN | apply b1) | exact HB.out)⟩⟩
              ·rw [if_neg c24] at H
               have c24b0 : decide (((rdOf ByteArray.empty t122 x14_2).size : Int) < 2) = false := decide_eq_false c24
               have c24b1 : decide ((rdOf ByteArray.empty t122 x14_2).size < 2) = false := decide_eq_false (by omega)
               clear c24
               by_cases c25 : ((rdOf ByteArray.empty t122 x14_2).size : Int) > (wrap64 (1 + (wrap64 (Int.tmod a1 5))))
               ·rw [if_pos c25] at H
                have c25b0 : decide ((wrap64 (1 + (wrap64 (Int.tmod a1 5)))) < ((rdOf ByteArray.empty t122 x14_2).size : Int)) = true := decide_eq_true c25
                clear c25
                have H' := Aside0.mk H
                clear H
                have p131 : 0 ≤ (x14_2 : Int) := of_decide_eq_true (by first | (with_reducible assumption) | assumption)
                have q131 : x14_2 < (t122.length : Int) := of_decide_eq_true (by first | (with_reducible assumption) | assumption)
                obtain ⟨ad131, e131, hx131_0⟩ := Kd.at_string (Kd.R_reads' HO_8.out).2.2 x14_2 p131 q131
                obtain rfl : ad128 = ad131 := (by injection e131)
                replace p131 := eq_true p131
                replace q131 := eq_true q131
                have p132 : 0 ≤ (x14_2 : Int) := of_decide_eq_true (by first | (with_reducible assumption) | assumption)
                have q132 : x14_2 < (t122.length : Int) := of_decide_eq_true (by first | (with_reducible assumption) | assumption)
                obtain ⟨ad132, e132, hx132_0⟩ := Kd.at_string (Kd.R_reads' HO_8.out).2.2 x14_2 p132 q132
                obtain rfl : ad128 = ad132 := (by injection e132)
                replace p132 := eq_true p132
                replace q132 := eq_true q132
                go_wp2
                repeat (go_quiet (fail); try go_wp2)
                go_meet
                case rel => exact ⟨_, (true), (by first | rfl | (simp; done) | (simp [*]; done)), H', ⟨by have := HJ3.out; have := HK2.out; first | omega | exact Nat.le_refl _⟩, ⟨by (with_reducible repeat (first | apply kA | apply kN | apply kD)); exact HO_8.out⟩, ⟨by repeat (first | (with_reducible first | exact HB.out | apply bA | apply bN | apply b1) | exact HB.out)⟩⟩
               ·rw [if_neg c25] at H
                have c25b0 : decide ((wrap64 (1 + (wrap64 (Int.tmod a1 5)))) < ((rdOf ByteArray.empty t122 x14_2).size : Int)) = false := decide_eq_false c25
                clear c25
                by_cases c26 : x14_2 > 0
                ·rw [if_pos c26] at H
                 have c26b0 : decide (0 < x14_2) = true := decide_eq_true c26
                 clear c26
                 obtain ⟨ji27, hji27⟩ : ∃ j_ : Int, (wrap64 (x14_2 - 1)) = j_ := ⟨_, rfl⟩
                 replace H : (if 0 ≤ (ji27) then (if (ji27) < (t122.length : Int) then (if ((rdOf ByteArray.empty t122 x14_2).size : Int) < ((rdOf ByteArray.empty t122 (ji27)).size : Int) then (pomadelaw08_ParrotFound.j2 k2 a0 a2 (wrap64 (1 + (wrap64 (Int.tmod a1 5)))) t122 t126 t127 x12_2 x13_2 x14_2 true) else (if ((rdOf ByteArray.empty t122 x14_2).size : Int) = ((rdOf ByteArray.empty t122 (ji27)).size : Int) then (pomadelaw08_ParrotFound.j2 k2 a0 a2 (wrap64 (1 + (wrap64 (Int.tmod a1 5)))) t122 t126 t127 x12_2 x13_2 x14_2 (!(Op.bytesLess ((rdOf ByteArray.empty t122 (ji27)).toList) ((rdOf ByteArray.empty t122 x14_2).toList)))) else (pomadelaw08_ParrotFound.j2 k2 a0 a2 (wrap64 (1 + (wrap64 (Int.tmod a1 5)))) t122 t126 t127 x12_2 x13_2 x14_2 false))) else (none)) else (none)) = some r := by first | (rw [hji27] at H; exact H) | (simp only [hji27] at H ⊢; exact H)
                 have hji27w : (IntKind.i64.wrap (x14_2 - 1)) = ji27 := (i64_w _).trans hji27
                 by_cases c28 : 0 ≤ (ji27)
                 ·rw [if_pos c28] at H
                  have c28b0 : decide (0 ≤ (ji27)) = true := decide_eq_true c28
                  clear c28
                  by_cases c29 : (ji27) < (t122.length : Int)
                  ·rw [if_pos c29] at H
                   have c29b0 : decide ((ji27) < (t122.length : Int)) = true := decide_eq_true c29
                   clear c29
                   by_cases c30 : ((rdOf ByteArray.empty t122 x14_2).size : Int) < ((rdOf ByteArray.empty t122 (ji27)).size : Int)
                   ·rw [if_pos c30] at H
                    have c30b0 : decide (((rdOf ByteArray.empty t122 x14_2).size : Int) < ((rdOf ByteArray.empty t122 (ji27)).size : Int)) = true := decide_eq_true c30
                    have c30b1 : decide ((rdOf ByteArray.empty t122 x14_2).size < (rdOf ByteArray.empty t122 (ji27)).size) = true := decide_eq_true (Int.ofNat_lt.mp c30)
                    clear c30
                    have H' := Aside0.mk H
                    clear H
                    have p131 : 0 ≤ (x14_2 : Int) := of_decide_eq_true (by first | (with_reducible assumption) | assumption)
                    have q131 : x14_2 < (t122.length : Int) := of_decide_eq_true (by first | (with_reducible assumption) | assumption)
                    obtain ⟨ad131, e131, hx131_0⟩ := Kd.at_string (Kd.R_reads' HO_8.out).2.2 x14_2 p131 q131
                    obtain rfl : ad128 = ad131 := (by injection e131)
                    replace p131 := eq_true p131
                    replace q131 := eq_true q131
                    have p132 : 0 ≤ (x14_2 : Int) := of_decide_eq_true (by first | (with_reducible assumption) | assumption)
                    have q132 : x14_2 < (t122.length : Int) := of_decide_eq_true (by first | (with_reducible assumption) | assumption)
                    obtain ⟨ad132, e132, hx132_0⟩ := Kd.at_string (Kd.R_reads' HO_8.out).2.2 x14_2 p132 q132
                    obtain rfl : ad128 = ad132 := (by injection e132)
                    replace p132 := eq_true p132
                    replace q132 := eq_true q132
                    have p133 : 0 ≤ (x14_2 : Int) := of_decide_eq_true (by first | (with_reducible assumption) | assumption)
                    have q133 : x14_2 < (t122.length : Int) := of_decide_eq_true (by first | (with_reducible assumption) | assumption)
                    obtain ⟨ad133, e133, hx133_0⟩ := Kd.at_string (Kd.R_reads' HO_8.out).2.2 x14_2 p133 q133
                    obtain rfl : ad128 = ad133 := (by injection e133)
                    replace p133 := eq_true p133
                    replace q133 := eq_true q133
                    have p134 : 0 ≤ ((ji27) : Int) := of_decide_eq_true (by first | (with_reducible assumption) | assumption)
                    have q134 : (ji27) < (t122.length : Int) := of_decide_eq_true (by first | (with_reducible assumption) | assumption)
                    obtain ⟨ad134, e134, hx134_0⟩ := Kd.at_string (Kd.R_reads' HO_8.out).2.2 (ji27) p134 q134
                    obtain rfl : ad128 = ad134 := (by injection e134)
                    replace p134 := eq_true p134
                    replace q134 := eq_true q134
                    go_wp2
                    repeat (go_quiet (fail); try go_wp2)
                    go_meet
                    case rel => exact ⟨_, (true), (by first | rfl | (simp; done) | (simp [*]; done)), H', ⟨by have := HJ3.out; have := HK2.out; first | omega | exact Nat.le_refl _⟩, ⟨by (with_reducible repeat (first | apply kA | apply kN | apply kD)); exact HO_8.out⟩, ⟨by repeat (first | (with_reducible first | exact HB.out | apply bA | apply bN | apply b1) | exact HB.out)⟩⟩
                   ·rw [if_neg c30] at H
                    have c30b0 : decide (((rdOf ByteArray.empty t122 x14_2).size : Int) < ((rdOf ByteArray.empty t122 (ji27)).size : Int)) = false := decide_eq_false c30
                    have c30b1 : decide ((rdOf ByteArray.empty t122 x14_2).size < (rdOf ByteArray.empty t122 (ji27)).size) = false := decide_eq_false (fun h => c30 (Int.ofNat_lt.mpr h))
                    clear c30
                    by_cases c31 : ((rdOf ByteArray.empty t122 x14_2).size : Int) = ((rdOf ByteArray.empty t122 (ji27)).size : Int)
                    ·rw [if_pos c31] at H
                     have c31b0 : (((rdOf ByteArray.empty t122 x14_2).size : Int) == ((rdOf ByteArray.empty t122 (ji27)).size : Int)) = true := beq_iff_eq.mpr c31
                     have c31b1 : (((rdOf ByteArray.empty t122 x14_2).size : Int) != ((rdOf ByteArray.empty t122 (ji27)).size : Int)) = false := bne_eq_false_iff_eq.mpr c31
                     have c31b2 : ((rdOf ByteArray.empty t122 x14_2).size == (rdOf ByteArray.empty t122 (ji27)).size) = true := by first | simpa using c31 | (simp at c31 ⊢; omega)
                     clear c31
                     have H' := Aside0.mk H
                     clear H
                     have p131 : 0 ≤ (x14_2 : Int) := of_decide_eq_true (by first | (with_reducible assumption) | assumption)
                     have q131 : x14_2 < (t122.length : Int) := of_decide_eq_true (by first | (with_reducible assumption) | assumption)
                     obtain ⟨ad131, e131, hx131_0⟩ := Kd.at_string (Kd.R_reads' HO_8.out).2.2 x14_2 p131 q131
                     obtain rfl : ad128 = ad131 := (by injection e131)
                     replace p131 := eq_true p131
                     replace q131 := eq_true q131
                     have p132 : 0 ≤ (x14_2 : Int) := of_decide_eq_true (by first | (with_reducible assumption) | assumption)
                     have q132 : x14_2 < (t122.length : Int) := of_decide_eq_true (by first | (with_reducible assumption) | assumption)
                     obtain ⟨ad132, e132, hx132_0⟩ := Kd.at_string (Kd.R_reads' HO_8.out).2.2 x14_2 p132 q132
                     obtain rfl : ad128 = ad132 := (by injection e132)
                     replace p132 := eq_true p132
                     replace q132 := eq_true q132
                     have p133 : 0 ≤ (x14_2 : Int) := of_decide_eq_true (by first | (with_reducible assumption) | assumption)
                     have q133 : x14_2 < (t122.length : Int) := of_decide_eq_true (by first | (with_reducible assumption) | assumption)
                     obtain ⟨ad133, e133, hx133_0⟩ := Kd.at_string (Kd.R_reads' HO_8.out).2.2 x14_2 p133 q133
                     obtain rfl : ad128 = ad133 := (by injection e133)
                     replace p133 := eq_true p133
                     replace q133 := eq_true q133
                     have p134 : 0 ≤ ((ji27) : Int) := of_decide_eq_true (by first | (with_reducible assumption) | assumption)
                     have q134 : (ji27) < (t122.length : Int) := of_decide_eq_true (by first | (with_reducible assumption) | assumption)
                     obtain ⟨ad134, e134, hx134_0⟩ := Kd.at_string (Kd.R_reads' HO_8.out).2.2 (ji27) p134 q134
                     obtain rfl : ad128 = ad134 := (by injection e134)
                     replace p134 := eq_true p134
                     replace q134 := eq_true q134
                     have p135 : 0 ≤ (x14_2 : Int) := of_decide_eq_true (by first | (with_reducible assumption) | assumption)
                     have q135 : x14_2 < (t122.length : Int) := of_decide_eq_true (by first | (with_reducible assumption) | assumption)
                     obtain ⟨ad135, e135, hx135_0⟩ := Kd.at_string (Kd.R_reads' HO_8.out).2.2 x14_2 p135 q135
                     obtain rfl : ad128 = ad135 := (by injection e135)
                     replace p135 := eq_true p135
                     replace q135 := eq_true q135
                     have p136 : 0 ≤ ((ji27) : Int) := of_decide_eq_true (by first | (with_reducible assumption) | assumption)
                     have q136 : (ji27) < (t122.length : Int) := of_decide_eq_true (by first | (with_reducible assumption) | assumption)
                     obtain ⟨ad136, e136, hx136_0⟩ := Kd.at_string (Kd.R_reads' HO_8.out).2.2 (ji27) p136 q136
                     obtain rfl : ad128 = ad136 := (by injection e136)
                     replace p136 := eq_true p136
                     replace q136 := eq_true q136
                     have p137 : 0 ≤ (x14_2 : Int) := of_decide_eq_true (by first | (with_reducible assumption) | assumption)
                     have q137 : x14_2 < (t122.length : Int) := of_decide_eq_true (by first | (with_reducible assumption) | assumption)
                     obtain ⟨ad137, e137, hx137_0⟩ := Kd.at_string (Kd.R_reads' HO_8.out).2.2 x14_2 p137 q137
                     obtain rfl : ad128 = ad137 := (by injection e137)
                     replace p137 := eq_true p137
                     replace q137 := eq_true q137
                     have p138 : 0 ≤ ((ji27) : Int) := of_decide_eq_true (by first | (with_reducible assumption) | assumption)
                     have q138 : (ji27) < (t122.length : Int) := of_decide_eq_true (by first | (with_reducible assumption) | assumption)
                     obtain ⟨ad138, e138, hx138_0⟩ := Kd.at_string (Kd.R_reads' HO_8.out).2.2 (ji27) p138 q138
                     obtain rfl : ad128 = ad138 := (by injection e138)
                     replace p138 := eq_true p138
                     replace q138 := eq_true q138
                     go_wp2
                     repeat (go_quiet (fail); try go_wp2)
                     go_meet
                     case rel => exact ⟨_, (!(Op.bytesLess ((rdOf ByteArray.empty t122 (ji27)).toList) ((rdOf ByteArray.empty t122 x14_2).toList))), (by first | exact congrArg Value.bool (leq_less _ _) | (simp only [leq_less]; done) | rfl | (simp; done) | (simp only [← hji27] <;> (first | rfl | (simp; done) | (simp [mn, mx]; done))) | (simp [*]; done)), H', ⟨by have := HJ3.out; have := HK2.out; first | omega | exact Nat.le_refl _⟩, ⟨by (with_reducible repeat (first | apply kA | apply kN | apply kD)); exact HO_8.out⟩, ⟨by repeat (first | (with_reducible first | exact HB.out | apply bA | apply bN | apply b1) | exact HB.out)⟩⟩
                    ·rw [if_neg c31] at H
                     have c31b0 : (((rdOf ByteArray.empty t122 x14_2).size : Int) == ((rdOf ByteArray.empty t122 (ji27)).size : Int)) = false := beq_eq_false_iff_ne.mpr c31
                     have c31b1 : (((rdOf ByteArray.empty t122 x14_2).size : Int) != ((rdOf ByteArray.empty t122 (ji27)).size : Int)) = true := bne_iff_ne.mpr c31
                     have c31b2 : ((rdOf ByteArray.empty t122 x14_2).size == (rdOf ByteArray.empty t122 (ji27)).size) = false := by first | simpa using c31 | (simp at c31 ⊢; omega)
                     have H' := Aside0.mk H
                     clear H
                     have p131 : 0 ≤ (x14_2 : Int) := of_decide_eq_true (by first | (with_reducible assumption) | assumption)
                     have q131 : x14_2 < (t122.length : Int) := of_decide_eq_true (by first | (with_reducible assumption) | assumption)
                     obtain ⟨ad131, e131, hx131_0⟩ := Kd.at_string (Kd.R_reads' HO_8.out).2.2 x14_2 p131 q131
                     obtain rfl : ad128 = ad131 := (by injection e131)
                     replace p131 := eq_true p131
                     replace q131 := eq_true q131
                     have p132 : 0 ≤ (x14_2 : Int) := of_decide_eq_true (by first | (with_reducible assumption) | assumption)
                     have q132 : x14_2 < (t122.length : Int) := of_decide_eq_true (by first | (with_reducible assumption) | assumption)
                     obtain ⟨ad132, e132, hx132_0⟩ := Kd.at_string (Kd.R_reads' HO_8.out).2.2 x14_2 p132 q132
                     obtain rfl : ad128 = ad132 := (by injection e132)
                     replace p132 := eq_true p132
                     replace q132 := eq_true q132
                     have p133 : 0 ≤ (x14_2 : Int) := of_decide_eq_true (by first | (with_reducible assumption) | assumption)
                     have q133 : x14_2 < (t122.length : Int) := of_decide_eq_true (by first | (with_reducible assumption) | assumption)
                     obtain ⟨ad133, e133, hx133_0⟩ := Kd.at_string (Kd.R_reads' HO_8.out).2.2 x14_2 p133 q133
                     obtain rfl : ad128 = ad133 := (by injection e133)
                     replace p133 := eq_true p133
                     replace q133 := eq_true q133
                     have p134 : 0 ≤ ((ji27) : Int) := of_decide_eq_true (by first | (with_reducible assumption) | assumption)
                     have q134 : (ji27) < (t122.length : Int) := of_decide_eq_true (by first | (with_reducible assumption) | assumption)
                     obtain ⟨ad134, e134, hx134_0⟩ := Kd.at_string (Kd.R_reads' HO_8.out).2.2 (ji27) p134 q134
                     obtain rfl : ad128 = ad134 := (by injection e134)
                     replace p134 := eq_true p134
                     replace q134 := eq_true q134
                     have p135 : 0 ≤ (x14_2 : Int) := of_decide_eq_true (by first | (with_reducible assumption) | assumption)
                     have q135 : x14_2 < (t122.length : Int) := of_decide_eq_true (by first | (with_reducible assumption) | assumption)
                     obtain ⟨ad135, e135, hx135_0⟩ := Kd.at_string (Kd.R_reads' HO_8.out).2.2 x14_2 p135 q135
                     obtain rfl : ad128 = ad135 := (by injection e135)
                     replace p135 := eq_true p135
                     replace q135 := eq_true q135
                     have p136 : 0 ≤ ((ji27) : Int) := of_decide_eq_true (by first | (with_reducible assumption) | assumption)
                     have q136 : (ji27) < (t122.length : Int) := of_decide_eq_true (by first | (with_reducible assumption) | assumption)
                     obtain ⟨ad136, e136, hx136_0⟩ := Kd.at_string (Kd.R_reads' HO_8.out).2.2 (ji27) p136 q136
                     obtain rfl : ad128 = ad136 := (by injection e136)
                     replace p136 := eq_true p136
                     replace q136 := eq_true q136
                     go_wp2
                     repeat (go_quiet (fail); try go_wp2)
                     go_meet
                     case rel => exact ⟨_, (false), (by first | rfl | (simp; done) | (simp [*]; done)), H', ⟨by have := HJ3.out; have := HK2.out; first | omega | exact Nat.le_refl _⟩, ⟨by (with_reducible repeat (first | apply kA | apply kN | apply kD)); exact HO_8.out⟩, ⟨by repeat (first | (with_reducible first | exact HB.out | apply bA | apply bN | apply b1) | exact HB.out)⟩⟩
                  ·rw [if_neg c29] at H
                   exact absurd H (by simp)
                 ·rw [if_neg c28] at H
                  exact absurd H (by simp)
                ·rw [if_neg c26] at H
                 have c26b0 : decide (0 < x14_2) = false := decide_eq_false c26
                 clear c26
                 have H' := Aside0.mk H
                 clear H
                 have p131 : 0 ≤ (x14_2 : Int) := of_decide_eq_true (by first | (with_reducible assumption) | assumption)
                 have q131 : x14_2 < (t122.length : Int) := of_decide_eq_true (by first | (with_reducible assumption) | assumption)
                 obtain ⟨ad131, e131, hx131_0⟩ := Kd.at_string (Kd.R_reads' HO_8.out).2.2 x14_2 p131 q131
                 obtain rfl : ad128 = ad131 := (by injection e131)
                 replace p131 := eq_true p131
                 replace q131 := eq_true q131
                 have p132 : 0 ≤ (x14_2 : Int) := of_decide_eq_true (by first | (with_reducible assumption) | assumption)
                 have q132 : x14_2 < (t122.length : Int) := of_decide_eq_true (by first | (with_reducible assumption) | assumption)
                 obtain ⟨ad132, e132, hx132_0⟩ := Kd.at_string (Kd.R_reads' HO_8.out).2.2 x14_2 p132 q132
                 obtain rfl : ad128 = ad132 := (by injection e132)
                 replace p132 := eq_true p132
                 replace q132 := eq_true q132
                 go_wp2
                 repeat (go_quiet (fail); try go_wp2)
                 go_meet
                 case rel => exact ⟨_, (false), (by first | rfl | (simp; done) | (simp [*]; done)), H', ⟨by have := HJ3.out; have := HK2.out; first | omega | exact Nat.le_refl _⟩, ⟨by (with_reducible repeat (first | apply kA | apply kN | apply kD)); exact HO_8.out⟩, ⟨by repeat (first | (with_reducible first | exact HB.out | apply bA | apply bN | apply b1) | exact HB.out)⟩⟩
             ·rw [if_neg c23] at H
              have c23b0 : (t129.toList == a0.toList) = false := beq_eq_false_iff_ne.mpr c23
              have c23b1 : (t129.toList != a0.toList) = true := bne_iff_ne.mpr c23
              have H' := Aside0.mk H
              clear H
              go_wp2
              repeat (go_quiet (fail); try go_wp2)
              go_meet
              case rel => exact ⟨_, (true), (by first | rfl | (simp; done) | (simp [*]; done)), H', ⟨by have := HJ3.out; have := HK2.out; first | omega | exact Nat.le_refl _⟩, ⟨by (with_reducible repeat (first | apply kA | apply kN | apply kD)); exact HO_8.out⟩, ⟨by repeat (first | (with_reducible first | exact HB.out | apply bA | apply bN | apply b1) | exact HB.out)⟩⟩
            ·rw [if_neg c22] at H
             have c22b0 : (t130 == 0) = false := beq_eq_false_iff_ne.mpr c22
             have c22b1 : (t130 != 0) = true := bne_iff_ne.mpr c22
             (first | rw [c22b0] | (simp only [i64_w, i32_w]; rw [c22b0]) | skip)
             have H' := Aside0.mk H
             clear H
             go_wp2
             repeat (go_quiet (fail); try go_wp2)
             go_meet
             case rel => exact ⟨_, (true), (by first | rfl | (simp; done) | (simp [*]; done)), H', ⟨by have := HJ3.out; have := HK2.out; first | omega | exact Nat.le_refl _⟩, ⟨by (with_reducible repeat (first | apply kA | apply kN | apply kD)); exact HO_8.out⟩, ⟨by repeat (first | (with_reducible first | exact HB.out | apply bA | apply bN | apply b1) | exact HB.out)⟩⟩
          case rest =>
           as_aux_lemma =>
            clear HC19
            try clear c1
            try clear p1
            try clear q1
            try clear hx1
            try clear c2
            try clear p2
            try clear c3
            try clear c5
            try clear c5b0
            try clear c5b1
            try clear c6
            try clear c6b0
            try clear c6b1
            try clear p6
            try clear c8
            try clear c12
            try clear c12b0
            try clear c12b1
            try clear p12
            try clear q12
            try clear hx12
            try clear p13
            try clear q13
            try clear hx13
            try clear c15
            try clear c16
            try clear c16b0
            try clear c17
            try clear c17b0
            try clear c22
            try clear c22b0
            try clear c22b1
            try clear c23
            try clear c23b0
            try clear c23b1
            try clear c24
            try clear c24b0
            try clear c24b1
            try clear c25
            try clear c25b0
            try clear c26
            try clear c26b0
            try clear c28
            try clear c28b0
            try clear c29
            try clear c29b0
            try clear c30
            try clear c30b0
            try clear c30b1
            try clear c31
            try clear c31b0
            try clear c31b1
            try clear c31b2
            try clear hx128_0
            try clear hx131_0
            try clear hx132_0
            try clear hx133_0
            try clear hx134_0
            try clear hx135_0
            try clear hx136_0
            try clear hx137_0
            try clear hx138_0
            try clear p128
            try clear p131
            try clear p132
            try clear p133
            try clear p134
            try clear p135
            try clear p136
            try clear p137
            try clear p138
            try clear p2
            try clear p6
            try clear q128
            try clear q131
            try clear q132
            try clear q133
            try clear q134
            try clear q135
            try clear q136
            try clear q137
            try clear q138
            obtain ⟨kq, x132_18, rfl, HA, HJ18, HO_8, HB⟩ := hcut
            cases kq with
            | zero => exact absurd HA.out (by simp [pomadelaw08_ParrotFound.j2])
            | succ kj18 =>
             have H := HA.out
             clear HA
             simp only [pomadelaw08_ParrotFound.j2] at H
             by_cases c32 : x132_18 = true
             ·subst c32
              have H1 : (some false) = some r := by rw [if_pos rfl] at H; exact H
              clear H
              have H := H1
              clear H1
              obtain rfl := Option.some.inj H
              go_wp2
              repeat (go_quiet (fail); try go_wp2)
              go_ret
              exact ⟨by first | rfl | (simp [errW_none, errW_some] <;> rfl) | (simp [*, errW_none, errW_some] <;> rfl), by repeat (first | (with_reducible first | exact HB.out | apply bA | apply bN | apply b1) | exact HB.out)⟩
             ·replace c32 := Bool.eq_false_iff.mpr c32
              subst c32
              have H1 : (if x12_2 = true then (if 0 ≤ x14_2 then (if x14_2 < (t122.length : Int) then (if 0 < ((rdOf ByteArray.empty t122 x14_2).size : Int) then (if (bt (rdOf ByteArray.empty t122 x14_2) 0) = 50 then (pomadelaw08_ParrotFound.l0 kj18 a0 a2 (wrap64 (1 + (wrap64 (Int.tmod a1 5)))) t122 t126 t127 true (wrap64 (x13_2 + 1)) (wrap64 (x14_2 + 1))) else (pomadelaw08_ParrotFound.l0 kj18 a0 a2 (wrap64 (1 + (wrap64 (Int.tmod a1 5)))) t122 t126 t127 true x13_2 (wrap64 (x14_2 + 1)))) else (none)) else (none)) else (none)) else (if 0 ≤ x14_2 then (if x14_2 < (t122.length : Int) then (if 0 < ((rdOf ByteArray.empty t122 x14_2).size : Int) then (if (bt (rdOf ByteArray.empty t122 x14_2) 0) = 50 then (pomadelaw08_ParrotFound.l0 kj18 a0 a2 (wrap64 (1 + (wrap64 (Int.tmod a1 5)))) t122 t126 t127 ((rdOf ByteArray.empty t122 x14_2).toList == a2.toList) (wrap64 (x13_2 + 1)) (wrap64 (x14_2 + 1))) else (pomadelaw08_ParrotFound.l0 kj18 a0 a2 (wrap64 (1 + (wrap64 (Int.tmod a1 5)))) t122 t126 t127 ((rdOf ByteArray.empty t122 x14_2).toList == a2.toList) x13_2 (wrap64 (x14_2 + 1)))) else (none)) else (none)) else (none))) = some r := by rw [if_neg (show ¬ (false = true) by decide)] at H; exact H
              clear H
              have H := H1
              clear H1
              by_cases c33 : x12_2 = true
              ·subst c33
               have H1 : (if 0 ≤ x14_2 then (if x14_2 < (t122.length : Int) then (if 0 < ((rdOf ByteArray.empty t122 x14_2).size : Int) then (if (bt (rdOf ByteArray.empty t122 x14_2) 0) = 50 then (pomadelaw08_ParrotFound.l0 kj18 a0 a2 (wrap64 (1 + (wrap64 (Int.tmod a1 5)))) t122 t126 t127 true (wrap64 (x13_2 + 1)) (wrap64 (x14_2 + 1))) else (pomadelaw08_ParrotFound.l0 kj18 a0 a2 (wrap64 (1 + (wrap64 (Int.tmod a1 5)))) t122 t126 t127 true x13_2 (wrap64 (x14_2 + 1)))) else (none)) else (none)) else (none)) = some r := by rw [if_pos rfl] at H; exact H
               clear H
               have H := H1
               clear H1
               by_cases c34 : 0 ≤ x14_2
               ·rw [if_pos c34] at H
                have c34b0 : decide (0 ≤ x14_2) = true := decide_eq_true c34
                clear c34
                by_cases c35 : x14_2 < (t122.length : Int)
                ·rw [if_pos c35] at H
                 have c35b0 : decide (x14_2 < (t122.length : Int)) = true := decide_eq_true c35
                 clear c35
                 by_cases c36 : 0 < ((rdOf ByteArray.empty t122 x14_2).size : Int)
                 ·rw [if_pos c36] at H
                  have c36b0 : decide (0 < ((rdOf ByteArray.empty t122 x14_2).size : Int)) = true := decide_eq_true c36
                  have c36b1 : decide (0 < (rdOf ByteArray.empty t122 x14_2).size) = true := decide_eq_true (by omega)
                  clear c36
                  by_cases c38 : (bt (rdOf ByteArray.empty t122 x14_2) 0) = 50
                  ·rw [if_pos c38] at H
                   have c38b0 : ((bt (rdOf ByteArray.empty t122 x14_2) 0) == 50) = true := beq_iff_eq.mpr c38
                   have c38b1 : ((bt (rdOf ByteArray.empty t122 x14_2) 0) != 50) = false := bne_eq_false_iff_eq.mpr c38
                   clear c38
                   have H' := Aside0.mk H
                   clear H
                   have p139 : 0 ≤ (x14_2 : Int) := of_decide_eq_true (by first | (with_reducible assumption) | assumption)
                   have q139 : x14_2 < (t122.length : Int) := of_decide_eq_true (by first | (with_reducible assumption) | assumption)
                   obtain ⟨ad139, e139, hx139_0⟩ := Kd.at_string (Kd.R_reads' HO_8.out).2.2 x14_2 p139 q139
                   obtain rfl : ad128 = ad139 := (by injection e139)
                   replace p139 := eq_true p139
                   replace q139 := eq_true q139
                   have p37 : 0 ≤ (0 : Int) := (by omega)
                   have q37 : 0 < (rdOf ByteArray.empty t122 x14_2).size := (by have : (0 : Int) < ((rdOf ByteArray.empty t122 x14_2).size : Int) := of_decide_eq_true (by first | (with_reducible assumption) | assumption); omega)
                   have hx37 : ∀ h : 0 < (rdOf ByteArray.empty t122 x14_2).size, (((rdOf ByteArray.empty t122 x14_2)[0]'h).toNat : Int) = bt (rdOf ByteArray.empty t122 x14_2) 0 := bt_at (rdOf ByteArray.empty t122 x14_2) 0
                   clear p37
                   have qi37 : (0 < ((rdOf ByteArray.empty t122 x14_2).size : Int)) = True := eq_true (of_decide_eq_true (by first | (with_reducible assumption) | assumption))
                   replace q37 := eq_true q37
                   go_wp2
                   repeat (go_quiet (fail); try go_wp2)
                   go_roundg kj18
                   case measure => have := HJ3.out; have := HK2.out; have := HJ18.out; omega
                   case rel => exact ⟨(true), (wrap64 (x13_2 + 1)), (wrap64 (x14_2 + 1)), (by first | rfl | (simp; done) | (simp [*]; done)), (by first | rfl | (simp; done) | (simp [*]; done)), (by first | rfl | (simp; done) | (simp [*]; done)), H', ⟨by have := HJ3.out; have := HK2.out; have := HJ18.out; omega⟩, ⟨by (with_reducible repeat (first | apply kA | apply kN | apply kD)); exact HO_8.out⟩, ⟨by repeat (first | (with_reducible first | exact HB.out | apply bA | apply bN | apply b1) | exact HB.out)⟩⟩
                  ·rw [if_neg c38] at H
                   have c38b0 : ((bt (rdOf ByteArray.empty t122 x14_2) 0) == 50) = false := beq_eq_false_iff_ne.mpr c38
                   have c38b1 : ((bt (rdOf ByteArray.empty t122 x14_2) 0) != 50) = true := bne_iff_ne.mpr c38
                   have H' := Aside0.mk H
                   clear H
                   have p139 : 0 ≤ (x14_2 : Int) := of_decide_eq_true (by first | (with_reducible assumption) | assumption)
                   have q139 : x14_2 < (t122.length : Int) := of_decide_eq_true (by first | (with_reducible assumption) | assumption)
                   obtain ⟨ad139, e139, hx139_0⟩ := Kd.at_string (Kd.R_reads' HO_8.out).2.2 x14_2 p139 q139
                   obtain rfl : ad128 = ad139 := (by injection e139)
                   replace p139 := eq_true p139
                   replace q139 := eq_true q139
                   have p37 : 0 ≤ (0 : Int) := (by omega)
                   have q37 : 0 < (rdOf ByteArray.empty t122 x14_2).size := (by have : (0 : Int) < ((rdOf ByteArray.empty t122 x14_2).size : Int) := of_decide_eq_true (by first | (with_reducible assumption) | assumption); omega)
                   have hx37 : ∀ h : 0 < (rdOf ByteArray.empty t122 x14_2).size, (((rdOf ByteArray.empty t122 x14_2)[0]'h).toNat : Int) = bt (rdOf ByteArray.empty t122 x14_2) 0 := bt_at (rdOf ByteArray.empty t122 x14_2) 0
                   clear p37
                   have qi37 : (0 < ((rdOf ByteArray.empty t122 x14_2).size : Int)) = True := eq_true (of_decide_eq_true (by first | (with_reducible assumption) | assumption))
                   replace q37 := eq_true q37
                   go_wp2
                   repeat (go_quiet (fail); try go_wp2)
                   go_roundg kj18
                   case measure => have := HJ3.out; have := HK2.out; have := HJ18.out; omega
                   case rel => exact ⟨(true), (x13_2), (wrap64 (x14_2 + 1)), (by first | rfl | (simp; done) | (simp [*]; done)), (by first | rfl | (simp; done) | (simp [*]; done)), (by first | rfl | (simp; done) | (simp [*]; done)), H', ⟨by have := HJ3.out; have := HK2.out; have := HJ18.out; omega⟩, ⟨by (with_reducible repeat (first | apply kA | apply kN | apply kD)); exact HO_8.out⟩, ⟨by repeat (first | (with_reducible first | exact HB.out | apply bA | apply bN | apply b1) | exact HB.out)⟩⟩
                 ·rw [if_neg c36] at H
                  exact absurd H (by simp)
                ·rw [if_neg c35] at H
                 exact absurd H (by simp)
               ·rw [if_neg c34] at H
                exact absurd H (by simp)
              ·replace c33 := Bool.eq_false_iff.mpr c33
               subst c33
               have H1 : (if 0 ≤ x14_2 then (if x14_2 < (t122.length : Int) then (if 0 < ((rdOf ByteArray.empty t122 x14_2).size : Int) then (if (bt (rdOf ByteArray.empty t122 x14_2) 0) = 50 then (pomadelaw08_ParrotFound.l0 kj18 a0 a2 (wrap64 (1 + (wrap64 (Int.tmod a1 5)))) t122 t126 t127 ((rdOf ByteArray.empty t122 x14_2).toList == a2.toList) (wrap64 (x13_2 + 1)) (wrap64 (x14_2 + 1))) else (pomadelaw08_ParrotFound.l0 kj18 a0 a2 (wrap64 (1 + (wrap64 (Int.tmod a1 5)))) t122 t126 t127 ((rdOf ByteArray.empty t122 x14_2).toList == a2.toList) x13_2 (wrap64 (x14_2 + 1)))) else (none)) else (none)) else (none)) = some r := by rw [if_neg (show ¬ (false = true) by decide)] at H; exact H
               clear H
               have H := H1
               clear H1
               by_cases c39 : 0 ≤ x14_2
               ·rw [if_pos c39] at H
                have c39b0 : decide (0 ≤ x14_2) = true := decide_eq_true c39
                clear c39
                by_cases c40 : x14_2 < (t122.length : Int)
                ·rw [if_pos c40] at H
                 have c40b0 : decide (x14_2 < (t122.length : Int)) = true := decide_eq_true c40
                 clear c40
                 by_cases c41 : 0 < ((rdOf ByteArray.empty t122 x14_2).size : Int)
                 ·rw [if_pos c41] at H
                  have c41b0 : decide (0 < ((rdOf ByteArray.empty t122 x14_2).size : Int)) = true := decide_eq_true c41
                  have c41b1 : decide (0 < (rdOf ByteArray.empty t122 x14_2).size) = true := decide_eq_true (by omega)
                  clear c41
                  by_cases c43 : (bt (rdOf ByteArray.empty t122 x14_2) 0) = 50
                  ·rw [if_pos c43] at H
                   have c43b0 : ((bt (rdOf ByteArray.empty t122 x14_2) 0) == 50) = true := beq_iff_eq.mpr c43
                   have c43b1 : ((bt (rdOf ByteArray.empty t122 x14_2) 0) != 50) = false := bne_eq_false_iff_eq.mpr c43
                   clear c43
                   have H' := Aside0.mk H
                   clear H
                   have p140 : 0 ≤ (x14_2 : Int) := of_decide_eq_true (by first | (with_reducible assumption) | assumption)
                   have q140 : x14_2 < (t122.length : Int) := of_decide_eq_true (by first | (with_reducible assumption) | assumption)
                   obtain ⟨ad140, e140, hx140_0⟩ := Kd.at_string (Kd.R_reads' HO_8.out).2.2 x14_2 p140 q140
                   obtain rfl : ad128 = ad140 := (by injection e140)
                   replace p140 := eq_true p140
                   replace q140 := eq_true q140
                   have p141 : 0 ≤ (x14_2 : Int) := of_decide_eq_true (by first | (with_reducible assumption) | assumption)
                   have q141 : x14_2 < (t122.length : Int) := of_decide_eq_true (by first | (with_reducible assumption) | assumption)
                   obtain ⟨ad141, e141, hx141_0⟩ := Kd.at_string (Kd.R_reads' HO_8.out).2.2 x14_2 p141 q141
                   obtain rfl : ad128 = ad141 := (by injection e141)
                   replace p141 := eq_true p141
                   replace q141 := eq_true q141
                   have p42 : 0 ≤ (0 : Int) := (by omega)
                   have q42 : 0 < (rdOf ByteArray.empty t122 x14_2).size := (by have : (0 : Int) < ((rdOf ByteArray.empty t122 x14_2).size : Int) := of_decide_eq_true (by first | (with_reducible assumption) | assumption); omega)
                   have hx42 : ∀ h : 0 < (rdOf ByteArray.empty t122 x14_2).size, (((rdOf ByteArray.empty t122 x14_2)[0]'h).toNat : Int) = bt (rdOf ByteArray.empty t122 x14_2) 0 := bt_at (rdOf ByteArray.empty t122 x14_2) 0
                   clear p42
                   have qi42 : (0 < ((rdOf ByteArray.empty t122 x14_2).size : Int)) = True := eq_true (of_decide_eq_true (by first | (with_reducible assumption) | assumption))
                   replace q42 := eq_true q42
                   go_wp2
                   repeat (go_quiet (fail); try go_wp2)
                   go_roundg kj18
                   case measure => have := HJ3.out; have := HK2.out; have := HJ18.out; omega
                   case rel => exact ⟨(((rdOf ByteArray.empty t122 x14_2).toList == a2.toList)), (wrap64 (x13_2 + 1)), (wrap64 (x14_2 + 1)), (by first | rfl | (simp; done) | (simp [*]; done)), (by first | rfl | (simp; done) | (simp [*]; done)), (by first | rfl | (simp; done) | (simp [*]; done)), H', ⟨by have := HJ3.out; have := HK2.out; have := HJ18.out; omega⟩, ⟨by (with_reducible repeat (first | apply kA | apply kN | apply kD)); exact HO_8.out⟩, ⟨by repeat (first | (with_reducible first | exact HB.out | apply bA | apply bN | apply b1) | exact HB.out)⟩⟩
                  ·rw [if_neg c43] at H
                   have c43b0 : ((bt (rdOf ByteArray.empty t122 x14_2) 0) == 50) = false := beq_eq_false_iff_ne.mpr c43
                   have c43b1 : ((bt (rdOf ByteArray.empty t122 x14_2) 0) != 50) = true := bne_iff_ne.mpr c43
                   have H' := Aside0.mk H
                   clear H
                   have p140 : 0 ≤ (x14_2 : Int) := of_decide_eq_true (by first | (with_reducible assumption) | assumption)
                   have q140 : x14_2 < (t122.length : Int) := of_decide_eq_true (by first | (with_reducible assumption) | assumption)
                   obtain ⟨ad140, e140, hx140_0⟩ := Kd.at_string (Kd.R_reads' HO_8.out).2.2 x14_2 p140 q140
                   obtain rfl : ad128 = ad140 := (by injection e140)
                   replace p140 := eq_true p140
                   replace q140 := eq_true q140
                   have p141 : 0 ≤ (x14_2 : Int) := of_decide_eq_true (by first | (with_reducible assumption) | assumption)
                   have q141 : x14_2 < (t122.length : Int) := of_decide_eq_true (by first | (with_reducible assumption) | assumption)
                   obtain ⟨ad141, e141, hx141_0⟩ := Kd.at_string (Kd.R_reads' HO_8.out).2.2 x14_2 p141 q141
                   obtain rfl : ad128 = ad141 := (by injection e141)
                   replace p141 := eq_true p141
                   replace q141 := eq_true q141
                   have p42 : 0 ≤ (0 : Int) := (by omega)
                   have q42 : 0 < (rdOf ByteArray.empty t122 x14_2).size := (by have : (0 : Int) < ((rdOf ByteArray.empty t122 x14_2).size : Int) := of_decide_eq_true (by first | (with_reducible assumption) | assumption); omega)
                   have hx42 : ∀ h : 0 < (rdOf ByteArray.empty t122 x14_2).size, (((rdOf ByteArray.empty t122 x14_2)[0]'h).toNat : Int) = bt (rdOf ByteArray.empty t122 x14_2) 0 := bt_at (rdOf ByteArray.empty t122 x14_2) 0
                   clear p42
                   have qi42 : (0 < ((rdOf ByteArray.empty t122 x14_2).size : Int)) = True := eq_true (of_decide_eq_true (by first | (with_reducible assumption) | assumption))
                   replace q42 := eq_true q42
                   go_wp2
                   repeat (go_quiet (fail); try go_wp2)
                   go_roundg kj18
                   case measure => have := HJ3.out; have := HK2.out; have := HJ18.out; omega
                   case rel => exact ⟨(((rdOf ByteArray.empty t122 x14_2).toList == a2.toList)), (x13_2), (wrap64 (x14_2 + 1)), (by first | rfl | (simp; done) | (simp [*]; done)), (by first | rfl | (simp; done) | (simp [*]; done)), (by first | rfl | (simp; done) | (simp [*]; done)), H', ⟨by have := HJ3.out; have := HK2.out; have := HJ18.out; omega⟩, ⟨by (with_reducible repeat (first | apply kA | apply kN | apply kD)); exact HO_8.out⟩, ⟨by repeat (first | (with_reducible first | exact HB.out | apply bA | apply bN | apply b1) | exact HB.out)⟩⟩
                 ·rw [if_neg c41] at H
                  exact absurd H (by simp)
                ·rw [if_neg c40] at H
                 exact absurd H (by simp)
               ·rw [if_neg c39] at H
                exact absurd H (by simp)
         ·rw [if_neg c17] at H
          exact absurd H (by simp)
        ·rw [if_neg c16] at H
         have c16b0 : decide (x14_2 < (t122.length : Int)) = false := decide_eq_false c16
         clear c16
         have HC44 := Aside0.mk H
         clear H
         obtain ⟨Ao45, co45, eo45⟩ := Kd.R_slice HO_8.out
         subst eo45
         go_upto_region 18 with (fail)
         repeat (go_quiet (fail); go_upto_region 18 with (fail))
         go_cut [175] (fun v175 wc => ∃ (kq : Nat) (x175_43 : Bool), v175 = .bool x175_43 ∧ Aside0 (pomadelaw08_ParrotFound.j3 kq a0 (wrap64 (1 + (wrap64 (Int.tmod a1 5)))) t122 x175_43 = some r) ∧ Aside0 (kq ≤ k2) ∧ Aside0 (Kd.R Kd.string 9 wc w.heap.size (fun _ => True) (.slice Ao45 t122.length co45) t122) ∧ Aside0 (Below w.heap.size w wc))
         case first =>
          as_aux_lemma =>
           have H := HC44.out
           clear HC44
           by_cases c46 : t127 = 0
           ·rw [if_pos c46] at H
            have c46b0 : (t127 == 0) = true := beq_iff_eq.mpr c46
            have c46b1 : (t127 != 0) = false := bne_eq_false_iff_eq.mpr c46
            clear c46
            (first | rw [c46b0] | (simp only [i64_w, i32_w]; rw [c46b0]) | skip)
            by_cases c47 : t126.toList = a0.toList
            ·rw [if_pos c47] at H
             have c47b0 : (t126.toList == a0.toList) = true := beq_iff_eq.mpr c47
             have c47b1 : (t126.toList != a0.toList) = false := bne_eq_false_iff_eq.mpr c47
             clear c47
             by_cases c48 : (a2.size : Int) ≤ (wrap64 (1 + (wrap64 (Int.tmod a1 5))))
             ·rw [if_pos c48] at H
              have c48b0 : decide ((a2.size : Int) ≤ (wrap64 (1 + (wrap64 (Int.tmod a1 5))))) = true := decide_eq_true c48
              clear c48
              by_cases c49 : x12_2 = true
              ·subst c49
               have H1 : (pomadelaw08_ParrotFound.j3 k2 a0 (wrap64 (1 + (wrap64 (Int.tmod a1 5)))) t122 ((x13_2 == 1) != (decide ((a0.size : Int) < (wrap64 (1 + (wrap64 (Int.tmod a1 5)))))))) = some r := by rw [if_pos rfl] at H; exact H
               clear H
               have H := H1
               clear H1
               have H' := Aside0.mk H
               clear H
               go_wp2
               repeat (go_quiet (fail); try go_wp2)
               go_meet
               case rel => exact ⟨_, (((x13_2 == 1) != (decide ((a0.size : Int) < (wrap64 (1 + (wrap64 (Int.tmod a1 5)))))))), (by first | rfl | (simp; done) | (simp [*]; done)), H', ⟨by have := HJ3.out; have := HK2.out; first | omega | exact Nat.le_refl _⟩, ⟨by (with_reducible repeat (first | apply kA | apply kN | apply kD)); exact HO_8.out⟩, ⟨by repeat (first | (with_reducible first | exact HB.out | apply bA | apply bN | apply b1) | exact HB.out)⟩⟩
              ·replace c49 := Bool.eq_false_iff.mpr c49
               subst c49
               have H1 : (pomadelaw08_ParrotFound.j3 k2 a0 (wrap64 (1 + (wrap64 (Int.tmod a1 5)))) t122 true) = some r := by rw [if_neg (show ¬ (false = true) by decide)] at H; exact H
               clear H
               have H := H1
               clear H1
               have H' := Aside0.mk H
               clear H
               go_wp2
               repeat (go_quiet (fail); try go_wp2)
               go_meet
               case rel => exact ⟨_, (true), (by first | rfl | (simp; done) | (simp [*]; done)), H', ⟨by have := HJ3.out; have := HK2.out; first | omega | exact Nat.le_refl _⟩, ⟨by (with_reducible repeat (first | apply kA | apply kN | apply kD)); exact HO_8.out⟩, ⟨by repeat (first | (with_reducible first | exact HB.out | apply bA | apply bN | apply b1) | exact HB.out)⟩⟩
             ·rw [if_neg c48] at H
              have c48b0 : decide ((a2.size : Int) ≤ (wrap64 (1 + (wrap64 (Int.tmod a1 5))))) = false := decide_eq_false c48
              clear c48
              have H' := Aside0.mk H
              clear H
              go_wp2
              repeat (go_quiet (fail); try go_wp2)
              go_meet
              case rel => exact ⟨_, (((x13_2 == 1) != (decide ((a0.size : Int) < (wrap64 (1 + (wrap64 (Int.tmod a1 5)))))))), (by first | rfl | (simp; done) | (simp [*]; done)), H', ⟨by have := HJ3.out; have := HK2.out; first | omega | exact Nat.le_refl _⟩, ⟨by (with_reducible repeat (first | apply kA | apply kN | apply kD)); exact HO_8.out⟩, ⟨by repeat (first | (with_reducible first | exact HB.out | apply bA | apply bN | apply b1) | exact HB.out)⟩⟩
            ·rw [if_neg c47] at H
             have c47b0 : (t126.toList == a0.toList) = false := beq_eq_false_iff_ne.mpr c47
             have c47b1 : (t126.toList != a0.toList) = true := bne_iff_ne.mpr c47
             have H' := Aside0.mk H
             clear H
             go_wp2
             repeat (go_quiet (fail); try go_wp2)
             go_meet
             case rel => exact ⟨_, (((x13_2 == 1) != (decide ((a0.size : Int) < (wrap64 (1 + (wrap64 (Int.tmod a1 5)))))))), (by first | rfl | (simp; done) | (simp [*]; done)), H', ⟨by have := HJ3.out; have := HK2.out; first | omega | exact Nat.le_refl _⟩, ⟨by (with_reducible repeat (first | apply kA | apply kN | apply kD)); exact HO_8.out⟩, ⟨by repeat (first | (with_reducible first | exact HB.out | apply bA | apply bN | apply b1) | exact HB.out)⟩⟩
           ·rw [if_neg c46] at H
            have c46b0 : (t127 == 0) = false := beq_eq_false_iff_ne.mpr c46
            have c46b1 : (t127 != 0) = true := bne_iff_ne.mpr c46
            (first | rw [c46b0] | (simp only [i64_w, i32_w]; rw [c46b0]) | skip)
            have H' := Aside0.mk H
            clear H
            go_wp2
            repeat (go_quiet (fail); try go_wp2)
            go_meet
            case rel => exact ⟨_, (((x13_2 == 1) != (decide ((a0.size : Int) < (wrap64 (1 + (wrap64 (Int.tmod a1 5)))))))), (by first | rfl | (simp; done) | (simp [*]; done)), H', ⟨by have := HJ3.out; have := HK2.out; first | omega | exact Nat.le_refl _⟩, ⟨by (with_reducible repeat (first | apply kA | apply kN | apply kD)); exact HO_8.out⟩, ⟨by repeat (first | (with_reducible first | exact HB.out | apply bA | apply bN | apply b1) | exact HB.out)⟩⟩
         case rest =>
          as_aux_lemma =>
           clear HC44
           try clear c1
           try clear p1
           try clear q1
           try clear hx1
           try clear c2
           try clear p2
           try clear c3
           try clear p3
           try clear q3
           try clear hx3
           try clear qi3
           try clear c4
           try clear p4
           try clear q4
           try clear hx4
           try clear qi4
           try clear c5
           try clear c5b0
           try clear c5b1
           try clear c6
           try clear c6b0
           try clear c6b1
           try clear p6
           try clear c8
           try clear c12
           try clear c12b0
           try clear c12b1
           try clear p12
           try clear q12
           try clear hx12
           try clear p13
           try clear q13
           try clear hx13
           try clear p14
           try clear q14
           try clear hx14
           try clear c15
           try clear c16
           try clear c16b0
           try clear c17
           try clear c17b0
           try clear c22
           try clear c22b0
           try clear c22b1
           try clear c23
           try clear c23b0
           try clear c23b1
           try clear c24
           try clear c24b0
           try clear c24b1
           try clear c25
           try clear c25b0
           try clear c26
           try clear c26b0
           try clear c28
           try clear c28b0
           try clear c29
           try clear c29b0
           try clear c30
           try clear c30b0
           try clear c30b1
           try clear c31
           try clear c31b0
           try clear c31b1
           try clear c31b2
           try clear c32
           try clear c33
           try clear c34
           try clear c34b0
           try clear c35
           try clear c35b0
           try clear c36
           try clear c36b0
           try clear c36b1
           try clear p37
           try clear q37
           try clear hx37
           try clear qi37
           try clear c38
           try clear c38b0
           try clear c38b1
           try clear c39
           try clear c39b0
           try clear c40
           try clear c40b0
           try clear c41
           try clear c41b0
           try clear c41b1
           try clear p42
           try clear q42
           try clear hx42
           try clear qi42
           try clear c43
           try clear c43b0
           try clear c43b1
           try clear c46
           try clear c46b0
           try clear c46b1
           try clear c47
           try clear c47b0
           try clear c47b1
           try clear c48
           try clear c48b0
           try clear c49
           try clear hx128_0
           try clear hx131_0
           try clear hx132_0
           try clear hx133_0
           try clear hx134_0
           try clear hx135_0
           try clear hx136_0
           try clear hx137_0
           try clear hx138_0
           try clear hx139_0
           try clear hx140_0
           try clear hx141_0
           try clear p1
           try clear p12
           try clear p128
           try clear p13
           try clear p131
           try clear p132
           try clear p133
           try clear p134
           try clear p135
           try clear p136
           try clear p137
           try clear p138
           try clear p139
           try clear p140
           try clear p141
           try clear p2
           try clear p37
           try clear p42
           try clear p6
           try clear q1
           try clear q12
           try clear q128
           try clear q13
           try clear q131
           try clear q132
           try clear q133
           try clear q134
           try clear q135
           try clear q136
           try clear q137
           try clear q138
           try clear q139
           try clear q140
           try clear q141
           try clear q37
           try clear q42
           obtain ⟨kq, x175_43, rfl, HA, HJ43, HO_8, HB⟩ := hcut
           cases kq with
           | zero => exact absurd HA.out (by simp [pomadelaw08_ParrotFound.j3])
           | succ kj43 =>
            have H := HA.out
            clear HA
            simp only [pomadelaw08_ParrotFound.j3] at H
            by_cases c50 : x175_43 = true
            ·subst c50
             have H1 : (some false) = some r := by rw [if_pos rfl] at H; exact H
             clear H
             have H := H1
             clear H1
             obtain rfl := Option.some.inj H
             go_wp2
             repeat (go_quiet (fail); try go_wp2)
             go_ret
             exact ⟨by first | rfl | (simp [errW_none, errW_some] <;> rfl) | (simp [*, errW_none, errW_some] <;> rfl), by repeat (first | (with_reducible first | exact HB.out | apply bA | apply bN | apply b1) | exact HB.out)⟩
            ·replace c50 := Bool.eq_false_iff.mpr c50
             subst c50
             have H1 : ((parrot_Shortest.f a0).bind fun bt142 => (if (t122.length : Int) > 0 then (if bt142.2 = 0 then (if 0 < (t122.length : Int) then (if bt142.1.toList = (rdOf ByteArray.empty t122 0).toList then ((pomadelaw08_alive.f).bind fun t145 => (some t145)) else (some false)) else (none)) else (some false)) else (if bt142.2 = 0 then ((parrot_Make.f bt142.1).bind fun bt146 => (if bt146.2 = 0 then (if bt146.1.toList = a0.toList then (if (bt142.1.size : Int) > (wrap64 (1 + (wrap64 (Int.tmod a1 5)))) then (if (bt142.1.size : Int) ≤ (mn 8 (wrap64 ((a0.size : Int) + 1))) then ((pomadelaw08_alive.f).bind fun t148 => (some t148)) else (some false)) else (some false)) else (some false)) else (some false))) else (if bt142.2 = 10 then (if bt142.1.toList = ([] : List UInt8) then (if (a0.size : Int) ≥ 8 then ((pomadelaw08_alive.f).bind fun t149 => (some t149)) else (some false)) else (some false)) else (some false))))) = some r := by rw [if_neg (show ¬ (false = true) by decide)] at H; exact H
             clear H
             have H := H1
             clear H1
             replace H := Option.bind_eq_some_iff.mp H
             obtain ⟨⟨t142, t143⟩, A510, H⟩ := H
             replace H : (if (t122.length : Int) > 0 then (if t143 = 0 then (if 0 < (t122.length : Int) then (if t142.toList = (rdOf ByteArray.empty t122 0).toList then ((pomadelaw08_alive.f).bind fun t145 => (some t145)) else (some false)) else (none)) else (some false)) else (if t143 = 0 then ((parrot_Make.f t142).bind fun bt146 => (if bt146.2 = 0 then (if bt146.1.toList = a0.toList then (if (t142.size : Int) > (wrap64 (1 + (wrap64 (Int.tmod a1 5)))) then (if (t142.size : Int) ≤ (mn 8 (wrap64 ((a0.size : Int) + 1))) then ((pomadelaw08_alive.f).bind fun t148 => (some t148)) else (some false)) else (some false)) else (some false)) else (some false))) else (if t143 = 10 then (if t142.toList = ([] : List UInt8) then (if (a0.size : Int) ≥ 8 then ((pomadelaw08_alive.f).bind fun t149 => (some t149)) else (some false)) else (some false)) else (some false)))) = some r := H
             have A51 := Aside0.mk A510
             clear A510
             by_cases c52 : (t122.length : Int) > 0
             ·rw [if_pos c52] at H
              have c52b0 : decide (0 < (t122.length : Int)) = true := decide_eq_true c52
              have c52b1 : decide (0 < t122.length) = true := decide_eq_true (by omega)
              clear c52
              by_cases c53 : t143 = 0
              ·rw [if_pos c53] at H
               have c53b0 : (t143 == 0) = true := beq_iff_eq.mpr c53
               have c53b1 : (t143 != 0) = false := bne_eq_false_iff_eq.mpr c53
               clear c53
               by_cases c54 : 0 < (t122.length : Int)
               ·rw [if_pos c54] at H
                have c54b0 : decide (0 < (t122.length : Int)) = true := decide_eq_true c54
                have c54b1 : decide (0 < t122.length) = true := decide_eq_true (by omega)
                clear c54
                by_cases c55 : t142.toList = (rdOf ByteArray.empty t122 0).toList
                ·rw [if_pos c55] at H
                 have c55b0 : (t142.toList == (rdOf ByteArray.empty t122 0).toList) = true := beq_iff_eq.mpr c55
                 have c55b1 : (t142.toList != (rdOf ByteArray.empty t122 0).toList) = false := bne_eq_false_iff_eq.mpr c55
                 clear c55
                 replace H := Option.bind_eq_some_iff.mp H
                 obtain ⟨t145, A560, H⟩ := H
                 replace H : (some t145) = some r := H
                 have A56 := Aside0.mk A560
                 clear A560
                 obtain rfl := Option.some.inj H
                 go_wp2_with (first | (go_at_call 38; (with_reducible refine (parrot_Shortest.calls a0 t142 t143 _ (hO.below (by repeat (first | (with_reducible first | exact HB.out | apply bA | apply bN | apply b1) | exact HB.out))) A51.out).mono ?_); rintro e w57 ⟨rfl, hb⟩; have n0_ := Aside0.mk (Kd.R_below (by (with_reducible repeat (first | apply kA | apply kN | apply kD)); exact HO_8.out) hb); have n1_ := Aside0.mk (below_step (by repeat (first | (with_reducible first | exact HB.out | apply bA | apply bN | apply b1) | exact HB.out)) hb); clear HO_8; clear HB; have HO_8 := n0_; have HB := n1_; clear n0_ n1_; (try clear hb); (try clear hb2); (try clear hk); (try clear hi); have p144 : 0 ≤ (0 : Int) := (by omega); have q144 : 0 < (t122.length : Int) := of_decide_eq_true (by first | (with_reducible assumption) | assumption); obtain ⟨ad144, e144, hx144_0⟩ := Kd.at_string (Kd.R_reads' HO_8.out).2.2 0 p144 q144; cases e144; have qi144 : (0 < t122.length) = True := eq_true (by omega); (try rw [show ((0 : Int)).toNat = 0 from rfl] at hx144_0); (try rw [Addr.add_zero'] at hx144_0); replace p144 := eq_true p144; replace q144 := eq_true q144) | (go_at_call 16; (with_reducible refine (pomadelaw08_alive.calls t145 _ (hO.below (by repeat (first | (with_reducible first | exact HB.out | apply bA | apply bN | apply b1) | exact HB.out))) A56.out).mono ?_); rintro e w58 ⟨rfl, hb⟩; have n0_ := Aside0.mk (Kd.R_below (by (with_reducible repeat (first | apply kA | apply kN | apply kD)); exact HO_8.out) hb); have n1_ := Aside0.mk (below_step (by repeat (first | (with_reducible first | exact HB.out | apply bA | apply bN | apply b1) | exact HB.out)) hb); clear HO_8; clear HB; have HO_8 := n0_; have HB := n1_; clear n0_ n1_; (try clear hb); (try clear hb2); (try clear hk); (try clear hi)))
                 repeat (go_quiet (first | (go_at_call 38; (with_reducible refine (parrot_Shortest.calls a0 t142 t143 _ (hO.below (by repeat (first | (with_reducible first | exact HB.out | apply bA | apply bN | apply b1) | exact HB.out))) A51.out).mono ?_); rintro e w57 ⟨rfl, hb⟩; have n0_ := Aside0.mk (Kd.R_below (by (with_reducible repeat (first | apply kA | apply kN | apply kD)); exact HO_8.out) hb); have n1_ := Aside0.mk (below_step (by repeat (first | (with_reducible first | exact HB.out | apply bA | apply bN | apply b1) | exact HB.out)) hb); clear HO_8; clear HB; have HO_8 := n0_; have HB := n1_; clear n0_ n1_; (try clear hb); (try clear hb2); (try clear hk); (try clear hi); have p144 : 0 ≤ (0 : Int) := (by omega); have q144 : 0 < (t122.length : Int) := of_decide_eq_true (by first | (with_reducible assumption) | assumption); obtain ⟨ad144, e144, hx144_0⟩ := Kd.at_string (Kd.R_reads' HO_8.out).2.2 0 p144 q144; cases e144; have qi144 : (0 < t122.length) = True := eq_true (by omega); (try rw [show ((0 : Int)).toNat = 0 from rfl] at hx144_0); (try rw [Addr.add_zero'] at hx144_0); replace p144 := eq_true p144; replace q144 := eq_true q144) | (go_at_call 16; (with_reducible refine (pomadelaw08_alive.calls t145 _ (hO.below (by repeat (first | (with_reducible first | exact HB.out | apply bA | apply bN | apply b1) | exact HB.out))) A56.out).mono ?_); rintro e w58 ⟨rfl, hb⟩; have n0_ := Aside0.mk (Kd.R_below (by (with_reducible repeat (first | apply kA | apply kN | apply kD)); exact HO_8.out) hb); have n1_ := Aside0.mk (below_step (by repeat (first | (with_reducible first | exact HB.out | apply bA | apply bN | apply b1) | exact HB.out)) hb); clear HO_8; clear HB; have HO_8 := n0_; have HB := n1_; clear n0_ n1_; (try clear hb); (try clear hb2); (try clear hk); (try clear hi))); try go_wp2_with (first | (go_at_call 38; (with_reducible refine (parrot_Shortest.calls a0 t142 t143 _ (hO.below (by repeat (first | (with_reducible first | exact HB.out | apply bA | apply bN | apply b1) | exact HB.out))) A51.out).mono ?_); rintro e w57 ⟨rfl, hb⟩; have n0_ := Aside0.mk (Kd.R_below (by (with_reducible repeat (first | apply kA | apply kN | apply kD)); exact HO_8.out) hb); have n1_ := Aside0.mk (below_step (by repeat (first | (with_reducible first | exact HB.out | apply bA | apply bN | apply b1) | exact HB.out)) hb); clear HO_8; clear HB; have HO_8 := n0_; have HB := n1_; clear n0_ n1_; (try clear hb); (try clear hb2); (try clear hk); (try clear hi); have p144 : 0 ≤ (0 : Int) := (by omega); have q144 : 0 < (t122.length : Int) := of_decide_eq_true (by first | (with_reducible assumption) | assumption); obtain ⟨ad144, e144, hx144_0⟩ := Kd.at_string (Kd.R_reads' HO_8.out).2.2 0 p144 q144; cases e144; have qi144 : (0 < t122.length) = True := eq_true (by omega); (try rw [show ((0 : Int)).toNat = 0 from rfl] at hx144_0); (try rw [Addr.add_zero'] at hx144_0); replace p144 := eq_true p144; replace q144 := eq_true q144) | (go_at_call 16; (with_reducible refine (pomadelaw08_alive.calls t145 _ (hO.below (by repeat (first | (with_reducible first | exact HB.out | apply bA | apply bN | apply b1) | exact HB.out))) A56.out).mono ?_); rintro e w58 ⟨rfl, hb⟩; have n0_ := Aside0.mk (Kd.R_below (by (with_reducible repeat (first | apply kA | apply kN | apply kD)); exact HO_8.out) hb); have n1_ := Aside0.mk (below_step (by repeat (first | (with_reducible first | exact HB.out | apply bA | apply bN | apply b1) | exact HB.out)) hb); clear HO_8; clear HB; have HO_8 := n0_; have HB := n1_; clear n0_ n1_; (try clear hb); (try clear hb2); (try clear hk); (try clear hi))))
                 go_ret
                 exact ⟨by first | rfl | (simp [errW_none, errW_some] <;> rfl) | (simp [*, errW_none, errW_some] <;> rfl), by repeat (first | (with_reducible first | exact HB.out | apply bA | apply bN | apply b1) | exact HB.out)⟩
                ·rw [if_neg c55] at H
                 have c55b0 : (t142.toList == (rdOf ByteArray.empty t122 0).toList) = false := beq_eq_false_iff_ne.mpr c55
                 have c55b1 : (t142.toList != (rdOf ByteArray.empty t122 0).toList) = true := bne_iff_ne.mpr c55
                 obtain rfl := Option.some.inj H
                 go_wp2_with (first | (go_at_call 38; (with_reducible refine (parrot_Shortest.calls a0 t142 t143 _ (hO.below (by repeat (first | (with_reducible first | exact HB.out | apply bA | apply bN | apply b1) | exact HB.out))) A51.out).mono ?_); rintro e w59 ⟨rfl, hb⟩; have n0_ := Aside0.mk (Kd.R_below (by (with_reducible repeat (first | apply kA | apply kN | apply kD)); exact HO_8.out) hb); have n1_ := Aside0.mk (below_step (by repeat (first | (with_reducible first | exact HB.out | apply bA | apply bN | apply b1) | exact HB.out)) hb); clear HO_8; clear HB; have HO_8 := n0_; have HB := n1_; clear n0_ n1_; (try clear hb); (try clear hb2); (try clear hk); (try clear hi); have p144 : 0 ≤ (0 : Int) := (by omega); have q144 : 0 < (t122.length : Int) := of_decide_eq_true (by first | (with_reducible assumption) | assumption); obtain ⟨ad144, e144, hx144_0⟩ := Kd.at_string (Kd.R_reads' HO_8.out).2.2 0 p144 q144; cases e144; have qi144 : (0 < t122.length) = True := eq_true (by omega); (try rw [show ((0 : Int)).toNat = 0 from rfl] at hx144_0); (try rw [Addr.add_zero'] at hx144_0); replace p144 := eq_true p144; replace q144 := eq_true q144))
                 repeat (go_quiet (first | (go_at_call 38; (with_reducible refine (parrot_Shortest.calls a0 t142 t143 _ (hO.below (by repeat (first | (with_reducible first | exact HB.out | apply bA | apply bN | apply b1) | exact HB.out))) A51.out).mono ?_); rintro e w59 ⟨rfl, hb⟩; have n0_ := Aside0.mk (Kd.R_below (by (with_reducible repeat (first | apply kA | apply kN | apply kD)); exact HO_8.out) hb); have n1_ := Aside0.mk (below_step (by repeat (first | (with_reducible first | exact HB.out | apply bA | apply bN | apply b1) | exact HB.out)) hb); clear HO_8; clear HB; have HO_8 := n0_; have HB := n1_; clear n0_ n1_; (try clear hb); (try clear hb2); (try clear hk); (try clear hi); have p144 : 0 ≤ (0 : Int) := (by omega); have q144 : 0 < (t122.length : Int) := of_decide_eq_true (by first | (with_reducible assumption) | assumption); obtain ⟨ad144, e144, hx144_0⟩ := Kd.at_string (Kd.R_reads' HO_8.out).2.2 0 p144 q144; cases e144; have qi144 : (0 < t122.length) = True := eq_true (by omega); (try rw [show ((0 : Int)).toNat = 0 from rfl] at hx144_0); (try rw [Addr.add_zero'] at hx144_0); replace p144 := eq_true p144; replace q144 := eq_true q144)); try go_wp2_with (first | (go_at_call 38; (with_reducible refine (parrot_Shortest.calls a0 t142 t143 _ (hO.below (by repeat (first | (with_reducible first | exact HB.out | apply bA | apply bN | apply b1) | exact HB.out))) A51.out).mono ?_); rintro e w59 ⟨rfl, hb⟩; have n0_ := Aside0.mk (Kd.R_below (by (with_reducible repeat (first | apply kA | apply kN | apply kD)); exact HO_8.out) hb); have n1_ := Aside0.mk (below_step (by repeat (first | (with_reducible first | exact HB.out | apply bA | apply bN | apply b1) | exact HB.out)) hb); clear HO_8; clear HB; have HO_8 := n0_; have HB := n1_; clear n0_ n1_; (try clear hb); (try clear hb2); (try clear hk); (try clear hi); have p144 : 0 ≤ (0 : Int) := (by omega); have q144 : 0 < (t122.length : Int) := of_decide_eq_true (by first | (with_reducible assumption) | assumption); obtain ⟨ad144, e144, hx144_0⟩ := Kd.at_string (Kd.R_reads' HO_8.out).2.2 0 p144 q144; cases e144; have qi144 : (0 < t122.length) = True := eq_true (by omega); (try rw [show ((0 : Int)).toNat = 0 from rfl] at hx144_0); (try rw [Addr.add_zero'] at hx144_0); replace p144 := eq_true p144; replace q144 := eq_true q144)))
                 go_ret
                 exact ⟨by first | rfl | (simp [errW_none, errW_some] <;> rfl) | (simp [*, errW_none, errW_some] <;> rfl), by repeat (first | (with_reducible first | exact HB.out | apply bA | apply bN | apply b1) | exact HB.out)⟩
               ·rw [if_neg c54] at H
                exact absurd H (by simp)
              ·rw [if_neg c53] at H
               have c53b0 : (t143 == 0) = false := beq_eq_false_iff_ne.mpr c53
               have c53b1 : (t143 != 0) = true := bne_iff_ne.mpr c53
               obtain rfl := Option.some.inj H
               go_wp2_with (first | (go_at_call 38; (with_reducible refine (parrot_Shortest.calls a0 t142 t143 _ (hO.below (by repeat (first | (with_reducible first | exact HB.out | apply bA | apply bN | apply b1) | exact HB.out))) A51.out).mono ?_); rintro e w60 ⟨rfl, hb⟩; have n0_ := Aside0.mk (Kd.R_below (by (with_reducible repeat (first | apply kA | apply kN | apply kD)); exact HO_8.out) hb); have n1_ := Aside0.mk (below_step (by repeat (first | (with_reducible first | exact HB.out | apply bA | apply bN | apply b1) | exact HB.out)) hb); clear HO_8; clear HB; have HO_8 := n0_; have HB := n1_; clear n0_ n1_; (try clear hb); (try clear hb2); (try clear hk); (try clear hi)))
               repeat (go_quiet (first | (go_at_call 38; (with_reducible refine (parrot_Shortest.calls a0 t142 t143 _ (hO.below (by repeat (first | (with_reducible first | exact HB.out | apply bA | apply bN | apply b1) | exact HB.out))) A51.out).mono ?_); rintro e w60 ⟨rfl, hb⟩; have n0_ := Aside0.mk (Kd.R_below (by (with_reducible repeat (first | apply kA | apply kN | apply kD)); exact HO_8.out) hb); have n1_ := Aside0.mk (below_step (by repeat (first | (with_reducible first | exact HB.out | apply bA | apply bN | apply b1) | exact HB.out)) hb); clear HO_8; clear HB; have HO_8 := n0_; have HB := n1_; clear n0_ n1_; (try clear hb); (try clear hb2); (try clear hk); (try clear hi))); try go_wp2_with (first | (go_at_call 38; (with_reducible refine (parrot_Shortest.calls a0 t142 t143 _ (hO.below (by repeat (first | (with_reducible first | exact HB.out | apply bA | apply bN | apply b1) | exact HB.out))) A51.out).mono ?_); rintro e w60 ⟨rfl, hb⟩; have n0_ := Aside0.mk (Kd.R_below (by (with_reducible repeat (first | apply kA | apply kN | apply kD)); exact HO_8.out) hb); have n1_ := Aside0.mk (below_step (by repeat (first | (with_reducible first | exact HB.out | apply bA | apply bN | apply b1) | exact HB.out)) hb); clear HO_8; clear HB; have HO_8 := n0_; have HB := n1_; clear n0_ n1_; (try clear hb); (try clear hb2); (try clear hk); (try clear hi))))
               go_ret
               exact ⟨by first | rfl | (simp [errW_none, errW_some] <;> rfl) | (simp [*, errW_none, errW_some] <;> rfl), by repeat (first | (with_reducible first | exact HB.out | apply bA | apply bN | apply b1) | exact HB.out)⟩
             ·rw [if_neg c52] at H
              have c52b0 : decide (0 < (t122.length : Int)) = false := decide_eq_false c52
              have c52b1 : decide (0 < t122.length) = false := decide_eq_false (by omega)
              clear c52
              by_cases c61 : t143 = 0
              ·rw [if_pos c61] at H
               have c61b0 : (t143 == 0) = true := beq_iff_eq.mpr c61
               have c61b1 : (t143 != 0) = false := bne_eq_false_iff_eq.mpr c61
               clear c61
               replace H := Option.bind_eq_some_iff.mp H
               obtain ⟨⟨t146, t147⟩, A620, H⟩ := H
               replace H : (if t147 = 0 then (if t146.toList = a0.toList then (if (t142.size : Int) > (wrap64 (1 + (wrap64 (Int.tmod a1 5)))) then (if (t142.size : Int) ≤ (mn 8 (wrap64 ((a0.size : Int) + 1))) then ((pomadelaw08_alive.f).bind fun t148 => (some t148)) else (some false)) else (some false)) else (some false)) else (some false)) = some r := H
               have A62 := Aside0.mk A620
               clear A620
               by_cases c63 : t147 = 0
               ·rw [if_pos c63] at H
                have c63b0 : (t147 == 0) = true := beq_iff_eq.mpr c63
                have c63b1 : (t147 != 0) = false := bne_eq_false_iff_eq.mpr c63
                clear c63
                by_cases c64 : t146.toList = a0.toList
                ·rw [if_pos c64] at H
                 have c64b0 : (t146.toList == a0.toList) = true := beq_iff_eq.mpr c64
                 have c64b1 : (t146.toList != a0.toList) = false := bne_eq_false_iff_eq.mpr c64
                 clear c64
                 by_cases c65 : (t142.size : Int) > (wrap64 (1 + (wrap64 (Int.tmod a1 5))))
                 ·rw [if_pos c65] at H
                  have c65b0 : decide ((wrap64 (1 + (wrap64 (Int.tmod a1 5)))) < (t142.size : Int)) = true := decide_eq_true c65
                  clear c65
                  obtain ⟨ji66, hji66⟩ : ∃ j_ : Int, (mn 8 (wrap64 ((a0.size : Int) + 1))) = j_ := ⟨_, rfl⟩
                  replace H : (if (t142.size : Int) ≤ (ji66) then ((pomadelaw08_alive.f).bind fun t148 => (some t148)) else (some false)) = some r := by first | (rw [hji66] at H; exact H) | (simp only [hji66] at H ⊢; exact H)
                  (try rw [hji66] at A51)
                  (try rw [hji66] at A62)
                  have hji66_ : (if (wrap64 ((a0.size : Int) + 1)) < 8 then (wrap64 ((a0.size : Int) + 1)) else 8) = ji66 := hji66
                  by_cases c67 : (t142.size : Int) ≤ (ji66)
                  ·rw [if_pos c67] at H
                   have c67b0 : decide ((t142.size : Int) ≤ (ji66)) = true := decide_eq_true c67
                   clear c67
                   replace H := Option.bind_eq_some_iff.mp H
                   obtain ⟨t148, A680, H⟩ := H
                   replace H : (some t148) = some r := H
                   have A68 := Aside0.mk A680
                   clear A680
                   obtain rfl := Option.some.inj H
                   go_wp2_with (first | (go_at_call 38; (with_reducible refine (parrot_Shortest.calls a0 t142 t143 _ (hO.below (by repeat (first | (with_reducible first | exact HB.out | apply bA | apply bN | apply b1) | exact HB.out))) A51.out).mono ?_); rintro e w69 ⟨rfl, hb⟩; have n0_ := Aside0.mk (Kd.R_below (by (with_reducible repeat (first | apply kA | apply kN | apply kD)); exact HO_8.out) hb); have n1_ := Aside0.mk (below_step (by repeat (first | (with_reducible first | exact HB.out | apply bA | apply bN | apply b1) | exact HB.out)) hb); clear HO_8; clear HB; have HO_8 := n0_; have HB := n1_; clear n0_ n1_; (try clear hb); (try clear hb2); (try clear hk); (try clear hi)) | (go_at_call 21; (with_reducible refine (parrot_Make.calls t142 t146 t147 _ (hO.below (by repeat (first | (with_reducible first | exact HB.out | apply bA | apply bN | apply b1) | exact HB.out))) A62.out).mono ?_); rintro e w70 ⟨rfl, hb⟩; have n0_ := Aside0.mk (Kd.R_below (by (with_reducible repeat (first | apply kA | apply kN | apply kD)); exact HO_8.out) hb); have n1_ := Aside0.mk (below_step (by repeat (first | (with_reducible first | exact HB.out | apply bA | apply bN | apply b1) | exact HB.out)) hb); clear HO_8; clear HB; have HO_8 := n0_; have HB := n1_; clear n0_ n1_; (try clear hb); (try clear hb2); (try clear hk); (try clear hi)) | (go_at_call 16; (with_reducible refine (pomadelaw08_alive.calls t148 _ (hO.below (by repeat (first | (with_reducible first | exact HB.out | apply bA | apply bN | apply b1) | exact HB.out))) A68.out).mono ?_); rintro e w71 ⟨rfl, hb⟩; have n0_ := Aside0.mk (Kd.R_below (by (with_reducible repeat (first | apply kA | apply kN | apply kD)); exact HO_8.out) hb); have n1_ := Aside0.mk (below_step (by repeat (first | (with_reducible first | exact HB.out | apply bA | apply bN | apply b1) | exact HB.out)) hb); clear HO_8; clear HB; have HO_8 := n0_; have HB := n1_; clear n0_ n1_; (try clear hb); (try clear hb2); (try clear hk); (try clear hi)))
                   repeat (go_quiet (first | (go_at_call 38; (with_reducible refine (parrot_Shortest.calls a0 t142 t143 _ (hO.below (by repeat (first | (with_reducible first | exact HB.out | apply bA | apply bN | apply b1) | exact HB.out))) A51.out).mono ?_); rintro e w69 ⟨rfl, hb⟩; have n0_ := Aside0.mk (Kd.R_below (by (with_reducible repeat (first | apply kA | apply kN | apply kD)); exact HO_8.out) hb); have n1_ := Aside0.mk (below_step (by repeat (first | (with_reducible first | exact HB.out | apply bA | apply bN | apply b1) | exact HB.out)) hb); clear HO_8; clear HB; have HO_8 := n0_; have HB := n1_; clear n0_ n1_; (try clear hb); (try clear hb2); (try clear hk); (try clear hi)) | (go_at_call 21; (with_reducible refine (parrot_Make.calls t142 t146 t147 _ (hO.below (by repeat (first | (with_reducible first | exact HB.out | apply bA | apply bN | apply b1) | exact HB.out))) A62.out).mono ?_); rintro e w70 ⟨rfl, hb⟩; have n0_ := Aside0.mk (Kd.R_below (by (with_reducible repeat (first | apply kA | apply kN | apply kD)); exact HO_8.out) hb); have n1_ := Aside0.mk (below_step (by repeat (first | (with_reducible first | exact HB.out | apply bA | apply bN | apply b1) | exact HB.out)) hb); clear HO_8; clear HB; have HO_8 := n0_; have HB := n1_; clear n0_ n1_; (try clear hb); (try clear hb2); (try clear hk); (try clear hi)) | (go_at_call 16; (with_reducible refine (pomadelaw08_alive.calls t148 _ (hO.below (by repeat (first | (with_reducible first | exact HB.out | apply bA | apply bN | apply b1) | exact HB.out))) A68.out).mono ?_); rintro e w71 ⟨rfl, hb⟩; have n0_ := Aside0.mk (Kd.R_below (by (with_reducible repeat (first | apply kA | apply kN | apply kD)); exact HO_8.out) hb); have n1_ := Aside0.mk (below_step (by repeat (first | (with_reducible first | exact HB.out | apply bA | apply bN | apply b1) | exact HB.out)) hb); clear HO_8; clear HB; have HO_8 := n0_; have HB := n1_; clear n0_ n1_; (try clear hb); (try clear hb2); (try clear hk); (try clear hi))); try go_wp2_with (first | (go_at_call 38; (with_reducible refine (parrot_Shortest.calls a0 t142 t143 _ (hO.below (by repeat (first | (with_reducible first | exact HB.out | apply bA | apply bN | apply b1) | exact HB.out))) A51.out).mono ?_); rintro e w69 ⟨rfl, hb⟩; have n0_ := Aside0.mk (Kd.R_below (by (with_reducible repeat (first | apply kA | apply kN | apply kD)); exact HO_8.out) hb); have n1_ := Aside0.mk (below_step (by repeat (first | (with_reducible first | exact HB.out | apply bA | apply bN | apply b1) | exact HB.out)) hb); clear HO_8; clear HB; have HO_8 := n0_; have HB := n1_; clear n0_ n1_; (try clear hb); (try clear hb2); (try clear hk); (try clear hi)) | (go_at_call 21; (with_reducible refine (parrot_Make.calls t142 t146 t147 _ (hO.below (by repeat (first | (with_reducible first | exact HB.out | apply bA | apply bN | apply b1) | exact HB.out))) A62.out).mono ?_); rintro e w70 ⟨rfl, hb⟩; have n0_ := Aside0.mk (Kd.R_below (by (with_reducible repeat (first | apply kA | apply kN | apply kD)); exact HO_8.out) hb); have n1_ := Aside0.mk (below_step (by repeat (first | (with_reducible first | exact HB.out | apply bA | apply bN | apply b1) | exact HB.out)) hb); clear HO_8; clear HB; have HO_8 := n0_; have HB := n1_; clear n0_ n1_; (try clear hb); (try clear hb2); (try clear hk); (try clear hi)) | (go_at_call 16; (with_reducible refine (pomadelaw08_alive.calls t148 _ (hO.below (by repeat (first | (with_reducible first | exact HB.out | apply bA | apply bN | apply b1) | exact HB.out))) A68.out).mono ?_); rintro e w71 ⟨rfl, hb⟩; have n0_ := Aside0.mk (Kd.R_below (by (with_reducible repeat (first | apply kA | apply kN | apply kD)); exact HO_8.out) hb); have n1_ := Aside0.mk (below_step (by repeat (first | (with_reducible first | exact HB.out | apply bA | apply bN | apply b1) | exact HB.out)) hb); clear HO_8; clear HB; have HO_8 := n0_; have HB := n1_; clear n0_ n1_; (try clear hb); (try clear hb2); (try clear hk); (try clear hi))))
                   go_ret
                   exact ⟨by first | rfl | (simp [errW_none, errW_some] <;> rfl) | (simp only [← hji66]; first | rfl | (simp [errW_none, errW_some] <;> rfl)) | (simp [*, errW_none, errW_some] <;> rfl), by repeat (first | (with_reducible first | exact HB.out | apply bA | apply bN | apply b1) | exact HB.out)⟩
                  ·rw [if_neg c67] at H
                   have c67b0 : decide ((t142.size : Int) ≤ (ji66)) = false := decide_eq_false c67
                   clear c67
                   obtain rfl := Option.some.inj H
                   go_wp2_with (first | (go_at_call 38; (with_reducible refine (parrot_Shortest.calls a0 t142 t143 _ (hO.below (by repeat (first | (with_reducible first | exact HB.out | apply bA | apply bN | apply b1) | exact HB.out))) A51.out).mono ?_); rintro e w72 ⟨rfl, hb⟩; have n0_ := Aside0.mk (Kd.R_below (by (with_reducible repeat (first | apply kA | apply kN | apply kD)); exact HO_8.out) hb); have n1_ := Aside0.mk (below_step (by repeat (first | (with_reducible first | exact HB.out | apply bA | apply bN | apply b1) | exact HB.out)) hb); clear HO_8; clear HB; have HO_8 := n0_; have HB := n1_; clear n0_ n1_; (try clear hb); (try clear hb2); (try clear hk); (try clear hi)) | (go_at_call 21; (with_reducible refine (parrot_Make.calls t142 t146 t147 _ (hO.below (by repeat (first | (with_reducible first | exact HB.out | apply bA | apply bN | apply b1) | exact HB.out))) A62.out).mono ?_); rintro e w73 ⟨rfl, hb⟩; have n0_ := Aside0.mk (Kd.R_below (by (with_reducible repeat (first | apply kA | apply kN | apply kD)); exact HO_8.out) hb); have n1_ := Aside0.mk (below_step (by repeat (first | (with_reducible first | exact HB.out | apply bA | apply bN | apply b1) | exact HB.out)) hb); clear HO_8; clear HB; have HO_8 := n0_; have HB := n1_; clear n0_ n1_; (try clear hb); (try clear hb2); (try clear hk); (try clear hi)))
                   repeat (go_quiet (first | (go_at_call 38; (with_reducible refine (parrot_Shortest.calls a0 t142 t143 _ (hO.below (by repeat (first | (with_reducible first | exact HB.out | apply bA | apply bN | apply b1) | exact HB.out))) A51.out).mono ?_); rintro e w72 ⟨rfl, hb⟩; have n0_ := Aside0.mk (Kd.R_below (by (with_reducible repeat (first | apply kA | apply kN | apply kD)); exact HO_8.out) hb); have n1_ := Aside0.mk (below_step (by repeat (first | (with_reducible first | exact HB.out | apply bA | apply bN | apply b1) | exact HB.out)) hb); clear HO_8; clear HB; have HO_8 := n0_; have HB := n1_; clear n0_ n1_; (try clear hb); (try clear hb2); (try clear hk); (try clear hi)) | (go_at_call 21; (with_reducible refine (parrot_Make.calls t142 t146 t147 _ (hO.below (by repeat (first | (with_reducible first | exact HB.out | apply bA | apply bN | apply b1) | exact HB.out))) A62.out).mono ?_); rintro e w73 ⟨rfl, hb⟩; have n0_ := Aside0.mk (Kd.R_below (by (with_reducible repeat (first | apply kA | apply kN | apply kD)); exact HO_8.out) hb); have n1_ := Aside0.mk (below_step (by repeat (first | (with_reducible first | exact HB.out | apply bA | apply bN | apply b1) | exact HB.out)) hb); clear HO_8; clear HB; have HO_8 := n0_; have HB := n1_; clear n0_ n1_; (try clear hb); (try clear hb2); (try clear hk); (try clear hi))); try go_wp2_with (first | (go_at_call 38; (with_reducible refine (parrot_Shortest.calls a0 t142 t143 _ (hO.below (by repeat (first | (with_reducible first | exact HB.out | apply bA | apply bN | apply b1) | exact HB.out))) A51.out).mono ?_); rintro e w72 ⟨rfl, hb⟩; have n0_ := Aside0.mk (Kd.R_below (by (with_reducible repeat (first | apply kA | apply kN | apply kD)); exact HO_8.out) hb); have n1_ := Aside0.mk (below_step (by repeat (first | (with_reducible first | exact HB.out | apply bA | apply bN | apply b1) | exact HB.out)) hb); clear HO_8; clear HB; have HO_8 := n0_; have HB := n1_; clear n0_ n1_; (try clear hb); (try clear hb2); (try clear hk); (try clear hi)) | (go_at_call 21; (with_reducible refine (parrot_Make.calls t142 t146 t147 _ (hO.below (by repeat (first | (with_reducible first | exact HB.out | apply bA | apply bN | apply b1) | exact HB.out))) A62.out).mono ?_); rintro e w73 ⟨rfl, hb⟩; have n0_ := Aside0.mk (Kd.R_below (by (with_reducible repeat (first | apply kA | apply kN | apply kD)); exact HO_8.out) hb); have n1_ := Aside0.mk (below_step (by repeat (first | (with_reducible first | exact HB.out | apply bA | apply bN | apply b1) | exact HB.out)) hb); clear HO_8; clear HB; have HO_8 := n0_; have HB := n1_; clear n0_ n1_; (try clear hb); (try clear hb2); (try clear hk); (try clear hi))))
                   go_ret
                   exact ⟨by first | rfl | (simp [errW_none, errW_some] <;> rfl) | (simp only [← hji66]; first | rfl | (simp [errW_none, errW_some] <;> rfl)) | (simp [*, errW_none, errW_some] <;> rfl), by repeat (first | (with_reducible first | exact HB.out | apply bA | apply bN | apply b1) | exact HB.out)⟩
                 ·rw [if_neg c65] at H
                  have c65b0 : decide ((wrap64 (1 + (wrap64 (Int.tmod a1 5)))) < (t142.size : Int)) = false := decide_eq_false c65
                  clear c65
                  obtain rfl := Option.some.inj H
                  go_wp2_with (first | (go_at_call 38; (with_reducible refine (parrot_Shortest.calls a0 t142 t143 _ (hO.below (by repeat (first | (with_reducible first | exact HB.out | apply bA | apply bN | apply b1) | exact HB.out))) A51.out).mono ?_); rintro e w74 ⟨rfl, hb⟩; have n0_ := Aside0.mk (Kd.R_below (by (with_reducible repeat (first | apply kA | apply kN | apply kD)); exact HO_8.out) hb); have n1_ := Aside0.mk (below_step (by repeat (first | (with_reducible first | exact HB.out | apply bA | apply bN | apply b1) | exact HB.out)) hb); clear HO_8; clear HB; have HO_8 := n0_; have HB := n1_; clear n0_ n1_; (try clear hb); (try clear hb2); (try clear hk); (try clear hi)) | (go_at_call 21; (with_reducible refine (parrot_Make.calls t142 t146 t147 _ (hO.below (by repeat (first | (with_reducible first | exact HB.out | apply bA | apply bN | apply b1) | exact HB.out))) A62.out).mono ?_); rintro e w75 ⟨rfl, hb⟩; have n0_ := Aside0.mk (Kd.R_below (by (with_reducible repeat (first | apply kA | apply kN | apply kD)); exact HO_8.out) hb); have n1_ := Aside0.mk (below_step (by repeat (first | (with_reducible first | exact HB.out | apply bA | apply bN | apply b1) | exact HB.out)) hb); clear HO_8; clear HB; have HO_8 := n0_; have HB := n1_; clear n0_ n1_; (try clear hb); (try clear hb2); (try clear hk); (try clear hi)))
                  repeat (go_quiet (first | (go_at_call 38; (with_reducible refine (parrot_Shortest.calls a0 t142 t143 _ (hO.below (by repeat (first | (with_reducible first | exact HB.out | apply bA | apply bN | apply b1) | exact HB.out))) A51.out).mono ?_); rintro e w74 ⟨rfl, hb⟩; have n0_ := Aside0.mk (Kd.R_below (by (with_reducible repeat (first | apply kA | apply kN | apply kD)); exact HO_8.out) hb); have n1_ := Aside0.mk (below_step (by repeat (first | (with_reducible first | exact HB.out | apply bA | apply bN | apply b1) | exact HB.out)) hb); clear HO_8; clear HB; have HO_8 := n0_; have HB := n1_; clear n0_ n1_; (try clear hb); (try clear hb2); (try clear hk); (try clear hi)) | (go_at_call 21; (with_reducible refine (parrot_Make.calls t142 t146 t147 _ (hO.below (by repeat (first | (with_reducible first | exact HB.out | apply bA | apply bN | apply b1) | exact HB.out))) A62.out).mono ?_); rintro e w75 ⟨rfl, hb⟩; have n0_ := Aside0.mk (Kd.R_below (by (with_reducible repeat (first | apply kA | apply kN | apply kD)); exact HO_8.out) hb); have n1_ := Aside0.mk (below_step (by repeat (first | (with_reducible first | exact HB.out | apply bA | apply bN | apply b1) | exact HB.out)) hb); clear HO_8; clear HB; have HO_8 := n0_; have HB := n1_; clear n0_ n1_; (try clear hb); (try clear hb2); (try clear hk); (try clear hi))); try go_wp2_with (first | (go_at_call 38; (with_reducible refine (parrot_Shortest.calls a0 t142 t143 _ (hO.below (by repeat (first | (with_reducible first | exact HB.out | apply bA | apply bN | apply b1) | exact HB.out))) A51.out).mono ?_); rintro e w74 ⟨rfl, hb⟩; have n0_ := Aside0.mk (Kd.R_below (by (with_reducible repeat (first | apply kA | apply kN | apply kD)); exact HO_8.out) hb); have n1_ := Aside0.mk (below_step (by repeat (first | (with_reducible first | exact HB.out | apply bA | apply bN | apply b1) | exact HB.out)) hb); clear HO_8; clear HB; have HO_8 := n0_; have HB := n1_; clear n0_ n1_; (try clear hb); (try clear hb2); (try clear hk); (try clear hi)) | (go_at_call 21; (with_reducible refine (parrot_Make.calls t142 t146 t147 _ (hO.below (by repeat (first | (with_reducible first | exact HB.out | apply bA | apply bN | apply b1) | exact HB.out))) A62.out).mono ?_); rintro e w75 ⟨rfl, hb⟩; have n0_ := Aside0.mk (Kd.R_below (by (with_reducible repeat (first | apply kA | apply kN | apply kD)); exact HO_8.out) hb); have n1_ := Aside0.mk (below_step (by repeat (first | (with_reducible first | exact HB.out | apply bA | apply bN | apply b1) | exact HB.out)) hb); clear HO_8; clear HB; have HO_8 := n0_; have HB := n1_; clear n0_ n1_; (try clear hb); (try clear hb2); (try clear hk); (try clear hi))))
                  go_ret
                  exact ⟨by first | rfl | (simp [errW_none, errW_some] <;> rfl) | (simp [*, errW_none, errW_some] <;> rfl), by repeat (first | (with_reducible first | exact HB.out | apply bA | apply bN | apply b1) | exact HB.out)⟩
                ·rw [if_neg c64] at H
                 have c64b0 : (t146.toList == a0.toList) = false := beq_eq_false_iff_ne.mpr c64
                 have c64b1 : (t146.toList != a0.toList) = true := bne_iff_ne.mpr c64
                 obtain rfl := Option.some.inj H
                 go_wp2_with (first | (go_at_call 38; (with_reducible refine (parrot_Shortest.calls a0 t142 t143 _ (hO.below (by repeat (first | (with_reducible first | exact HB.out | apply bA | apply bN | apply b1) | exact HB.out))) A51.out).mono ?_); rintro e w76 ⟨rfl, hb⟩; have n0_ := Aside0.mk (Kd.R_below (by (with_reducible repeat (first | apply kA | apply kN | apply kD)); exact HO_8.out) hb); have n1_ := Aside0.mk (below_step (by repeat (first | (with_reducible first | exact HB.out | apply bA | apply bN | apply b1) | exact HB.out)) hb); clear HO_8; clear HB; have HO_8 := n0_; have HB := n1_; clear n0_ n1_; (try clear hb); (try clear hb2); (try clear hk); (try clear hi)) | (go_at_call 21; (with_reducible refine (parrot_Make.calls t142 t146 t147 _ (hO.below (by repeat (first | (with_reducible first | exact HB.out | apply bA | apply bN | apply b1) | exact HB.out))) A62.out).mono ?_); rintro e w77 ⟨rfl, hb⟩; have n0_ := Aside0.mk (Kd.R_below (by (with_reducible repeat (first | apply kA | apply kN | apply kD)); exact HO_8.out) hb); have n1_ := Aside0.mk (below_step (by repeat (first | (with_reducible first | exact HB.out | apply bA | apply bN | apply b1) | exact HB.out)) hb); clear HO_8; clear HB; have HO_8 := n0_; have HB := n1_; clear n0_ n1_; (try clear hb); (try clear hb2); (try clear hk); (try clear hi)))
                 repeat (go_quiet (first | (go_at_call 38; (with_reducible refine (parrot_Shortest.calls a0 t142 t143 _ (hO.below (by repeat (first | (with_reducible first | exact HB.out | apply bA | apply bN | apply b1) | exact HB.out))) A51.out).mono ?_); rintro e w76 ⟨rfl, hb⟩; have n0_ := Aside0.mk (Kd.R_below (by (with_reducible repeat (first | apply kA | apply kN | apply kD)); exact HO_8.out) hb); have n1_ := Aside0.mk (below_step (by repeat (first | (with_reducible first | exact HB.out | apply bA | apply bN | apply b1) | exact HB.out)) hb); clear HO_8; clear HB; have HO_8 := n0_; have HB := n1_; clear n0_ n1_; (try clear hb); (try clear hb2); (try clear hk); (try clear hi)) | (go_at_call 21; (with_reducible refine (parrot_Make.calls t142 t146 t147 _ (hO.below (by repeat (first | (with_reducible first | exact HB.out | apply bA | apply bN | apply b1) | exact HB.out))) A62.out).mono ?_); rintro e w77 ⟨rfl, hb⟩; have n0_ := Aside0.mk (Kd.R_below (by (with_reducible repeat (first | apply kA | apply kN | apply kD)); exact HO_8.out) hb); have n1_ := Aside0.mk (below_step (by repeat (first | (with_reducible first | exact HB.out | apply bA | apply bN | apply b1) | exact HB.out)) hb); clear HO_8; clear HB; have HO_8 := n0_; have HB := n1_; clear n0_ n1_; (try clear hb); (try clear hb2); (try clear hk); (try clear hi))); try go_wp2_with (first | (go_at_call 38; (with_reducible refine (parrot_Shortest.calls a0 t142 t143 _ (hO.below (by repeat (first | (with_reducible first | exact HB.out | apply bA | apply bN | apply b1) | exact HB.out))) A51.out).mono ?_); rintro e w76 ⟨rfl, hb⟩; have n0_ := Aside0.mk (Kd.R_below (by (with_reducible repeat (first | apply kA | apply kN | apply kD)); exact HO_8.out) hb); have n1_ := Aside0.mk (below_step (by repeat (first | (with_reducible first | exact HB.out | apply bA | apply bN | apply b1) | exact HB.out)) hb); clear HO_8; clear HB; have HO_8 := n0_; have HB := n1_; clear n0_ n1_; (try clear hb); (try clear hb2); (try clear hk); (try clear hi)) | (go_at_call 21; (with_reducible refine (parrot_Make.calls t142 t146 t147 _ (hO.below (by repeat (first | (with_reducible first | exact HB.out | apply bA | apply bN | apply b1) | exact HB.out))) A62.out).mono ?_); rintro e w77 ⟨rfl, hb⟩; have n0_ := Aside0.mk (Kd.R_below (by (with_reducible repeat (first | apply kA | apply kN | apply kD)); exact HO_8.out) hb); have n1_ := Aside0.mk (below_step (by repeat (first | (with_reducible first | exact HB.out | apply bA | apply bN | apply b1) | exact HB.out)) hb); clear HO_8; clear HB; have HO_8 := n0_; have HB := n1_; clear n0_ n1_; (try clear hb); (try clear hb2); (try clear hk); (try clear hi))))
                 go_ret
                 exact ⟨by first | rfl | (simp [errW_none, errW_some] <;> rfl) | (simp [*, errW_none, errW_some] <;> rfl), by repeat (first | (with_reducible first | exact HB.out | apply bA | apply bN | apply b1) | exact HB.out)⟩
               ·rw [if_neg c63] at H
                have c63b0 : (t147 == 0) = false := beq_eq_false_iff_ne.mpr c63
                have c63b1 : (t147 != 0) = true := bne_iff_ne.mpr c63
                obtain rfl := Option.some.inj H
                go_wp2_with (first | (go_at_call 38; (with_reducible refine (parrot_Shortest.calls a0 t142 t143 _ (hO.below (by repeat (first | (with_reducible first | exact HB.out | apply bA | apply bN | apply b1) | exact HB.out))) A51.out).mono ?_); rintro e w78 ⟨rfl, hb⟩; have n0_ := Aside0.mk (Kd.R_below (by (with_reducible repeat (first | apply kA | apply kN | apply kD)); exact HO_8.out) hb); have n1_ := Aside0.mk (below_step (by repeat (first | (with_reducible first | exact HB.out | apply bA | apply bN | apply b1) | exact HB.out)) hb); clear HO_8; clear HB; have HO_8 := n0_; have HB := n1_; clear n0_ n1_; (try clear hb); (try clear hb2); (try clear hk); (try clear hi)) | (go_at_call 21; (with_reducible refine (parrot_Make.calls t142 t146 t147 _ (hO.below (by repeat (first | (with_reducible first | exact HB.out | apply bA | apply bN | apply b1) | exact HB.out))) A62.out).mono ?_); rintro e w79 ⟨rfl, hb⟩; have n0_ := Aside0.mk (Kd.R_below (by (with_reducible repeat (first | apply kA | apply kN | apply kD)); exact HO_8.out) hb); have n1_ := Aside0.mk (below_step (by repeat (first | (with_reducible first | exact HB.out | apply bA | apply bN | apply b1) | exact HB.out)) hb); clear HO_8; clear HB; have HO_8 := n0_; have HB := n1_; clear n0_ n1_; (try clear hb); (try clear hb2); (try clear hk); (try clear hi)))
                repeat (go_quiet (first | (go_at_call 38; (with_reducible refine (parrot_Shortest.calls a0 t142 t143 _ (hO.below (by repeat (first | (with_reducible first | exact HB.out | apply bA | apply bN | apply b1) | exact HB.out))) A51.out).mono ?_); rintro e w78 ⟨rfl, hb⟩; have n0_ := Aside0.mk (Kd.R_below (by (with_reducible repeat (first | apply kA | apply kN | apply kD)); exact HO_8.out) hb); have n1_ := Aside0.mk (below_step (by repeat (first | (with_reducible first | exact HB.out | apply bA | apply bN | apply b1) | exact HB.out)) hb); clear HO_8; clear HB; have HO_8 := n0_; have HB := n1_; clear n0_ n1_; (try clear hb); (try clear hb2); (try clear hk); (try clear hi)) | (go_at_call 21; (with_reducible refine (parrot_Make.calls t142 t146 t147 _ (hO.below (by repeat (first | (with_reducible first | exact HB.out | apply bA | apply bN | apply b1) | exact HB.out))) A62.out).mono ?_); rintro e w79 ⟨rfl, hb⟩; have n0_ := Aside0.mk (Kd.R_below (by (with_reducible repeat (first | apply kA | apply kN | apply kD)); exact HO_8.out) hb); have n1_ := Aside0.mk (below_step (by repeat (first | (with_reducible first | exact HB.out | apply bA | apply bN | apply b1) | exact HB.out)) hb); clear HO_8; clear HB; have HO_8 := n0_; have HB := n1_; clear n0_ n1_; (try clear hb); (try clear hb2); (try clear hk); (try clear hi))); try go_wp2_with (first | (go_at_call 38; (with_reducible refine (parrot_Shortest.calls a0 t142 t143 _ (hO.below (by repeat (first | (with_reducible first | exact HB.out | apply bA | apply bN | apply b1) | exact HB.out))) A51.out).mono ?_); rintro e w78 ⟨rfl, hb⟩; have n0_ := Aside0.mk (Kd.R_below (by (with_reducible repeat (first | apply kA | apply kN | apply kD)); exact HO_8.out) hb); have n1_ := Aside0.mk (below_step (by repeat (first | (with_reducible first | exact HB.out | apply bA | apply bN | apply b1) | exact HB.out)) hb); clear HO_8; clear HB; have HO_8 := n0_; have HB := n1_; clear n0_ n1_; (try clear hb); (try clear hb2); (try clear hk); (try clear hi)) | (go_at_call 21; (with_reducible refine (parrot_Make.calls t142 t146 t147 _ (hO.below (by repeat (first | (with_reducible first | exact HB.out | apply bA | apply bN | apply b1) | exact HB.out))) A62.out).mono ?_); rintro e w79 ⟨rfl, hb⟩; have n0_ := Aside0.mk (Kd.R_below (by (with_reducible repeat (first | apply kA | apply kN | apply kD)); exact HO_8.out) hb); have n1_ := Aside0.mk (below_step (by repeat (first | (with_reducible first | exact HB.out | apply bA | apply bN | apply b1) | exact HB.out)) hb); clear HO_8; clear HB; have HO_8 := n0_; have HB := n1_; clear n0_ n1_; (try clear hb); (try clear hb2); (try clear hk); (try clear hi))))
                go_ret
                exact ⟨by first | rfl | (simp [errW_none, errW_some] <;> rfl) | (simp [*, errW_none, errW_some] <;> rfl), by repeat (first | (with_reducible first | exact HB.out | apply bA | apply bN | apply b1) | exact HB.out)⟩
              ·rw [if_neg c61] at H
               have c61b0 : (t143 == 0) = false := beq_eq_false_iff_ne.mpr c61
               have c61b1 : (t143 != 0) = true := bne_iff_ne.mpr c61
               by_cases c80 : t143 = 10
               ·rw [if_pos c80] at H
                have c80b0 : (t143 == 10) = true := beq_iff_eq.mpr c80
                have c80b1 : (t143 != 10) = false := bne_eq_false_iff_eq.mpr c80
                clear c80
                by_cases c81 : t142.toList = ([] : List UInt8)
                ·rw [if_pos c81] at H
                 have c81b0 : (t142.toList == ([] : List UInt8)) = true := beq_iff_eq.mpr c81
                 have c81b1 : (t142.toList != ([] : List UInt8)) = false := bne_eq_false_iff_eq.mpr c81
                 clear c81
                 by_cases c82 : (a0.size : Int) ≥ 8
                 ·rw [if_pos c82] at H
                  have c82b0 : decide (8 ≤ (a0.size : Int)) = true := decide_eq_true c82
                  have c82b1 : decide (8 ≤ a0.size) = true := decide_eq_true (by omega)
                  clear c82
                  replace H := Option.bind_eq_some_iff.mp H
                  obtain ⟨t149, A830, H⟩ := H
                  replace H : (some t149) = some r := H
                  have A83 := Aside0.mk A830
                  clear A830
                  obtain rfl := Option.some.inj H
                  go_wp2_with (first | (go_at_call 38; (with_reducible refine (parrot_Shortest.calls a0 t142 t143 _ (hO.below (by repeat (first | (with_reducible first | exact HB.out | apply bA | apply bN | apply b1) | exact HB.out))) A51.out).mono ?_); rintro e w84 ⟨rfl, hb⟩; have n0_ := Aside0.mk (Kd.R_below (by (with_reducible repeat (first | apply kA | apply kN | apply kD)); exact HO_8.out) hb); have n1_ := Aside0.mk (below_step (by repeat (first | (with_reducible first | exact HB.out | apply bA | apply bN | apply b1) | exact HB.out)) hb); clear HO_8; clear HB; have HO_8 := n0_; have HB := n1_; clear n0_ n1_; (try clear hb); (try clear hb2); (try clear hk); (try clear hi)) | (go_at_call 16; (with_reducible refine (pomadelaw08_alive.calls t149 _ (hO.below (by repeat (first | (with_reducible first | exact HB.out | apply bA | apply bN | apply b1) | exact HB.out))) A83.out).mono ?_); rintro e w85 ⟨rfl, hb⟩; have n0_ := Aside0.mk (Kd.R_below (by (with_reducible repeat (first | apply kA | apply kN | apply kD)); exact HO_8.out) hb); have n1_ := Aside0.mk (below_step (by repeat (first | (with_reducible first | exact HB.out | apply bA | apply bN | apply b1) | exact HB.out)) hb); clear HO_8; clear HB; have HO_8 := n0_; have HB := n1_; clear n0_ n1_; (try clear hb); (try clear hb2); (try clear hk); (try clear hi)))
                  repeat (go_quiet (first | (go_at_call 38; (with_reducible refine (parrot_Shortest.calls a0 t142 t143 _ (hO.below (by repeat (first | (with_reducible first | exact HB.out | apply bA | apply bN | apply b1) | exact HB.out))) A51.out).mono ?_); rintro e w84 ⟨rfl, hb⟩; have n0_ := Aside0.mk (Kd.R_below (by (with_reducible repeat (first | apply kA | apply kN | apply kD)); exact HO_8.out) hb); have n1_ := Aside0.mk (below_step (by repeat (first | (with_reducible first | exact HB.out | apply bA | apply bN | apply b1) | exact HB.out)) hb); clear HO_8; clear HB; have HO_8 := n0_; have HB := n1_; clear n0_ n1_; (try clear hb); (try clear hb2); (try clear hk); (try clear hi)) | (go_at_call 16; (with_reducible refine (pomadelaw08_alive.calls t149 _ (hO.below (by repeat (first | (with_reducible first | exact HB.out | apply bA | apply bN | apply b1) | exact HB.out))) A83.out).mono ?_); rintro e w85 ⟨rfl, hb⟩; have n0_ := Aside0.mk (Kd.R_below (by (with_reducible repeat (first | apply kA | apply kN | apply kD)); exact HO_8.out) hb); have n1_ := Aside0.mk (below_step (by repeat (first | (with_reducible first | exact HB.out | apply bA | apply bN | apply b1) | exact HB.out)) hb); clear HO_8; clear HB; have HO_8 := n0_; have HB := n1_; clear n0_ n1_; (try clear hb); (try clear hb2); (try clear hk); (try clear hi))); try go_wp2_with (first | (go_at_call 38; (with_reducible refine (parrot_Shortest.calls a0 t142 t143 _ (hO.below (by repeat (first | (with_reducible first | exact HB.out | apply bA | apply bN | apply b1) | exact HB.out))) A51.out).mono ?_); rintro e w84 ⟨rfl, hb⟩; have n0_ := Aside0.mk (Kd.R_below (by (with_reducible repeat (first | apply kA | apply kN | apply kD)); exact HO_8.out) hb); have n1_ := Aside0.mk (below_step (by repeat (first | (with_reducible first | exact HB.out | apply bA | apply bN | apply b1) | exact HB.out)) hb); clear HO_8; clear HB; have HO_8 := n0_; have HB := n1_; clear n0_ n1_; (try clear hb); (try clear hb2); (try clear hk); (try clear hi)) | (go_at_call 16; (with_reducible refine (pomadelaw08_alive.calls t149 _ (hO.below (by repeat (first | (with_reducible first | exact HB.out | apply bA | apply bN | apply b1) | exact HB.out))) A83.out).mono ?_); rintro e w85 ⟨rfl, hb⟩; have n0_ := Aside0.mk (Kd.R_below (by (with_reducible repeat (first | apply kA | apply kN | apply kD)); exact HO_8.out) hb); have n1_ := Aside0.mk (below_step (by repeat (first | (with_reducible first | exact HB.out | apply bA | apply bN | apply b1) | exact HB.out)) hb); clear HO_8; clear HB; have HO_8 := n0_; have HB := n1_; clear n0_ n1_; (try clear hb); (try clear hb2); (try clear hk); (try clear hi))))
                  go_ret
                  exact ⟨by first | rfl | (simp [errW_none, errW_some] <;> rfl) | (simp [*, errW_none, errW_some] <;> rfl), by repeat (first | (with_reducible first | exact HB.out | apply bA | apply bN | apply b1) | exact HB.out)⟩
                 ·rw [if_neg c82] at H
                  have c82b0 : decide (8 ≤ (a0.size : Int)) = false := decide_eq_false c82
                  have c82b1 : decide (8 ≤ a0.size) = false := decide_eq_false (by omega)
                  clear c82
                  obtain rfl := Option.some.inj H
                  go_wp2_with (first | (go_at_call 38; (with_reducible refine (parrot_Shortest.calls a0 t142 t143 _ (hO.below (by repeat (first | (with_reducible first | exact HB.out | apply bA | apply bN | apply b1) | exact HB.out))) A51.out).mono ?_); rintro e w86 ⟨rfl, hb⟩; have n0_ := Aside0.mk (Kd.R_below (by (with_reducible repeat (first | apply kA | apply kN | apply kD)); exact HO_8.out) hb); have n1_ := Aside0.mk (below_step (by repeat (first | (with_reducible first | exact HB.out | apply bA | apply bN | apply b1) | exact HB.out)) hb); clear HO_8; clear HB; have HO_8 := n0_; have HB := n1_; clear n0_ n1_; (try clear hb); (try clear hb2); (try clear hk); (try clear hi)))
                  repeat (go_quiet (first | (go_at_call 38; (with_reducible refine (parrot_Shortest.calls a0 t142 t143 _ (hO.below (by repeat (first | (with_reducible first | exact HB.out | apply bA | apply bN | apply b1) | exact HB.out))) A51.out).mono ?_); rintro e w86 ⟨rfl, hb⟩; have n0_ := Aside0.mk (Kd.R_below (by (with_reducible repeat (first | apply kA | apply kN | apply kD)); exact HO_8.out) hb); have n1_ := Aside0.mk (below_step (by repeat (first | (with_reducible first | exact HB.out | apply bA | apply bN | apply b1) | exact HB.out)) hb); clear HO_8; clear HB; have HO_8 := n0_; have HB := n1_; clear n0_ n1_; (try clear hb); (try clear hb2); (try clear hk); (try clear hi))); try go_wp2_with (first | (go_at_call 38; (with_reducible refine (parrot_Shortest.calls a0 t142 t143 _ (hO.below (by repeat (first | (with_reducible first | exact HB.out | apply bA | apply bN | apply b1) | exact HB.out))) A51.out).mono ?_); rintro e w86 ⟨rfl, hb⟩; have n0_ := Aside0.mk (Kd.R_below (by (with_reducible repeat (first | apply kA | apply kN | apply kD)); exact HO_8.out) hb); have n1_ := Aside0.mk (below_step (by repeat (first | (with_reducible first | exact HB.out | apply bA | apply bN | apply b1) | exact HB.out)) hb); clear HO_8; clear HB; have HO_8 := n0_; have HB := n1_; clear n0_ n1_; (try clear hb); (try clear hb2); (try clear hk); (try clear hi))))
                  go_ret
                  exact ⟨by first | rfl | (simp [errW_none, errW_some] <;> rfl) | (simp [*, errW_none, errW_some] <;> rfl), by repeat (first | (with_reducible first | exact HB.out | apply bA | apply bN | apply b1) | exact HB.out)⟩
                ·rw [if_neg c81] at H
                 have c81b0 : (t142.toList == ([] : List UInt8)) = false := beq_eq_false_iff_ne.mpr c81
                 have c81b1 : (t142.toList != ([] : List UInt8)) = true := bne_iff_ne.mpr c81
                 obtain rfl := Option.some.inj H
                 go_wp2_with (first | (go_at_call 38; (with_reducible refine (parrot_Shortest.calls a0 t142 t143 _ (hO.below (by repeat (first | (with_reducible first | exact HB.out | apply bA | apply bN | apply b1) | exact HB.out))) A51.out).mono ?_); rintro e w87 ⟨rfl, hb⟩; have n0_ := Aside0.mk (Kd.R_below (by (with_reducible repeat (first | apply kA | apply kN | apply kD)); exact HO_8.out) hb); have n1_ := Aside0.mk (below_step (by repeat (first | (with_reducible first | exact HB.out | apply bA | apply bN | apply b1) | exact HB.out)) hb); clear HO_8; clear HB; have HO_8 := n0_; have HB := n1_; clear n0_ n1_; (try clear hb); (try clear hb2); (try clear hk); (try clear hi)))
                 repeat (go_quiet (first | (go_at_call 38; (with_reducible refine (parrot_Shortest.calls a0 t142 t143 _ (hO.below (by repeat (first | (with_reducible first | exact HB.out | apply bA | apply bN | apply b1) | exact HB.out))) A51.out).mono ?_); rintro e w87 ⟨rfl, hb⟩; have n0_ := Aside0.mk (Kd.R_below (by (with_reducible repeat (first | apply kA | apply kN | apply kD)); exact HO_8.out) hb); have n1_ := Aside0.mk (below_step (by repeat (first | (with_reducible first | exact HB.out | apply bA | apply bN | apply b1) | exact HB.out)) hb); clear HO_8; clear HB; have HO_8 := n0_; have HB := n1_; clear n0_ n1_; (try clear hb); (try clear hb2); (try clear hk); (try clear hi))); try go_wp2_with (first | (go_at_call 38; (with_reducible refine (parrot_Shortest.calls a0 t142 t143 _ (hO.below (by repeat (first | (with_reducible first | exact HB.out | apply bA | apply bN | apply b1) | exact HB.out))) A51.out).mono ?_); rintro e w87 ⟨rfl, hb⟩; have n0_ := Aside0.mk (Kd.R_below (by (with_reducible repeat (first | apply kA | apply kN | apply kD)); exact HO_8.out) hb); have n1_ := Aside0.mk (below_step (by repeat (first | (with_reducible first | exact HB.out | apply bA | apply bN | apply b1) | exact HB.out)) hb); clear HO_8; clear HB; have HO_8 := n0_; have HB := n1_; clear n0_ n1_; (try clear hb); (try clear hb2); (try clear hk); (try clear hi))))
                 go_ret
                 exact ⟨by first | rfl | (simp [errW_none, errW_some] <;> rfl) | (simp [*, errW_none, errW_some] <;> rfl), by repeat (first | (with_reducible first | exact HB.out | apply bA | apply bN | apply b1) | exact HB.out)⟩
               ·rw [if_neg c80] at H
                have c80b0 : (t143 == 10) = false := beq_eq_false_iff_ne.mpr c80
                have c80b1 : (t143 != 10) = true := bne_iff_ne.mpr c80
                obtain rfl := Option.some.inj H
                go_wp2_with (first | (go_at_call 38; (with_reducible refine (parrot_Shortest.calls a0 t142 t143 _ (hO.below (by repeat (first | (with_reducible first | exact HB.out | apply bA | apply bN | apply b1) | exact HB.out))) A51.out).mono ?_); rintro e w88 ⟨rfl, hb⟩; have n0_ := Aside0.mk (Kd.R_below (by (with_reducible repeat (first | apply kA | apply kN | apply kD)); exact HO_8.out) hb); have n1_ := Aside0.mk (below_step (by repeat (first | (with_reducible first | exact HB.out | apply bA | apply bN | apply b1) | exact HB.out)) hb); clear HO_8; clear HB; have HO_8 := n0_; have HB := n1_; clear n0_ n1_; (try clear hb); (try clear hb2); (try clear hk); (try clear hi)))
                repeat (go_quiet (first | (go_at_call 38; (with_reducible refine (parrot_Shortest.calls a0 t142 t143 _ (hO.below (by repeat (first | (with_reducible first | exact HB.out | apply bA | apply bN | apply b1) | exact HB.out))) A51.out).mono ?_); rintro e w88 ⟨rfl, hb⟩; have n0_ := Aside0.mk (Kd.R_below (by (with_reducible repeat (first | apply kA | apply kN | apply kD)); exact HO_8.out) hb); have n1_ := Aside0.mk (below_step (by repeat (first | (with_reducible first | exact HB.out | apply bA | apply bN | apply b1) | exact HB.out)) hb); clear HO_8; clear HB; have HO_8 := n0_; have HB := n1_; clear n0_ n1_; (try clear hb); (try clear hb2); (try clear hk); (try clear hi))); try go_wp2_with (first | (go_at_call 38; (with_reducible refine (parrot_Shortest.calls a0 t142 t143 _ (hO.below (by repeat (first | (with_reducible first | exact HB.out | apply bA | apply bN | apply b1) | exact HB.out))) A51.out).mono ?_); rintro e w88 ⟨rfl, hb⟩; have n0_ := Aside0.mk (Kd.R_below (by (with_reducible repeat (first | apply kA | apply kN | apply kD)); exact HO_8.out) hb); have n1_ := Aside0.mk (below_step (by repeat (first | (with_reducible first | exact HB.out | apply bA | apply bN | apply b1) | exact HB.out)) hb); clear HO_8; clear HB; have HO_8 := n0_; have HB := n1_; clear n0_ n1_; (try clear hb); (try clear hb2); (try clear hk); (try clear hi))))
                go_ret
                exact ⟨by first | rfl | (simp [errW_none, errW_some] <;> rfl) | (simp [*, errW_none, errW_some] <;> rfl), by repeat (first | (with_reducible first | exact HB.out | apply bA | apply bN | apply b1) | exact HB.out)⟩
    ·rw [if_neg c12] at H
     have c12b0 : (t123 == 0) = false := beq_eq_false_iff_ne.mpr c12
     have c12b1 : (t123 != 0) = true := bne_iff_ne.mpr c12
     obtain rfl := Option.some.inj H
     go_wp2_with (first | (go_at_call 36; (with_reducible refine (parrot_Makers.calls a0 (wrap64 (1 + (wrap64 (Int.tmod a1 5)))) t122 t123 _ (hO.below (by repeat (first | (with_reducible first | exact HB.out | apply bA | apply bN | apply b1) | exact HB.out))) A11.out).mono ?_); rintro e w89 ⟨v124, rfl, ho0, hb⟩; have n0_ := Aside0.mk (Kd.R_lower ho0 (below_size (by repeat (first | (with_reducible first | exact HB.out | apply bA | apply bN | apply b1) | exact HB.out)))); have n1_ := Aside0.mk (below_step (by repeat (first | (with_reducible first | exact HB.out | apply bA | apply bN | apply b1) | exact HB.out)) hb); clear HB; have HO125 := n0_; have HB := n1_; clear n0_ n1_; (try clear hb); (try clear hb2); (try clear hk); (try clear hi); (try clear ho0)))
     repeat (go_quiet (first | (go_at_call 36; (with_reducible refine (parrot_Makers.calls a0 (wrap64 (1 + (wrap64 (Int.tmod a1 5)))) t122 t123 _ (hO.below (by repeat (first | (with_reducible first | exact HB.out | apply bA | apply bN | apply b1) | exact HB.out))) A11.out).mono ?_); rintro e w89 ⟨v124, rfl, ho0, hb⟩; have n0_ := Aside0.mk (Kd.R_lower ho0 (below_size (by repeat (first | (with_reducible first | exact HB.out | apply bA | apply bN | apply b1) | exact HB.out)))); have n1_ := Aside0.mk (below_step (by repeat (first | (with_reducible first | exact HB.out | apply bA | apply bN | apply b1) | exact HB.out)) hb); clear HB; have HO125 := n0_; have HB := n1_; clear n0_ n1_; (try clear hb); (try clear hb2); (try clear hk); (try clear hi); (try clear ho0))); try go_wp2_with (first | (go_at_call 36; (with_reducible refine (parrot_Makers.calls a0 (wrap64 (1 + (wrap64 (Int.tmod a1 5)))) t122 t123 _ (hO.below (by repeat (first | (with_reducible first | exact HB.out | apply bA | apply bN | apply b1) | exact HB.out))) A11.out).mono ?_); rintro e w89 ⟨v124, rfl, ho0, hb⟩; have n0_ := Aside0.mk (Kd.R_lower ho0 (below_size (by repeat (first | (with_reducible first | exact HB.out | apply bA | apply bN | apply b1) | exact HB.out)))); have n1_ := Aside0.mk (below_step (by repeat (first | (with_reducible first | exact HB.out | apply bA | apply bN | apply b1) | exact HB.out)) hb); clear HB; have HO125 := n0_; have HB := n1_; clear n0_ n1_; (try clear hb); (try clear hb2); (try clear hk); (try clear hi); (try clear ho0))))
     go_ret
     exact ⟨by first | rfl | (simp [errW_none, errW_some] <;> rfl) | (simp [*, errW_none, errW_some] <;> rfl), by repeat (first | (with_reducible first | exact HB.out | apply bA | apply bN | apply b1) | exact HB.out)⟩

/-- THE ONE PURE STATEMENT of pomadelaw08_ParrotFound: yours. -/
def pomadelaw08_ParrotFound.Pure : Prop := ∀ (a0 : ByteArray) (a1 : Int) (a2 : ByteArray), a0.size ≤ 140737488351232 → (Lit.int .u8 a1).wf = true → a2.size ≤ 140737488351232 → ∃ k, pomadelaw08_ParrotFound.f k a0 a1 a2 = some true
theorem pomadelaw08_ParrotFound.walk (P : pomadelaw08_ParrotFound.Pure) (a0 : ByteArray) (a1 : Int) (a2 : ByteArray) (w : World) (hO : Ops w) (w0 : a0.size ≤ 140737488351232) (w1 : (Lit.int .u8 a1).wf = true) (w2 : a2.size ≤ 140737488351232) :
  Calls Tryd.prog 15 #[.string a0, .int .u8 a1, .string a2] w fun e w' => e = .returned (.bool true) ∧ Below w.heap.size w w' := by
 obtain ⟨k, h⟩ := P a0 a1 a2 w0 w1 w2
 refine (pomadelaw08_ParrotFound.calls k a0 a1 a2 true w hO h).mono ?_
 rintro e w' ⟨rfl, hd⟩
 exact ⟨rfl, hd⟩


end Go.Proofs.YtcjbnonjhahakaaDoor.Fit
