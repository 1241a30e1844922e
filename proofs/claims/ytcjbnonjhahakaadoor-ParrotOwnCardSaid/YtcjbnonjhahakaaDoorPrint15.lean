-- Written by a program of this session (wip/tools/hprint.py over the kit's print.py); Lean checks it.
import Derived.Test.YtcjbnonjhahakaaDoorPrint0
import Derived.Test.YtcjbnonjhahakaaDoorPrint1
import Derived.Test.YtcjbnonjhahakaaDoorPrint2
import Derived.Test.YtcjbnonjhahakaaDoorPrint5
import Derived.Test.YtcjbnonjhahakaaDoorPrint7
namespace Go.Proofs.YtcjbnonjhahakaaDoor.Print
open Go.RowKit Go.Proofs.YtcjbnonjhahakaaDoor.Hand Go.Proofs.YtcjbnonjhahakaaDoorW.PrintWords Go.Proofs.YtcjbnonjhahakaaDoorW.PrintLast Go.Proofs.YtcjbnonjhahakaaDoorW.PrintMore
attribute [local go_sem] max2_int min2_int max_two min_two max_three min_three max_four min_four   -- for this text's walks alone
set_option linter.unusedVariables false
set_option linter.unusedSimpArgs false

/-! ### pomaderef08_short: function 51 -/
def pomaderef08_short.f (a0 : ByteArray) : Option (ByteArray × Int) := if (a0.size : Int) > 200 then (some ((⟨#[]⟩ : ByteArray), 8)) else (some (a0, 0))
set_option maxHeartbeats 8000000 in
set_option maxRecDepth 100000 in
theorem pomaderef08_short.calls (a0 : ByteArray) (r1 : ByteArray) (r2 : Int) (w : World) (h : pomaderef08_short.f a0 = some (r1, r2)) :
  Calls Tryd.prog 51 #[.string a0] w fun e w' => e = .returned (.tuple #[.string r1, .int .i64 r2]) ∧ Drawn0 w w' := by
 have H : (if (a0.size : Int) > 200 then (some ((⟨#[]⟩ : ByteArray), 8)) else (some (a0, 0))) = some (r1, r2) := h
 clear h
 by_cases c2 : (a0.size : Int) > 200
 ·rw [if_pos c2] at H
  have c2b0 : decide (200 < (a0.size : Int)) = true := decide_eq_true c2
  have c2b1 : decide (200 < a0.size) = true := decide_eq_true (by omega)
  clear c2
  simp only [Option.some.injEq, Prod.mk.injEq] at H
  obtain ⟨rfl, rfl⟩ := H
  go_enter Tryd.func51, Tryd.ntmps51
  go_wp2
  go_ret2
  exact ⟨by first | rfl | (simp; done) | (simp [*]; done), by repeat (first | exact Drawn0.refl _ | apply Drawn0.step)⟩
 ·rw [if_neg c2] at H
  have c2b0 : decide (200 < (a0.size : Int)) = false := decide_eq_false c2
  have c2b1 : decide (200 < a0.size) = false := decide_eq_false (by omega)
  clear c2
  simp only [Option.some.injEq, Prod.mk.injEq] at H
  obtain ⟨rfl, rfl⟩ := H
  go_enter Tryd.func51, Tryd.ntmps51
  go_wp2
  go_ret2
  exact ⟨by first | rfl | (simp; done) | (simp [*]; done), by repeat (first | exact Drawn0.refl _ | apply Drawn0.step)⟩

/-! ### pomaderef08_Self: function 28 -/
def pomaderef08_Self.f (k : Nat) (a0 : ByteArray) : Option (ByteArray × Int) := (pomaderef08_Operations.f k a0).bind fun t253 => (if t253 = 0 then (if a0.size + 2 ≤ 9223372036854775807 then (if (a0 ++ (⟨#[51, 50]⟩ : ByteArray)).size + a0.size ≤ 9223372036854775807 then (if ((a0 ++ (⟨#[51, 50]⟩ : ByteArray)) ++ a0).size + 1 ≤ 9223372036854775807 then ((pomaderef08_short.f (((a0 ++ (⟨#[51, 50]⟩ : ByteArray)) ++ a0) ++ (⟨#[51]⟩ : ByteArray))).bind fun bt254 => (some (bt254.1, bt254.2))) else (none)) else (none)) else (none)) else (some ((⟨#[]⟩ : ByteArray), t253)))
theorem pomaderef08_Self.mono : ∀ a0 k, LeO (pomaderef08_Self.f k a0) (pomaderef08_Self.f (k + 1) a0) := by
 intro a0 k
 unfold pomaderef08_Self.f
 repeat' first
   | (with_reducible exact pomaderef08_Operations.mono _ _)
   | (with_reducible exact LeO.refl _)
   | (with_reducible exact LeO.none _)
   | (with_reducible refine LeO.ite ?_ ?_)
   | (with_reducible refine LeO.bind ?_ (fun _ => ?_))
   | exact pomaderef08_Operations.mono _ _
   | exact LeO.none _
   | refine LeO.ite ?_ ?_
   | refine LeO.bind ?_ (fun _ => ?_)
set_option maxHeartbeats 8000000 in
set_option maxRecDepth 100000 in
theorem pomaderef08_Self.calls (k : Nat) (a0 : ByteArray) (r1 : ByteArray) (r2 : Int) (w : World) (h : pomaderef08_Self.f k a0 = some (r1, r2)) :
  Calls Tryd.prog 28 #[.string a0] w fun e w' => e = .returned (.tuple #[.string r1, .int .i64 r2]) ∧ Drawn0 w w' := by
 have H : ((pomaderef08_Operations.f k a0).bind fun t253 => (if t253 = 0 then (if a0.size + 2 ≤ 9223372036854775807 then (if (a0 ++ (⟨#[51, 50]⟩ : ByteArray)).size + a0.size ≤ 9223372036854775807 then (if ((a0 ++ (⟨#[51, 50]⟩ : ByteArray)) ++ a0).size + 1 ≤ 9223372036854775807 then ((pomaderef08_short.f (((a0 ++ (⟨#[51, 50]⟩ : ByteArray)) ++ a0) ++ (⟨#[51]⟩ : ByteArray))).bind fun bt254 => (some (bt254.1, bt254.2))) else (none)) else (none)) else (none)) else (some ((⟨#[]⟩ : ByteArray), t253)))) = some (r1, r2) := h
 clear h
 replace H := Option.bind_eq_some_iff.mp H
 obtain ⟨t253, A20, H⟩ := H
 replace H : (if t253 = 0 then (if a0.size + 2 ≤ 9223372036854775807 then (if (a0 ++ (⟨#[51, 50]⟩ : ByteArray)).size + a0.size ≤ 9223372036854775807 then (if ((a0 ++ (⟨#[51, 50]⟩ : ByteArray)) ++ a0).size + 1 ≤ 9223372036854775807 then ((pomaderef08_short.f (((a0 ++ (⟨#[51, 50]⟩ : ByteArray)) ++ a0) ++ (⟨#[51]⟩ : ByteArray))).bind fun bt254 => (some (bt254.1, bt254.2))) else (none)) else (none)) else (none)) else (some ((⟨#[]⟩ : ByteArray), t253))) = some (r1, r2) := H
 have A2 := Aside0.mk A20
 clear A20
 by_cases c3 : t253 = 0
 ·rw [if_pos c3] at H
  have c3b0 : (t253 == 0) = true := beq_iff_eq.mpr c3
  have c3b1 : (t253 != 0) = false := bne_eq_false_iff_eq.mpr c3
  clear c3
  by_cases c4 : a0.size + 2 ≤ 9223372036854775807
  ·rw [if_pos c4] at H
   have c4b0 := eq_true c4
   have c4b1 : decide (a0.size + 2 ≤ 9223372036854775807) = true := decide_eq_true c4
   try have c4b2 : (9223372036854775807 < a0.size + 2) = False := eq_false (Nat.not_lt.2 c4)
   by_cases c5 : (a0 ++ (⟨#[51, 50]⟩ : ByteArray)).size + a0.size ≤ 9223372036854775807
   ·rw [if_pos c5] at H
    have c5z := c5
    simp only [ByteArray.size_append, ByteArray.size_extract, Nat.min_self, Int.natCast_add, sz0, sz1, sz2, ic1, ic2] at c5z
    have c5zd := decide_eq_true c5z
    have c5b0 := eq_true c5
    have c5b1 : decide ((a0 ++ (⟨#[51, 50]⟩ : ByteArray)).size + a0.size ≤ 9223372036854775807) = true := decide_eq_true c5
    try have c5b2 : (9223372036854775807 < (a0 ++ (⟨#[51, 50]⟩ : ByteArray)).size + a0.size) = False := eq_false (Nat.not_lt.2 c5)
    by_cases c6 : ((a0 ++ (⟨#[51, 50]⟩ : ByteArray)) ++ a0).size + 1 ≤ 9223372036854775807
    ·rw [if_pos c6] at H
     have c6z := c6
     simp only [ByteArray.size_append, ByteArray.size_extract, Nat.min_self, Int.natCast_add, sz0, sz1, sz2, ic1, ic2] at c6z
     have c6zd := decide_eq_true c6z
     have c6b0 := eq_true c6
     have c6b1 : decide (((a0 ++ (⟨#[51, 50]⟩ : ByteArray)) ++ a0).size + 1 ≤ 9223372036854775807) = true := decide_eq_true c6
     try have c6b2 : (9223372036854775807 < ((a0 ++ (⟨#[51, 50]⟩ : ByteArray)) ++ a0).size + 1) = False := eq_false (Nat.not_lt.2 c6)
     replace H := Option.bind_eq_some_iff.mp H
     obtain ⟨⟨t254, t255⟩, A70, H⟩ := H
     replace H : (some (t254, t255)) = some (r1, r2) := H
     have A7 := Aside0.mk A70
     clear A70
     simp only [Option.some.injEq, Prod.mk.injEq] at H
     obtain ⟨rfl, rfl⟩ := H
     go_enter Tryd.func28, Tryd.ntmps28
     go_wp2_with (first | ((with_reducible refine gate_callee (f := 26) rfl ?_); refine goesL_ (some 6) rfl rfl Tryd.func26 (by kernel_rfl) rfl #[.string a0] rfl (by (try simp only [List.map_toArray, List.map_cons, List.map_nil]); first | done | rfl | (simp only [List.length_drop, List.length_take]; rfl)) ?_; (with_reducible refine (pomaderef08_Operations.calls k a0 t253 _ A2.out).mono ?_); rintro e w' ⟨rfl, ⟨nd, rfl⟩⟩; refine ⟨_, rfl, ?_⟩) | ((with_reducible refine gate_callee (f := 51) rfl ?_); refine goesL_ (some 15) rfl rfl Tryd.func51 (by kernel_rfl) rfl #[.string (((a0 ++ (⟨#[51, 50]⟩ : ByteArray)) ++ a0) ++ (⟨#[51]⟩ : ByteArray))] rfl (by (try simp only [List.map_toArray, List.map_cons, List.map_nil]); first | done | rfl | (simp only [List.length_drop, List.length_take]; rfl)) ?_; (with_reducible refine (pomaderef08_short.calls (((a0 ++ (⟨#[51, 50]⟩ : ByteArray)) ++ a0) ++ (⟨#[51]⟩ : ByteArray)) t254 t255 _ A7.out).mono ?_); rintro e w' ⟨rfl, ⟨nd, rfl⟩⟩; refine ⟨_, rfl, ?_⟩))
     go_ret2
     exact ⟨by first | rfl | (simp; done) | (simp [*]; done), by repeat (first | exact Drawn0.refl _ | apply Drawn0.step)⟩
    ·rw [if_neg c6] at H
     have c6z := c6
     simp only [ByteArray.size_append, ByteArray.size_extract, Nat.min_self, Int.natCast_add, sz0, sz1, sz2, ic1, ic2] at c6z
     have c6zd := decide_eq_false c6z
     exact absurd H (by simp)
   ·rw [if_neg c5] at H
    have c5z := c5
    simp only [ByteArray.size_append, ByteArray.size_extract, Nat.min_self, Int.natCast_add, sz0, sz1, sz2, ic1, ic2] at c5z
    have c5zd := decide_eq_false c5z
    exact absurd H (by simp)
  ·rw [if_neg c4] at H
   exact absurd H (by simp)
 ·rw [if_neg c3] at H
  have c3b0 : (t253 == 0) = false := beq_eq_false_iff_ne.mpr c3
  have c3b1 : (t253 != 0) = true := bne_iff_ne.mpr c3
  simp only [Option.some.injEq, Prod.mk.injEq] at H
  obtain ⟨rfl, rfl⟩ := H
  go_enter Tryd.func28, Tryd.ntmps28
  go_wp2_with (first | ((with_reducible refine gate_callee (f := 26) rfl ?_); refine goesL_ (some 6) rfl rfl Tryd.func26 (by kernel_rfl) rfl #[.string a0] rfl (by (try simp only [List.map_toArray, List.map_cons, List.map_nil]); first | done | rfl | (simp only [List.length_drop, List.length_take]; rfl)) ?_; (with_reducible refine (pomaderef08_Operations.calls k a0 t253 _ A2.out).mono ?_); rintro e w' ⟨rfl, ⟨nd, rfl⟩⟩; refine ⟨_, rfl, ?_⟩))
  go_ret2
  exact ⟨by first | rfl | (simp; done) | (simp [*]; done), by repeat (first | exact Drawn0.refl _ | apply Drawn0.step)⟩

/-! ### pomaderef08_After: function 30 -/
def pomaderef08_After.f (k : Nat) (a0 : ByteArray) : Option (ByteArray × Int) := (pomaderef08_Digits.f k a0).bind fun t259 => (if t259 = 0 then (if 2 + a0.size ≤ 9223372036854775807 then (if ((⟨#[51, 50]⟩ : ByteArray) ++ a0).size + 1 ≤ 9223372036854775807 then ((pomaderef08_short.f (((⟨#[51, 50]⟩ : ByteArray) ++ a0) ++ (⟨#[51]⟩ : ByteArray))).bind fun bt260 => (some (bt260.1, bt260.2))) else (none)) else (none)) else (some ((⟨#[]⟩ : ByteArray), t259)))
theorem pomaderef08_After.mono : ∀ a0 k, LeO (pomaderef08_After.f k a0) (pomaderef08_After.f (k + 1) a0) := by
 intro a0 k
 unfold pomaderef08_After.f
 repeat' first
   | (with_reducible exact pomaderef08_Digits.mono _ _)
   | (with_reducible exact LeO.refl _)
   | (with_reducible exact LeO.none _)
   | (with_reducible refine LeO.ite ?_ ?_)
   | (with_reducible refine LeO.bind ?_ (fun _ => ?_))
   | exact pomaderef08_Digits.mono _ _
   | exact LeO.none _
   | refine LeO.ite ?_ ?_
   | refine LeO.bind ?_ (fun _ => ?_)
set_option maxHeartbeats 8000000 in
set_option maxRecDepth 100000 in
theorem pomaderef08_After.calls (k : Nat) (a0 : ByteArray) (r1 : ByteArray) (r2 : Int) (w : World) (h : pomaderef08_After.f k a0 = some (r1, r2)) :
  Calls Tryd.prog 30 #[.string a0] w fun e w' => e = .returned (.tuple #[.string r1, .int .i64 r2]) ∧ Drawn0 w w' := by
 have H : ((pomaderef08_Digits.f k a0).bind fun t259 => (if t259 = 0 then (if 2 + a0.size ≤ 9223372036854775807 then (if ((⟨#[51, 50]⟩ : ByteArray) ++ a0).size + 1 ≤ 9223372036854775807 then ((pomaderef08_short.f (((⟨#[51, 50]⟩ : ByteArray) ++ a0) ++ (⟨#[51]⟩ : ByteArray))).bind fun bt260 => (some (bt260.1, bt260.2))) else (none)) else (none)) else (some ((⟨#[]⟩ : ByteArray), t259)))) = some (r1, r2) := h
 clear h
 replace H := Option.bind_eq_some_iff.mp H
 obtain ⟨t259, A20, H⟩ := H
 replace H : (if t259 = 0 then (if 2 + a0.size ≤ 9223372036854775807 then (if ((⟨#[51, 50]⟩ : ByteArray) ++ a0).size + 1 ≤ 9223372036854775807 then ((pomaderef08_short.f (((⟨#[51, 50]⟩ : ByteArray) ++ a0) ++ (⟨#[51]⟩ : ByteArray))).bind fun bt260 => (some (bt260.1, bt260.2))) else (none)) else (none)) else (some ((⟨#[]⟩ : ByteArray), t259))) = some (r1, r2) := H
 have A2 := Aside0.mk A20
 clear A20
 by_cases c3 : t259 = 0
 ·rw [if_pos c3] at H
  have c3b0 : (t259 == 0) = true := beq_iff_eq.mpr c3
  have c3b1 : (t259 != 0) = false := bne_eq_false_iff_eq.mpr c3
  clear c3
  by_cases c4 : 2 + a0.size ≤ 9223372036854775807
  ·rw [if_pos c4] at H
   have c4b0 := eq_true c4
   have c4b1 : decide (2 + a0.size ≤ 9223372036854775807) = true := decide_eq_true c4
   try have c4b2 : (9223372036854775807 < 2 + a0.size) = False := eq_false (Nat.not_lt.2 c4)
   by_cases c5 : ((⟨#[51, 50]⟩ : ByteArray) ++ a0).size + 1 ≤ 9223372036854775807
   ·rw [if_pos c5] at H
    have c5z := c5
    simp only [ByteArray.size_append, ByteArray.size_extract, Nat.min_self, Int.natCast_add, sz0, sz1, sz2, ic1, ic2] at c5z
    have c5zd := decide_eq_true c5z
    have c5b0 := eq_true c5
    have c5b1 : decide (((⟨#[51, 50]⟩ : ByteArray) ++ a0).size + 1 ≤ 9223372036854775807) = true := decide_eq_true c5
    try have c5b2 : (9223372036854775807 < ((⟨#[51, 50]⟩ : ByteArray) ++ a0).size + 1) = False := eq_false (Nat.not_lt.2 c5)
    replace H := Option.bind_eq_some_iff.mp H
    obtain ⟨⟨t260, t261⟩, A60, H⟩ := H
    replace H : (some (t260, t261)) = some (r1, r2) := H
    have A6 := Aside0.mk A60
    clear A60
    simp only [Option.some.injEq, Prod.mk.injEq] at H
    obtain ⟨rfl, rfl⟩ := H
    go_enter Tryd.func30, Tryd.ntmps30
    go_wp2_with (first | ((with_reducible refine gate_callee (f := 50) rfl ?_); refine goesL_ (some 6) rfl rfl Tryd.func50 (by kernel_rfl) rfl #[.string a0] rfl (by (try simp only [List.map_toArray, List.map_cons, List.map_nil]); first | done | rfl | (simp only [List.length_drop, List.length_take]; rfl)) ?_; (with_reducible refine (pomaderef08_Digits.calls k a0 t259 _ A2.out).mono ?_); rintro e w' ⟨rfl, ⟨nd, rfl⟩⟩; refine ⟨_, rfl, ?_⟩) | ((with_reducible refine gate_callee (f := 51) rfl ?_); refine goesL_ (some 13) rfl rfl Tryd.func51 (by kernel_rfl) rfl #[.string (((⟨#[51, 50]⟩ : ByteArray) ++ a0) ++ (⟨#[51]⟩ : ByteArray))] rfl (by (try simp only [List.map_toArray, List.map_cons, List.map_nil]); first | done | rfl | (simp only [List.length_drop, List.length_take]; rfl)) ?_; (with_reducible refine (pomaderef08_short.calls (((⟨#[51, 50]⟩ : ByteArray) ++ a0) ++ (⟨#[51]⟩ : ByteArray)) t260 t261 _ A6.out).mono ?_); rintro e w' ⟨rfl, ⟨nd, rfl⟩⟩; refine ⟨_, rfl, ?_⟩))
    go_ret2
    exact ⟨by first | rfl | (simp; done) | (simp [*]; done), by repeat (first | exact Drawn0.refl _ | apply Drawn0.step)⟩
   ·rw [if_neg c5] at H
    have c5z := c5
    simp only [ByteArray.size_append, ByteArray.size_extract, Nat.min_self, Int.natCast_add, sz0, sz1, sz2, ic1, ic2] at c5z
    have c5zd := decide_eq_false c5z
    exact absurd H (by simp)
  ·rw [if_neg c4] at H
   exact absurd H (by simp)
 ·rw [if_neg c3] at H
  have c3b0 : (t259 == 0) = false := beq_eq_false_iff_ne.mpr c3
  have c3b1 : (t259 != 0) = true := bne_iff_ne.mpr c3
  simp only [Option.some.injEq, Prod.mk.injEq] at H
  obtain ⟨rfl, rfl⟩ := H
  go_enter Tryd.func30, Tryd.ntmps30
  go_wp2_with (first | ((with_reducible refine gate_callee (f := 50) rfl ?_); refine goesL_ (some 6) rfl rfl Tryd.func50 (by kernel_rfl) rfl #[.string a0] rfl (by (try simp only [List.map_toArray, List.map_cons, List.map_nil]); first | done | rfl | (simp only [List.length_drop, List.length_take]; rfl)) ?_; (with_reducible refine (pomaderef08_Digits.calls k a0 t259 _ A2.out).mono ?_); rintro e w' ⟨rfl, ⟨nd, rfl⟩⟩; refine ⟨_, rfl, ?_⟩))
  go_ret2
  exact ⟨by first | rfl | (simp; done) | (simp [*]; done), by repeat (first | exact Drawn0.refl _ | apply Drawn0.step)⟩

/-! ### pomaderef08_Pair: function 32 -/
def pomaderef08_Pair.j0 : Nat → ByteArray → ByteArray → Int → Option (ByteArray × ByteArray × Int)
 | 0, _, _, _ => none
 | k + 1, x0, x1, x7 => if x7 = 0 then (if 2 + x0.size ≤ 9223372036854775807 then (if ((⟨#[51, 50]⟩ : ByteArray) ++ x0).size + 1 ≤ 9223372036854775807 then (if (((⟨#[51, 50]⟩ : ByteArray) ++ x0) ++ (⟨#[50]⟩ : ByteArray)).size + x1.size ≤ 9223372036854775807 then (if ((((⟨#[51, 50]⟩ : ByteArray) ++ x0) ++ (⟨#[50]⟩ : ByteArray)) ++ x1).size + 1 ≤ 9223372036854775807 then ((pomaderef08_short.f (((((⟨#[51, 50]⟩ : ByteArray) ++ x0) ++ (⟨#[50]⟩ : ByteArray)) ++ x1) ++ (⟨#[51]⟩ : ByteArray))).bind fun bt271 => (if 1 + x1.size ≤ 9223372036854775807 then (if ((⟨#[50]⟩ : ByteArray) ++ x1).size + bt271.1.size ≤ 9223372036854775807 then ((pomaderef08_short.f (((⟨#[50]⟩ : ByteArray) ++ x1) ++ bt271.1)).bind fun bt273 => (if bt271.2 = 0 then (if bt273.2 = 0 then (some (bt271.1, bt273.1, 0)) else (some ((⟨#[]⟩ : ByteArray), (⟨#[]⟩ : ByteArray), 8))) else (some ((⟨#[]⟩ : ByteArray), (⟨#[]⟩ : ByteArray), 8)))) else (none)) else (none))) else (none)) else (none)) else (none)) else (none)) else (some ((⟨#[]⟩ : ByteArray), (⟨#[]⟩ : ByteArray), x7))
def pomaderef08_Pair.f (k : Nat) (a0 : ByteArray) (a1 : ByteArray) : Option (ByteArray × ByteArray × Int) := (pomaderef08_Digits.f k a0).bind fun t269 => (if t269 = 0 then ((pomaderef08_Digits.f k a1).bind fun t270 => (pomaderef08_Pair.j0 k a0 a1 t270)) else (pomaderef08_Pair.j0 k a0 a1 t269))
theorem pomaderef08_Pair.mono_l : ∀ k, (∀ y0 y1 y2, LeO (pomaderef08_Pair.j0 k y0 y1 y2) (pomaderef08_Pair.j0 (k + 1) y0 y1 y2))
 | 0 => fun _ _ _ r h => by simp [pomaderef08_Pair.j0] at h
 | k + 1 => by
  have ih0 := pomaderef08_Pair.mono_l k
  ·intro y0 y1 y2
   unfold pomaderef08_Pair.j0
   repeat' first
   | (with_reducible exact ih0 _ _ _)
   | (with_reducible exact pomaderef08_Digits.mono _ _)
   | (with_reducible exact LeO.refl _)
   | (with_reducible exact LeO.none _)
   | (with_reducible refine LeO.ite ?_ ?_)
   | (with_reducible refine LeO.bind ?_ (fun _ => ?_))
   | exact ih0 _ _ _
   | exact pomaderef08_Digits.mono _ _
   | exact LeO.none _
   | refine LeO.ite ?_ ?_
   | refine LeO.bind ?_ (fun _ => ?_)
theorem pomaderef08_Pair.mono : ∀ a0 a1 k, LeO (pomaderef08_Pair.f k a0 a1) (pomaderef08_Pair.f (k + 1) a0 a1) := by
 intro a0 a1 k
 have ih0 := pomaderef08_Pair.mono_l k
 unfold pomaderef08_Pair.f
 repeat' first
   | (with_reducible exact ih0 _ _ _)
   | (with_reducible exact pomaderef08_Digits.mono _ _)
   | (with_reducible exact LeO.refl _)
   | (with_reducible exact LeO.none _)
   | (with_reducible refine LeO.ite ?_ ?_)
   | (with_reducible refine LeO.bind ?_ (fun _ => ?_))
   | exact ih0 _ _ _
   | exact pomaderef08_Digits.mono _ _
   | exact LeO.none _
   | refine LeO.ite ?_ ?_
   | refine LeO.bind ?_ (fun _ => ?_)
set_option maxHeartbeats 8000000 in
set_option maxRecDepth 100000 in
theorem pomaderef08_Pair.calls (k : Nat) (a0 : ByteArray) (a1 : ByteArray) (r1 : ByteArray) (r2 : ByteArray) (r3 : Int) (w : World) (h : pomaderef08_Pair.f k a0 a1 = some (r1, r2, r3)) :
  Calls Tryd.prog 32 #[.string a0, .string a1] w fun e w' => e = .returned (.tuple #[.string r1, .string r2, .int .i64 r3]) ∧ Drawn0 w w' := by
 have H : ((pomaderef08_Digits.f k a0).bind fun t269 => (if t269 = 0 then ((pomaderef08_Digits.f k a1).bind fun t270 => (pomaderef08_Pair.j0 k a0 a1 t270)) else (pomaderef08_Pair.j0 k a0 a1 t269))) = some (r1, r2, r3) := h
 clear h
 replace H := Option.bind_eq_some_iff.mp H
 obtain ⟨t269, A30, H⟩ := H
 replace H : (if t269 = 0 then ((pomaderef08_Digits.f k a1).bind fun t270 => (pomaderef08_Pair.j0 k a0 a1 t270)) else (pomaderef08_Pair.j0 k a0 a1 t269)) = some (r1, r2, r3) := H
 have A3 := Aside0.mk A30
 clear A30
 have HC4 := Aside0.mk H
 clear H
 go_enter Tryd.func32, Tryd.ntmps32
 go_upto_if 14 with (first | ((with_reducible refine gate_callee (f := 50) rfl ?_); refine goesL_ (some 12) rfl rfl Tryd.func50 (by kernel_rfl) rfl #[.string a0] rfl (by (try simp only [List.map_toArray, List.map_cons, List.map_nil]); first | done | rfl | (simp only [List.length_drop, List.length_take]; rfl)) ?_; (with_reducible refine (pomaderef08_Digits.calls k a0 t269 _ A3.out).mono ?_); rintro e w' ⟨rfl, ⟨nd, rfl⟩⟩; refine ⟨_, rfl, ?_⟩))
 (try simp only [Act.put, List.setIfInBounds_toArray, List.set_cons_zero, List.set_cons_succ])
 go_cut [7] (fun v7 wc => ∃ (kq : Nat) (x7_3 : Int), v7 = .int .i64 x7_3 ∧ Aside0 (pomaderef08_Pair.j0 kq a0 a1 x7_3 = some (r1, r2, r3)) ∧ Aside0 (kq ≤ k) ∧ Drawn0 w wc)
 case first =>
  have H := HC4.out
  clear HC4
  by_cases c5 : t269 = 0
  ·rw [if_pos c5] at H
   have c5b0 : (t269 == 0) = true := beq_iff_eq.mpr c5
   have c5b1 : (t269 != 0) = false := bne_eq_false_iff_eq.mpr c5
   clear c5
   (first | rw [c5b0] | (simp only [i64_w, i32_w]; rw [c5b0]) | skip)
   replace H := Option.bind_eq_some_iff.mp H
   obtain ⟨t270, A60, H⟩ := H
   replace H : (pomaderef08_Pair.j0 k a0 a1 t270) = some (r1, r2, r3) := H
   have A6 := Aside0.mk A60
   clear A60
   have H' := Aside0.mk H
   clear H
   go_wp2_with (first | ((with_reducible refine gate_callee (f := 50) rfl ?_); refine goesL_ (some 16) rfl rfl Tryd.func50 (by kernel_rfl) rfl #[.string a1] rfl (by (try simp only [List.map_toArray, List.map_cons, List.map_nil]); first | done | rfl | (simp only [List.length_drop, List.length_take]; rfl)) ?_; (with_reducible refine (pomaderef08_Digits.calls k a1 t270 _ A6.out).mono ?_); rintro e w' ⟨rfl, ⟨nd, rfl⟩⟩; refine ⟨_, rfl, ?_⟩))
   go_meet
   case rel => exact ⟨_, (t270), (by first | rfl | (simp; done) | (simp [*]; done)), H', ⟨by first | omega | exact Nat.le_refl _⟩, by repeat (first | exact Drawn0.refl _ | apply Drawn0.step)⟩
  ·rw [if_neg c5] at H
   have c5b0 : (t269 == 0) = false := beq_eq_false_iff_ne.mpr c5
   have c5b1 : (t269 != 0) = true := bne_iff_ne.mpr c5
   (first | rw [c5b0] | (simp only [i64_w, i32_w]; rw [c5b0]) | skip)
   have H' := Aside0.mk H
   clear H
   go_wp2
   go_meet
   case rel => exact ⟨_, (t269), (by first | rfl | (simp; done) | (simp [*]; done)), H', ⟨by first | omega | exact Nat.le_refl _⟩, by repeat (first | exact Drawn0.refl _ | apply Drawn0.step)⟩
 case rest =>
  clear HC4
  try clear p2
  try clear c3
  try clear c5
  try clear c5b0
  try clear c5b1
  obtain ⟨kq, x7_3, rfl, HA, HJ3, ⟨mc3, rfl⟩⟩ := hcut
  cases kq with
  | zero => exact absurd HA.out (by simp [pomaderef08_Pair.j0])
  | succ kj3 =>
   have H := HA.out
   clear HA
   simp only [pomaderef08_Pair.j0] at H
   by_cases c7 : x7_3 = 0
   ·rw [if_pos c7] at H
    have c7b0 : (x7_3 == 0) = true := beq_iff_eq.mpr c7
    have c7b1 : (x7_3 != 0) = false := bne_eq_false_iff_eq.mpr c7
    clear c7
    by_cases c8 : 2 + a0.size ≤ 9223372036854775807
    ·rw [if_pos c8] at H
     have c8b0 := eq_true c8
     have c8b1 : decide (2 + a0.size ≤ 9223372036854775807) = true := decide_eq_true c8
     try have c8b2 : (9223372036854775807 < 2 + a0.size) = False := eq_false (Nat.not_lt.2 c8)
     by_cases c9 : ((⟨#[51, 50]⟩ : ByteArray) ++ a0).size + 1 ≤ 9223372036854775807
     ·rw [if_pos c9] at H
      have c9z := c9
      simp only [ByteArray.size_append, ByteArray.size_extract, Nat.min_self, Int.natCast_add, sz0, sz1, sz2, ic1, ic2] at c9z
      have c9zd := decide_eq_true c9z
      have c9b0 := eq_true c9
      have c9b1 : decide (((⟨#[51, 50]⟩ : ByteArray) ++ a0).size + 1 ≤ 9223372036854775807) = true := decide_eq_true c9
      try have c9b2 : (9223372036854775807 < ((⟨#[51, 50]⟩ : ByteArray) ++ a0).size + 1) = False := eq_false (Nat.not_lt.2 c9)
      by_cases c10 : (((⟨#[51, 50]⟩ : ByteArray) ++ a0) ++ (⟨#[50]⟩ : ByteArray)).size + a1.size ≤ 9223372036854775807
      ·rw [if_pos c10] at H
       have c10z := c10
       simp only [ByteArray.size_append, ByteArray.size_extract, Nat.min_self, Int.natCast_add, sz0, sz1, sz2, ic1, ic2] at c10z
       have c10zd := decide_eq_true c10z
       have c10b0 := eq_true c10
       have c10b1 : decide ((((⟨#[51, 50]⟩ : ByteArray) ++ a0) ++ (⟨#[50]⟩ : ByteArray)).size + a1.size ≤ 9223372036854775807) = true := decide_eq_true c10
       try have c10b2 : (9223372036854775807 < (((⟨#[51, 50]⟩ : ByteArray) ++ a0) ++ (⟨#[50]⟩ : ByteArray)).size + a1.size) = False := eq_false (Nat.not_lt.2 c10)
       by_cases c11 : ((((⟨#[51, 50]⟩ : ByteArray) ++ a0) ++ (⟨#[50]⟩ : ByteArray)) ++ a1).size + 1 ≤ 9223372036854775807
       ·rw [if_pos c11] at H
        have c11z := c11
        simp only [ByteArray.size_append, ByteArray.size_extract, Nat.min_self, Int.natCast_add, sz0, sz1, sz2, ic1, ic2] at c11z
        have c11zd := decide_eq_true c11z
        have c11b0 := eq_true c11
        have c11b1 : decide (((((⟨#[51, 50]⟩ : ByteArray) ++ a0) ++ (⟨#[50]⟩ : ByteArray)) ++ a1).size + 1 ≤ 9223372036854775807) = true := decide_eq_true c11
        try have c11b2 : (9223372036854775807 < ((((⟨#[51, 50]⟩ : ByteArray) ++ a0) ++ (⟨#[50]⟩ : ByteArray)) ++ a1).size + 1) = False := eq_false (Nat.not_lt.2 c11)
        replace H := Option.bind_eq_some_iff.mp H
        obtain ⟨⟨t271, t272⟩, A120, H⟩ := H
        replace H : (if 1 + a1.size ≤ 9223372036854775807 then (if ((⟨#[50]⟩ : ByteArray) ++ a1).size + t271.size ≤ 9223372036854775807 then ((pomaderef08_short.f (((⟨#[50]⟩ : ByteArray) ++ a1) ++ t271)).bind fun bt273 => (if t272 = 0 then (if bt273.2 = 0 then (some (t271, bt273.1, 0)) else (some ((⟨#[]⟩ : ByteArray), (⟨#[]⟩ : ByteArray), 8))) else (some ((⟨#[]⟩ : ByteArray), (⟨#[]⟩ : ByteArray), 8)))) else (none)) else (none)) = some (r1, r2, r3) := H
        have A12 := Aside0.mk A120
        clear A120
        by_cases c13 : 1 + a1.size ≤ 9223372036854775807
        ·rw [if_pos c13] at H
         have c13b0 := eq_true c13
         have c13b1 : decide (1 + a1.size ≤ 9223372036854775807) = true := decide_eq_true c13
         try have c13b2 : (9223372036854775807 < 1 + a1.size) = False := eq_false (Nat.not_lt.2 c13)
         by_cases c14 : ((⟨#[50]⟩ : ByteArray) ++ a1).size + t271.size ≤ 9223372036854775807
         ·rw [if_pos c14] at H
          have c14z := c14
          simp only [ByteArray.size_append, ByteArray.size_extract, Nat.min_self, Int.natCast_add, sz0, sz1, sz2, ic1, ic2] at c14z
          have c14zd := decide_eq_true c14z
          have c14b0 := eq_true c14
          have c14b1 : decide (((⟨#[50]⟩ : ByteArray) ++ a1).size + t271.size ≤ 9223372036854775807) = true := decide_eq_true c14
          try have c14b2 : (9223372036854775807 < ((⟨#[50]⟩ : ByteArray) ++ a1).size + t271.size) = False := eq_false (Nat.not_lt.2 c14)
          replace H := Option.bind_eq_some_iff.mp H
          obtain ⟨⟨t273, t274⟩, A150, H⟩ := H
          replace H : (if t272 = 0 then (if t274 = 0 then (some (t271, t273, 0)) else (some ((⟨#[]⟩ : ByteArray), (⟨#[]⟩ : ByteArray), 8))) else (some ((⟨#[]⟩ : ByteArray), (⟨#[]⟩ : ByteArray), 8))) = some (r1, r2, r3) := H
          have A15 := Aside0.mk A150
          clear A150
          by_cases c16 : t272 = 0
          ·rw [if_pos c16] at H
           have c16b0 : (t272 == 0) = true := beq_iff_eq.mpr c16
           have c16b1 : (t272 != 0) = false := bne_eq_false_iff_eq.mpr c16
           clear c16
           by_cases c17 : t274 = 0
           ·rw [if_pos c17] at H
            have c17b0 : (t274 == 0) = true := beq_iff_eq.mpr c17
            have c17b1 : (t274 != 0) = false := bne_eq_false_iff_eq.mpr c17
            clear c17
            simp only [Option.some.injEq, Prod.mk.injEq] at H
            obtain ⟨rfl, rfl, rfl⟩ := H
            go_wp2_with (first | ((with_reducible refine gate_callee (f := 51) rfl ?_); refine goesL_ (some 27) rfl rfl Tryd.func51 (by kernel_rfl) rfl #[.string (((((⟨#[51, 50]⟩ : ByteArray) ++ a0) ++ (⟨#[50]⟩ : ByteArray)) ++ a1) ++ (⟨#[51]⟩ : ByteArray))] rfl (by (try simp only [List.map_toArray, List.map_cons, List.map_nil]); first | done | rfl | (simp only [List.length_drop, List.length_take]; rfl)) ?_; (with_reducible refine (pomaderef08_short.calls (((((⟨#[51, 50]⟩ : ByteArray) ++ a0) ++ (⟨#[50]⟩ : ByteArray)) ++ a1) ++ (⟨#[51]⟩ : ByteArray)) t271 t272 _ A12.out).mono ?_); rintro e w' ⟨rfl, ⟨nd, rfl⟩⟩; refine ⟨_, rfl, ?_⟩) | ((with_reducible refine gate_callee (f := 51) rfl ?_); refine goesL_ (some 35) rfl rfl Tryd.func51 (by kernel_rfl) rfl #[.string (((⟨#[50]⟩ : ByteArray) ++ a1) ++ t271)] rfl (by (try simp only [List.map_toArray, List.map_cons, List.map_nil]); first | done | rfl | (simp only [List.length_drop, List.length_take]; rfl)) ?_; (with_reducible refine (pomaderef08_short.calls (((⟨#[50]⟩ : ByteArray) ++ a1) ++ t271) t273 t274 _ A15.out).mono ?_); rintro e w' ⟨rfl, ⟨nd, rfl⟩⟩; refine ⟨_, rfl, ?_⟩))
            go_ret3
            exact ⟨by first | rfl | (simp; done) | (simp [*]; done), by repeat (first | exact Drawn0.refl _ | apply Drawn0.step)⟩
           ·rw [if_neg c17] at H
            have c17b0 : (t274 == 0) = false := beq_eq_false_iff_ne.mpr c17
            have c17b1 : (t274 != 0) = true := bne_iff_ne.mpr c17
            simp only [Option.some.injEq, Prod.mk.injEq] at H
            obtain ⟨rfl, rfl, rfl⟩ := H
            go_wp2_with (first | ((with_reducible refine gate_callee (f := 51) rfl ?_); refine goesL_ (some 27) rfl rfl Tryd.func51 (by kernel_rfl) rfl #[.string (((((⟨#[51, 50]⟩ : ByteArray) ++ a0) ++ (⟨#[50]⟩ : ByteArray)) ++ a1) ++ (⟨#[51]⟩ : ByteArray))] rfl (by (try simp only [List.map_toArray, List.map_cons, List.map_nil]); first | done | rfl | (simp only [List.length_drop, List.length_take]; rfl)) ?_; (with_reducible refine (pomaderef08_short.calls (((((⟨#[51, 50]⟩ : ByteArray) ++ a0) ++ (⟨#[50]⟩ : ByteArray)) ++ a1) ++ (⟨#[51]⟩ : ByteArray)) t271 t272 _ A12.out).mono ?_); rintro e w' ⟨rfl, ⟨nd, rfl⟩⟩; refine ⟨_, rfl, ?_⟩) | ((with_reducible refine gate_callee (f := 51) rfl ?_); refine goesL_ (some 35) rfl rfl Tryd.func51 (by kernel_rfl) rfl #[.string (((⟨#[50]⟩ : ByteArray) ++ a1) ++ t271)] rfl (by (try simp only [List.map_toArray, List.map_cons, List.map_nil]); first | done | rfl | (simp only [List.length_drop, List.length_take]; rfl)) ?_; (with_reducible refine (pomaderef08_short.calls (((⟨#[50]⟩ : ByteArray) ++ a1) ++ t271) t273 t274 _ A15.out).mono ?_); rintro e w' ⟨rfl, ⟨nd, rfl⟩⟩; refine ⟨_, rfl, ?_⟩))
            go_ret3
            exact ⟨by first | rfl | (simp; done) | (simp [*]; done), by repeat (first | exact Drawn0.refl _ | apply Drawn0.step)⟩
          ·rw [if_neg c16] at H
           have c16b0 : (t272 == 0) = false := beq_eq_false_iff_ne.mpr c16
           have c16b1 : (t272 != 0) = true := bne_iff_ne.mpr c16
           simp only [Option.some.injEq, Prod.mk.injEq] at H
           obtain ⟨rfl, rfl, rfl⟩ := H
           go_wp2_with (first | ((with_reducible refine gate_callee (f := 51) rfl ?_); refine goesL_ (some 27) rfl rfl Tryd.func51 (by kernel_rfl) rfl #[.string (((((⟨#[51, 50]⟩ : ByteArray) ++ a0) ++ (⟨#[50]⟩ : ByteArray)) ++ a1) ++ (⟨#[51]⟩ : ByteArray))] rfl (by (try simp only [List.map_toArray, List.map_cons, List.map_nil]); first | done | rfl | (simp only [List.length_drop, List.length_take]; rfl)) ?_; (with_reducible refine (pomaderef08_short.calls (((((⟨#[51, 50]⟩ : ByteArray) ++ a0) ++ (⟨#[50]⟩ : ByteArray)) ++ a1) ++ (⟨#[51]⟩ : ByteArray)) t271 t272 _ A12.out).mono ?_); rintro e w' ⟨rfl, ⟨nd, rfl⟩⟩; refine ⟨_, rfl, ?_⟩) | ((with_reducible refine gate_callee (f := 51) rfl ?_); refine goesL_ (some 35) rfl rfl Tryd.func51 (by kernel_rfl) rfl #[.string (((⟨#[50]⟩ : ByteArray) ++ a1) ++ t271)] rfl (by (try simp only [List.map_toArray, List.map_cons, List.map_nil]); first | done | rfl | (simp only [List.length_drop, List.length_take]; rfl)) ?_; (with_reducible refine (pomaderef08_short.calls (((⟨#[50]⟩ : ByteArray) ++ a1) ++ t271) t273 t274 _ A15.out).mono ?_); rintro e w' ⟨rfl, ⟨nd, rfl⟩⟩; refine ⟨_, rfl, ?_⟩))
           go_ret3
           exact ⟨by first | rfl | (simp; done) | (simp [*]; done), by repeat (first | exact Drawn0.refl _ | apply Drawn0.step)⟩
         ·rw [if_neg c14] at H
          have c14z := c14
          simp only [ByteArray.size_append, ByteArray.size_extract, Nat.min_self, Int.natCast_add, sz0, sz1, sz2, ic1, ic2] at c14z
          have c14zd := decide_eq_false c14z
          exact absurd H (by simp)
        ·rw [if_neg c13] at H
         exact absurd H (by simp)
       ·rw [if_neg c11] at H
        have c11z := c11
        simp only [ByteArray.size_append, ByteArray.size_extract, Nat.min_self, Int.natCast_add, sz0, sz1, sz2, ic1, ic2] at c11z
        have c11zd := decide_eq_false c11z
        exact absurd H (by simp)
      ·rw [if_neg c10] at H
       have c10z := c10
       simp only [ByteArray.size_append, ByteArray.size_extract, Nat.min_self, Int.natCast_add, sz0, sz1, sz2, ic1, ic2] at c10z
       have c10zd := decide_eq_false c10z
       exact absurd H (by simp)
     ·rw [if_neg c9] at H
      have c9z := c9
      simp only [ByteArray.size_append, ByteArray.size_extract, Nat.min_self, Int.natCast_add, sz0, sz1, sz2, ic1, ic2] at c9z
      have c9zd := decide_eq_false c9z
      exact absurd H (by simp)
    ·rw [if_neg c8] at H
     exact absurd H (by simp)
   ·rw [if_neg c7] at H
    have c7b0 : (x7_3 == 0) = false := beq_eq_false_iff_ne.mpr c7
    have c7b1 : (x7_3 != 0) = true := bne_iff_ne.mpr c7
    simp only [Option.some.injEq, Prod.mk.injEq] at H
    obtain ⟨rfl, rfl, rfl⟩ := H
    go_wp2
    go_ret3
    exact ⟨by first | rfl | (simp; done) | (simp [*]; done), by repeat (first | exact Drawn0.refl _ | apply Drawn0.step)⟩

/-! ### pomadelaw08_ParrotSelf: function 10 -/
mutual
def pomadelaw08_ParrotSelf.j0 : Nat → ByteArray → ByteArray → ByteArray → Bool → Option (Bool)
 | 0, _, _, _, _ => none
 | k + 1, x0, x1, x2, x27 => if x27 = true then ((pomadelaw08_alive.f).bind fun t275 => (some t275)) else ((parrot_Self.f x0).bind fun bt276 => ((pomaderef08_Self.f k x0).bind fun bt278 => (if bt276.1.toList = bt278.1.toList then (pomadelaw08_ParrotSelf.j1 k x1 x2 (bt276.2 != bt278.2)) else (pomadelaw08_ParrotSelf.j1 k x1 x2 true))))
def pomadelaw08_ParrotSelf.j1 : Nat → ByteArray → ByteArray → Bool → Option (Bool)
 | 0, _, _, _ => none
 | k + 1, x1, x2, x46 => if x46 = true then (some false) else ((parrot_After.f x1).bind fun bt280 => ((pomaderef08_After.f k x1).bind fun bt282 => (if bt280.1.toList = bt282.1.toList then (pomadelaw08_ParrotSelf.j2 k x1 x2 (bt280.2 != bt282.2)) else (pomadelaw08_ParrotSelf.j2 k x1 x2 true))))
def pomadelaw08_ParrotSelf.j2 : Nat → ByteArray → ByteArray → Bool → Option (Bool)
 | 0, _, _, _ => none
 | k + 1, x1, x2, x64 => if x64 = true then (some false) else ((parrot_Pair.f k x1 x2).bind fun bt284 => ((pomaderef08_Pair.f k x1 x2).bind fun bt287 => (if bt284.1.toList = bt287.1.toList then (if bt284.2.1.toList = bt287.2.1.toList then (if bt284.2.2 = bt287.2.2 then ((pomadelaw08_alive.f).bind fun t290 => (some t290)) else (some false)) else (some false)) else (some false))))
end
def pomadelaw08_ParrotSelf.f (k : Nat) (a0 : ByteArray) (a1 : ByteArray) (a2 : ByteArray) : Option (Bool) := if (a0.size : Int) > 300 then (pomadelaw08_ParrotSelf.j0 k a0 a1 a2 true) else (if (a1.size : Int) > 300 then (pomadelaw08_ParrotSelf.j0 k a0 a1 a2 true) else (pomadelaw08_ParrotSelf.j0 k a0 a1 a2 (decide ((a2.size : Int) > 300))))
theorem pomadelaw08_ParrotSelf.mono_l : ∀ k, (∀ y0 y1 y2 y3, LeO (pomadelaw08_ParrotSelf.j0 k y0 y1 y2 y3) (pomadelaw08_ParrotSelf.j0 (k + 1) y0 y1 y2 y3)) ∧ (∀ y0 y1 y2, LeO (pomadelaw08_ParrotSelf.j1 k y0 y1 y2) (pomadelaw08_ParrotSelf.j1 (k + 1) y0 y1 y2)) ∧ (∀ y0 y1 y2, LeO (pomadelaw08_ParrotSelf.j2 k y0 y1 y2) (pomadelaw08_ParrotSelf.j2 (k + 1) y0 y1 y2))
 | 0 => ⟨fun _ _ _ _ r h => by simp [pomadelaw08_ParrotSelf.j0] at h, fun _ _ _ r h => by simp [pomadelaw08_ParrotSelf.j1] at h, fun _ _ _ r h => by simp [pomadelaw08_ParrotSelf.j2] at h⟩
 | k + 1 => by
  obtain ⟨ih0, ih1, ih2⟩ := pomadelaw08_ParrotSelf.mono_l k
  refine ⟨?_, ?_, ?_⟩
  ·intro y0 y1 y2 y3
   unfold pomadelaw08_ParrotSelf.j0
   repeat' first
   | (with_reducible exact ih0 _ _ _ _)
   | (with_reducible exact ih1 _ _ _)
   | (with_reducible exact ih2 _ _ _)
   | (with_reducible exact parrot_Pair.mono _ _ _)
   | (with_reducible exact pomaderef08_After.mono _ _)
   | (with_reducible exact pomaderef08_Pair.mono _ _ _)
   | (with_reducible exact pomaderef08_Self.mono _ _)
   | (with_reducible exact LeO.refl _)
   | (with_reducible exact LeO.none _)
   | (with_reducible refine LeO.ite ?_ ?_)
   | (with_reducible refine LeO.bind ?_ (fun _ => ?_))
   | exact ih0 _ _ _ _
   | exact ih1 _ _ _
   | exact ih2 _ _ _
   | exact parrot_Pair.mono _ _ _
   | exact pomaderef08_After.mono _ _
   | exact pomaderef08_Pair.mono _ _ _
   | exact pomaderef08_Self.mono _ _
   | exact LeO.none _
   | refine LeO.ite ?_ ?_
   | refine LeO.bind ?_ (fun _ => ?_)
  ·intro y0 y1 y2
   unfold pomadelaw08_ParrotSelf.j1
   repeat' first
   | (with_reducible exact ih0 _ _ _ _)
   | (with_reducible exact ih1 _ _ _)
   | (with_reducible exact ih2 _ _ _)
   | (with_reducible exact parrot_Pair.mono _ _ _)
   | (with_reducible exact pomaderef08_After.mono _ _)
   | (with_reducible exact pomaderef08_Pair.mono _ _ _)
   | (with_reducible exact pomaderef08_Self.mono _ _)
   | (with_reducible exact LeO.refl _)
   | (with_reducible exact LeO.none _)
   | (with_reducible refine LeO.ite ?_ ?_)
   | (with_reducible refine LeO.bind ?_ (fun _ => ?_))
   | exact ih0 _ _ _ _
   | exact ih1 _ _ _
   | exact ih2 _ _ _
   | exact parrot_Pair.mono _ _ _
   | exact pomaderef08_After.mono _ _
   | exact pomaderef08_Pair.mono _ _ _
   | exact pomaderef08_Self.mono _ _
   | exact LeO.none _
   | refine LeO.ite ?_ ?_
   | refine LeO.bind ?_ (fun _ => ?_)
  ·intro y0 y1 y2
   unfold pomadelaw08_ParrotSelf.j2
   repeat' first
   | (with_reducible exact ih0 _ _ _ _)
   | (with_reducible exact ih1 _ _ _)
   | (with_reducible exact ih2 _ _ _)
   | (with_reducible exact parrot_Pair.mono _ _ _)
   | (with_reducible exact pomaderef08_After.mono _ _)
   | (with_reducible exact pomaderef08_Pair.mono _ _ _)
   | (with_reducible exact pomaderef08_Self.mono _ _)
   | (with_reducible exact LeO.refl _)
   | (with_reducible exact LeO.none _)
   | (with_reducible refine LeO.ite ?_ ?_)
   | (with_reducible refine LeO.bind ?_ (fun _ => ?_))
   | exact ih0 _ _ _ _
   | exact ih1 _ _ _
   | exact ih2 _ _ _
   | exact parrot_Pair.mono _ _ _
   | exact pomaderef08_After.mono _ _
   | exact pomaderef08_Pair.mono _ _ _
   | exact pomaderef08_Self.mono _ _
   | exact LeO.none _
   | refine LeO.ite ?_ ?_
   | refine LeO.bind ?_ (fun _ => ?_)
theorem pomadelaw08_ParrotSelf.mono : ∀ a0 a1 a2 k, LeO (pomadelaw08_ParrotSelf.f k a0 a1 a2) (pomadelaw08_ParrotSelf.f (k + 1) a0 a1 a2) := by
 intro a0 a1 a2 k
 obtain ⟨ih0, ih1, ih2⟩ := pomadelaw08_ParrotSelf.mono_l k
 unfold pomadelaw08_ParrotSelf.f
 repeat' first
   | (with_reducible exact ih0 _ _ _ _)
   | (with_reducible exact ih1 _ _ _)
   | (with_reducible exact ih2 _ _ _)
   | (with_reducible exact parrot_Pair.mono _ _ _)
   | (with_reducible exact pomaderef08_After.mono _ _)
   | (with_reducible exact pomaderef08_Pair.mono _ _ _)
   | (with_reducible exact pomaderef08_Self.mono _ _)
   | (with_reducible exact LeO.refl _)
   | (with_reducible exact LeO.none _)
   | (with_reducible refine LeO.ite ?_ ?_)
   | (with_reducible refine LeO.bind ?_ (fun _ => ?_))
   | exact ih0 _ _ _ _
   | exact ih1 _ _ _
   | exact ih2 _ _ _
   | exact parrot_Pair.mono _ _ _
   | exact pomaderef08_After.mono _ _
   | exact pomaderef08_Pair.mono _ _ _
   | exact pomaderef08_Self.mono _ _
   | exact LeO.none _
   | refine LeO.ite ?_ ?_
   | refine LeO.bind ?_ (fun _ => ?_)
set_option maxHeartbeats 8000000 in
set_option maxRecDepth 100000 in
theorem pomadelaw08_ParrotSelf.calls (k : Nat) (a0 : ByteArray) (a1 : ByteArray) (a2 : ByteArray) (r : Bool) (w : World) (hO : Ops w) (h : pomadelaw08_ParrotSelf.f k a0 a1 a2 = some r) :
  Calls Tryd.prog 10 #[.string a0, .string a1, .string a2] w fun e w' => e = .returned (.bool r) ∧ Below w.heap.size w w' := by
 have HB := Aside0.mk (Below.refl w.heap.size w)
 have H : (if (a0.size : Int) > 300 then (pomadelaw08_ParrotSelf.j0 k a0 a1 a2 true) else (if (a1.size : Int) > 300 then (pomadelaw08_ParrotSelf.j0 k a0 a1 a2 true) else (pomadelaw08_ParrotSelf.j0 k a0 a1 a2 (decide ((a2.size : Int) > 300))))) = some r := h
 clear h
 have HC4 := Aside0.mk H
 clear H
 go_enter Tryd.func10, Tryd.ntmps10
 go_upto_region 1 with (fail)
 go_cut [27] (fun v27 wc => ∃ (kq : Nat) (x27_3 : Bool), v27 = .bool x27_3 ∧ Aside0 (pomadelaw08_ParrotSelf.j0 kq a0 a1 a2 x27_3 = some r) ∧ Aside0 (kq ≤ k) ∧ Aside0 (Below w.heap.size w wc))
 case first =>
  have H := HC4.out
  clear HC4
  by_cases c5 : (a0.size : Int) > 300
  ·rw [if_pos c5] at H
   have c5b0 : decide (300 < (a0.size : Int)) = true := decide_eq_true c5
   have c5b1 : decide (300 < a0.size) = true := decide_eq_true (by omega)
   clear c5
   (first | rw [c5b0] | (simp only [i64_w, i32_w]; rw [c5b0]) | skip)
   have H' := Aside0.mk H
   clear H
   go_wp2
   go_meet
   case rel => exact ⟨_, (true), (by first | rfl | (simp; done) | (simp [*]; done)), H', ⟨by first | omega | exact Nat.le_refl _⟩, ⟨by repeat (first | (with_reducible first | exact HB.out | apply below_alloc | apply pw_below_drewN | apply below_drew1) | exact HB.out)⟩⟩
  ·rw [if_neg c5] at H
   have c5b0 : decide (300 < (a0.size : Int)) = false := decide_eq_false c5
   have c5b1 : decide (300 < a0.size) = false := decide_eq_false (by omega)
   clear c5
   (first | rw [c5b0] | (simp only [i64_w, i32_w]; rw [c5b0]) | skip)
   by_cases c6 : (a1.size : Int) > 300
   ·rw [if_pos c6] at H
    have c6b0 : decide (300 < (a1.size : Int)) = true := decide_eq_true c6
    have c6b1 : decide (300 < a1.size) = true := decide_eq_true (by omega)
    clear c6
    have H' := Aside0.mk H
    clear H
    go_wp2
    go_meet
    case rel => exact ⟨_, (true), (by first | rfl | (simp; done) | (simp [*]; done)), H', ⟨by first | omega | exact Nat.le_refl _⟩, ⟨by repeat (first | (with_reducible first | exact HB.out | apply below_alloc | apply pw_below_drewN | apply below_drew1) | exact HB.out)⟩⟩
   ·rw [if_neg c6] at H
    have c6b0 : decide (300 < (a1.size : Int)) = false := decide_eq_false c6
    have c6b1 : decide (300 < a1.size) = false := decide_eq_false (by omega)
    clear c6
    have H' := Aside0.mk H
    clear H
    go_wp2
    go_meet
    case rel => exact ⟨_, (decide ((a2.size : Int) > 300)), (by first | rfl | (simp; done) | (simp [*]; done)), H', ⟨by first | omega | exact Nat.le_refl _⟩, ⟨by repeat (first | (with_reducible first | exact HB.out | apply below_alloc | apply pw_below_drewN | apply below_drew1) | exact HB.out)⟩⟩
 case rest =>
  clear HC4
  try clear c1
  try clear p2
  try clear c5
  try clear c5b0
  try clear c5b1
  try clear c6
  try clear c6b0
  try clear c6b1
  obtain ⟨kq, x27_3, rfl, HA, HJ3, HB⟩ := hcut
  cases kq with
  | zero => exact absurd HA.out (by simp [pomadelaw08_ParrotSelf.j0])
  | succ kj3 =>
   have H := HA.out
   clear HA
   simp only [pomadelaw08_ParrotSelf.j0] at H
   by_cases c7 : x27_3 = true
   ·subst c7
    have H1 : ((pomadelaw08_alive.f).bind fun t275 => (some t275)) = some r := by rw [if_pos rfl] at H; exact H
    clear H
    have H := H1
    clear H1
    replace H := Option.bind_eq_some_iff.mp H
    obtain ⟨t275, A80, H⟩ := H
    replace H : (some t275) = some r := H
    have A8 := Aside0.mk A80
    clear A80
    obtain rfl := Option.some.inj H
    go_wp2_with (first | ((with_reducible refine gate_callee (f := 16) rfl ?_); refine goesL_ (some 28) rfl rfl Tryd.func16 (by kernel_rfl) rfl #[] rfl (by (try simp only [List.map_toArray, List.map_cons, List.map_nil]); first | done | rfl | (simp only [List.length_drop, List.length_take]; rfl)) ?_; (with_reducible refine (pomadelaw08_alive.calls t275 _ (hO.below (by repeat (first | (with_reducible first | exact HB.out | apply below_alloc | apply pw_below_drewN | apply below_drew1) | exact HB.out))) A8.out).mono ?_); rintro e w9 ⟨rfl, hb⟩; refine ⟨_, rfl, ?_⟩; have n0_ := Aside0.mk (below_step (by repeat (first | (with_reducible first | exact HB.out | apply below_alloc | apply pw_below_drewN | apply below_drew1) | exact HB.out)) hb); clear HB; have HB := n0_; clear n0_; (try clear hb); (try clear hb2); (try clear hk); (try clear hi)))
    go_ret
    exact ⟨by first | rfl | (simp [errW_none, errW_some] <;> rfl) | (simp [*, errW_none, errW_some] <;> rfl), by repeat (first | (with_reducible first | exact HB.out | apply below_alloc | apply pw_below_drewN | apply below_drew1) | exact HB.out)⟩
   ·replace c7 := Bool.eq_false_iff.mpr c7
    subst c7
    have H1 : ((parrot_Self.f a0).bind fun bt276 => ((pomaderef08_Self.f kj3 a0).bind fun bt278 => (if bt276.1.toList = bt278.1.toList then (pomadelaw08_ParrotSelf.j1 kj3 a1 a2 (bt276.2 != bt278.2)) else (pomadelaw08_ParrotSelf.j1 kj3 a1 a2 true)))) = some r := by rw [if_neg (show ¬ (false = true) by decide)] at H; exact H
    clear H
    have H := H1
    clear H1
    replace H := Option.bind_eq_some_iff.mp H
    obtain ⟨⟨t276, t277⟩, A100, H⟩ := H
    replace H : ((pomaderef08_Self.f kj3 a0).bind fun bt278 => (if t276.toList = bt278.1.toList then (pomadelaw08_ParrotSelf.j1 kj3 a1 a2 (t277 != bt278.2)) else (pomadelaw08_ParrotSelf.j1 kj3 a1 a2 true))) = some r := H
    have A10 := Aside0.mk A100
    clear A100
    replace H := Option.bind_eq_some_iff.mp H
    obtain ⟨⟨t278, t279⟩, A110, H⟩ := H
    replace H : (if t276.toList = t278.toList then (pomadelaw08_ParrotSelf.j1 kj3 a1 a2 (t277 != t279)) else (pomadelaw08_ParrotSelf.j1 kj3 a1 a2 true)) = some r := H
    have A11 := Aside0.mk A110
    clear A110
    have HC12 := Aside0.mk H
    clear H
    go_upto_region 5 with (first | ((with_reducible refine gate_callee (f := 25) rfl ?_); refine goesL_ (some 31) rfl rfl Tryd.func25 (by kernel_rfl) rfl #[.string a0] rfl (by (try simp only [List.map_toArray, List.map_cons, List.map_nil]); first | done | rfl | (simp only [List.length_drop, List.length_take]; rfl)) ?_; (with_reducible refine (parrot_Self.calls a0 t276 t277 _ A10.out).mono ?_); rintro e w13 ⟨rfl, hb⟩; refine ⟨_, rfl, ?_⟩; have n0_ := Aside0.mk (below_step (by repeat (first | (with_reducible first | exact HB.out | apply below_alloc | apply pw_below_drewN | apply below_drew1) | exact HB.out)) hb); clear HB; have HB := n0_; clear n0_; (try clear hb); (try clear hb2); (try clear hk); (try clear hi)) | ((with_reducible refine gate_callee (f := 28) rfl ?_); refine goesL_ (some 36) rfl rfl Tryd.func28 (by kernel_rfl) rfl #[.string a0] rfl (by (try simp only [List.map_toArray, List.map_cons, List.map_nil]); first | done | rfl | (simp only [List.length_drop, List.length_take]; rfl)) ?_; (with_reducible refine (pomaderef08_Self.calls kj3 a0 t278 t279 _ A11.out).mono ?_); rintro e w' ⟨rfl, ⟨nd, rfl⟩⟩; refine ⟨_, rfl, ?_⟩))
    (try simp only [Act.put, List.setIfInBounds_toArray, List.set_cons_zero, List.set_cons_succ])
    go_cut [46] (fun v46 wc => ∃ (kq : Nat) (x46_11 : Bool), v46 = .bool x46_11 ∧ Aside0 (pomadelaw08_ParrotSelf.j1 kq a1 a2 x46_11 = some r) ∧ Aside0 (kq ≤ kj3) ∧ Aside0 (Below w.heap.size w wc))
    case first =>
     have H := HC12.out
     clear HC12
     by_cases c14 : t276.toList = t278.toList
     ·rw [if_pos c14] at H
      have c14b0 : (t276.toList == t278.toList) = true := beq_iff_eq.mpr c14
      have c14b1 : (t276.toList != t278.toList) = false := bne_eq_false_iff_eq.mpr c14
      clear c14
      (first | rw [c14b0] | (simp only [i64_w, i32_w]; rw [c14b0]) | skip)
      have H' := Aside0.mk H
      clear H
      go_wp2
      go_meet
      case rel => exact ⟨_, ((t277 != t279)), (by first | rfl | (simp; done) | (simp [*]; done)), H', ⟨by have := HJ3.out; first | omega | exact Nat.le_refl _⟩, ⟨by repeat (first | (with_reducible first | exact HB.out | apply below_alloc | apply pw_below_drewN | apply below_drew1) | exact HB.out)⟩⟩
     ·rw [if_neg c14] at H
      have c14b0 : (t276.toList == t278.toList) = false := beq_eq_false_iff_ne.mpr c14
      have c14b1 : (t276.toList != t278.toList) = true := bne_iff_ne.mpr c14
      (first | rw [c14b0] | (simp only [i64_w, i32_w]; rw [c14b0]) | skip)
      have H' := Aside0.mk H
      clear H
      go_wp2
      go_meet
      case rel => exact ⟨_, (true), (by first | rfl | (simp; done) | (simp [*]; done)), H', ⟨by have := HJ3.out; first | omega | exact Nat.le_refl _⟩, ⟨by repeat (first | (with_reducible first | exact HB.out | apply below_alloc | apply pw_below_drewN | apply below_drew1) | exact HB.out)⟩⟩
    case rest =>
     clear HC12
     try clear c1
     try clear c2
     try clear p2
     try clear c5
     try clear c5b0
     try clear c5b1
     try clear c6
     try clear c6b0
     try clear c6b1
     try clear c7
     try clear c10
     try clear c14
     try clear c14b0
     try clear c14b1
     try clear p2
     obtain ⟨kq, x46_11, rfl, HA, HJ11, HB⟩ := hcut
     cases kq with
     | zero => exact absurd HA.out (by simp [pomadelaw08_ParrotSelf.j1])
     | succ kj11 =>
      have H := HA.out
      clear HA
      simp only [pomadelaw08_ParrotSelf.j1] at H
      by_cases c15 : x46_11 = true
      ·subst c15
       have H1 : (some false) = some r := by rw [if_pos rfl] at H; exact H
       clear H
       have H := H1
       clear H1
       obtain rfl := Option.some.inj H
       go_wp2
       go_ret
       exact ⟨by first | rfl | (simp [errW_none, errW_some] <;> rfl) | (simp [*, errW_none, errW_some] <;> rfl), by repeat (first | (with_reducible first | exact HB.out | apply below_alloc | apply pw_below_drewN | apply below_drew1) | exact HB.out)⟩
      ·replace c15 := Bool.eq_false_iff.mpr c15
       subst c15
       have H1 : ((parrot_After.f a1).bind fun bt280 => ((pomaderef08_After.f kj11 a1).bind fun bt282 => (if bt280.1.toList = bt282.1.toList then (pomadelaw08_ParrotSelf.j2 kj11 a1 a2 (bt280.2 != bt282.2)) else (pomadelaw08_ParrotSelf.j2 kj11 a1 a2 true)))) = some r := by rw [if_neg (show ¬ (false = true) by decide)] at H; exact H
       clear H
       have H := H1
       clear H1
       replace H := Option.bind_eq_some_iff.mp H
       obtain ⟨⟨t280, t281⟩, A160, H⟩ := H
       replace H : ((pomaderef08_After.f kj11 a1).bind fun bt282 => (if t280.toList = bt282.1.toList then (pomadelaw08_ParrotSelf.j2 kj11 a1 a2 (t281 != bt282.2)) else (pomadelaw08_ParrotSelf.j2 kj11 a1 a2 true))) = some r := H
       have A16 := Aside0.mk A160
       clear A160
       replace H := Option.bind_eq_some_iff.mp H
       obtain ⟨⟨t282, t283⟩, A170, H⟩ := H
       replace H : (if t280.toList = t282.toList then (pomadelaw08_ParrotSelf.j2 kj11 a1 a2 (t281 != t283)) else (pomadelaw08_ParrotSelf.j2 kj11 a1 a2 true)) = some r := H
       have A17 := Aside0.mk A170
       clear A170
       have HC18 := Aside0.mk H
       clear H
       go_upto_region 9 with (first | ((with_reducible refine gate_callee (f := 29) rfl ?_); refine goesL_ (some 49) rfl rfl Tryd.func29 (by kernel_rfl) rfl #[.string a1] rfl (by (try simp only [List.map_toArray, List.map_cons, List.map_nil]); first | done | rfl | (simp only [List.length_drop, List.length_take]; rfl)) ?_; (with_reducible refine (parrot_After.calls a1 t280 t281 _ A16.out).mono ?_); rintro e w19 ⟨rfl, hb⟩; refine ⟨_, rfl, ?_⟩; have n0_ := Aside0.mk (below_step (by repeat (first | (with_reducible first | exact HB.out | apply below_alloc | apply pw_below_drewN | apply below_drew1) | exact HB.out)) hb); clear HB; have HB := n0_; clear n0_; (try clear hb); (try clear hb2); (try clear hk); (try clear hi)) | ((with_reducible refine gate_callee (f := 30) rfl ?_); refine goesL_ (some 54) rfl rfl Tryd.func30 (by kernel_rfl) rfl #[.string a1] rfl (by (try simp only [List.map_toArray, List.map_cons, List.map_nil]); first | done | rfl | (simp only [List.length_drop, List.length_take]; rfl)) ?_; (with_reducible refine (pomaderef08_After.calls kj11 a1 t282 t283 _ A17.out).mono ?_); rintro e w' ⟨rfl, ⟨nd, rfl⟩⟩; refine ⟨_, rfl, ?_⟩))
       (try simp only [Act.put, List.setIfInBounds_toArray, List.set_cons_zero, List.set_cons_succ])
       go_cut [64] (fun v64 wc => ∃ (kq : Nat) (x64_17 : Bool), v64 = .bool x64_17 ∧ Aside0 (pomadelaw08_ParrotSelf.j2 kq a1 a2 x64_17 = some r) ∧ Aside0 (kq ≤ kj11) ∧ Aside0 (Below w.heap.size w wc))
       case first =>
        have H := HC18.out
        clear HC18
        by_cases c20 : t280.toList = t282.toList
        ·rw [if_pos c20] at H
         have c20b0 : (t280.toList == t282.toList) = true := beq_iff_eq.mpr c20
         have c20b1 : (t280.toList != t282.toList) = false := bne_eq_false_iff_eq.mpr c20
         clear c20
         (first | rw [c20b0] | (simp only [i64_w, i32_w]; rw [c20b0]) | skip)
         have H' := Aside0.mk H
         clear H
         go_wp2
         go_meet
         case rel => exact ⟨_, ((t281 != t283)), (by first | rfl | (simp; done) | (simp [*]; done)), H', ⟨by have := HJ3.out; have := HJ11.out; first | omega | exact Nat.le_refl _⟩, ⟨by repeat (first | (with_reducible first | exact HB.out | apply below_alloc | apply pw_below_drewN | apply below_drew1) | exact HB.out)⟩⟩
        ·rw [if_neg c20] at H
         have c20b0 : (t280.toList == t282.toList) = false := beq_eq_false_iff_ne.mpr c20
         have c20b1 : (t280.toList != t282.toList) = true := bne_iff_ne.mpr c20
         (first | rw [c20b0] | (simp only [i64_w, i32_w]; rw [c20b0]) | skip)
         have H' := Aside0.mk H
         clear H
         go_wp2
         go_meet
         case rel => exact ⟨_, (true), (by first | rfl | (simp; done) | (simp [*]; done)), H', ⟨by have := HJ3.out; have := HJ11.out; first | omega | exact Nat.le_refl _⟩, ⟨by repeat (first | (with_reducible first | exact HB.out | apply below_alloc | apply pw_below_drewN | apply below_drew1) | exact HB.out)⟩⟩
       case rest =>
        clear HC18
        try clear c1
        try clear c2
        try clear p2
        try clear c3
        try clear c5
        try clear c5b0
        try clear c5b1
        try clear c6
        try clear c6b0
        try clear c6b1
        try clear c7
        try clear c10
        try clear c14
        try clear c14b0
        try clear c14b1
        try clear c15
        try clear c16
        try clear c20
        try clear c20b0
        try clear c20b1
        try clear p2
        obtain ⟨kq, x64_17, rfl, HA, HJ17, HB⟩ := hcut
        cases kq with
        | zero => exact absurd HA.out (by simp [pomadelaw08_ParrotSelf.j2])
        | succ kj17 =>
         have H := HA.out
         clear HA
         simp only [pomadelaw08_ParrotSelf.j2] at H
         by_cases c21 : x64_17 = true
         ·subst c21
          have H1 : (some false) = some r := by rw [if_pos rfl] at H; exact H
          clear H
          have H := H1
          clear H1
          obtain rfl := Option.some.inj H
          go_wp2
          go_ret
          exact ⟨by first | rfl | (simp [errW_none, errW_some] <;> rfl) | (simp [*, errW_none, errW_some] <;> rfl), by repeat (first | (with_reducible first | exact HB.out | apply below_alloc | apply pw_below_drewN | apply below_drew1) | exact HB.out)⟩
         ·replace c21 := Bool.eq_false_iff.mpr c21
          subst c21
          have H1 : ((parrot_Pair.f kj17 a1 a2).bind fun bt284 => ((pomaderef08_Pair.f kj17 a1 a2).bind fun bt287 => (if bt284.1.toList = bt287.1.toList then (if bt284.2.1.toList = bt287.2.1.toList then (if bt284.2.2 = bt287.2.2 then ((pomadelaw08_alive.f).bind fun t290 => (some t290)) else (some false)) else (some false)) else (some false)))) = some r := by rw [if_neg (show ¬ (false = true) by decide)] at H; exact H
          clear H
          have H := H1
          clear H1
          replace H := Option.bind_eq_some_iff.mp H
          obtain ⟨⟨t284, t285, t286⟩, A220, H⟩ := H
          replace H : ((pomaderef08_Pair.f kj17 a1 a2).bind fun bt287 => (if t284.toList = bt287.1.toList then (if t285.toList = bt287.2.1.toList then (if t286 = bt287.2.2 then ((pomadelaw08_alive.f).bind fun t290 => (some t290)) else (some false)) else (some false)) else (some false))) = some r := H
          have A22 := Aside0.mk A220
          clear A220
          replace H := Option.bind_eq_some_iff.mp H
          obtain ⟨⟨t287, t288, t289⟩, A230, H⟩ := H
          replace H : (if t284.toList = t287.toList then (if t285.toList = t288.toList then (if t286 = t289 then ((pomadelaw08_alive.f).bind fun t290 => (some t290)) else (some false)) else (some false)) else (some false)) = some r := H
          have A23 := Aside0.mk A230
          clear A230
          by_cases c24 : t284.toList = t287.toList
          ·rw [if_pos c24] at H
           have c24b0 : (t284.toList == t287.toList) = true := beq_iff_eq.mpr c24
           have c24b1 : (t284.toList != t287.toList) = false := bne_eq_false_iff_eq.mpr c24
           clear c24
           by_cases c25 : t285.toList = t288.toList
           ·rw [if_pos c25] at H
            have c25b0 : (t285.toList == t288.toList) = true := beq_iff_eq.mpr c25
            have c25b1 : (t285.toList != t288.toList) = false := bne_eq_false_iff_eq.mpr c25
            clear c25
            by_cases c26 : t286 = t289
            ·rw [if_pos c26] at H
             have c26b0 : (t286 == t289) = true := beq_iff_eq.mpr c26
             have c26b1 : (t286 != t289) = false := bne_eq_false_iff_eq.mpr c26
             clear c26
             replace H := Option.bind_eq_some_iff.mp H
             obtain ⟨t290, A270, H⟩ := H
             replace H : (some t290) = some r := H
             have A27 := Aside0.mk A270
             clear A270
             obtain rfl := Option.some.inj H
             go_wp2_with (first | ((with_reducible refine gate_callee (f := 31) rfl ?_); refine goesL_ (some 68) rfl rfl Tryd.func31 (by kernel_rfl) rfl #[.string a1, .string a2] rfl (by (try simp only [List.map_toArray, List.map_cons, List.map_nil]); first | done | rfl | (simp only [List.length_drop, List.length_take]; rfl)) ?_; (with_reducible refine (parrot_Pair.calls kj17 a1 a2 t284 t285 t286 _ A22.out).mono ?_); rintro e w28 ⟨rfl, hb⟩; refine ⟨_, rfl, ?_⟩; have n0_ := Aside0.mk (below_step (by repeat (first | (with_reducible first | exact HB.out | apply below_alloc | apply pw_below_drewN | apply below_drew1) | exact HB.out)) hb); clear HB; have HB := n0_; clear n0_; (try clear hb); (try clear hb2); (try clear hk); (try clear hi)) | ((with_reducible refine gate_callee (f := 32) rfl ?_); refine goesL_ (some 75) rfl rfl Tryd.func32 (by kernel_rfl) rfl #[.string a1, .string a2] rfl (by (try simp only [List.map_toArray, List.map_cons, List.map_nil]); first | done | rfl | (simp only [List.length_drop, List.length_take]; rfl)) ?_; (with_reducible refine (pomaderef08_Pair.calls kj17 a1 a2 t287 t288 t289 _ A23.out).mono ?_); rintro e w' ⟨rfl, ⟨nd, rfl⟩⟩; refine ⟨_, rfl, ?_⟩) | (go_at_call 16; (with_reducible refine (pomadelaw08_alive.calls t290 _ (hO.below (by repeat (first | (with_reducible first | exact HB.out | apply below_alloc | apply pw_below_drewN | apply below_drew1) | exact HB.out))) A27.out).mono ?_); rintro e w29 ⟨rfl, hb⟩; have n0_ := Aside0.mk (below_step (by repeat (first | (with_reducible first | exact HB.out | apply below_alloc | apply pw_below_drewN | apply below_drew1) | exact HB.out)) hb); clear HB; have HB := n0_; clear n0_; (try clear hb); (try clear hb2); (try clear hk); (try clear hi)))
             go_ret
             exact ⟨by first | rfl | (simp [errW_none, errW_some] <;> rfl) | (simp [*, errW_none, errW_some] <;> rfl), by repeat (first | (with_reducible first | exact HB.out | apply below_alloc | apply pw_below_drewN | apply below_drew1) | exact HB.out)⟩
            ·rw [if_neg c26] at H
             have c26b0 : (t286 == t289) = false := beq_eq_false_iff_ne.mpr c26
             have c26b1 : (t286 != t289) = true := bne_iff_ne.mpr c26
             obtain rfl := Option.some.inj H
             go_wp2_with (first | ((with_reducible refine gate_callee (f := 31) rfl ?_); refine goesL_ (some 68) rfl rfl Tryd.func31 (by kernel_rfl) rfl #[.string a1, .string a2] rfl (by (try simp only [List.map_toArray, List.map_cons, List.map_nil]); first | done | rfl | (simp only [List.length_drop, List.length_take]; rfl)) ?_; (with_reducible refine (parrot_Pair.calls kj17 a1 a2 t284 t285 t286 _ A22.out).mono ?_); rintro e w30 ⟨rfl, hb⟩; refine ⟨_, rfl, ?_⟩; have n0_ := Aside0.mk (below_step (by repeat (first | (with_reducible first | exact HB.out | apply below_alloc | apply pw_below_drewN | apply below_drew1) | exact HB.out)) hb); clear HB; have HB := n0_; clear n0_; (try clear hb); (try clear hb2); (try clear hk); (try clear hi)) | ((with_reducible refine gate_callee (f := 32) rfl ?_); refine goesL_ (some 75) rfl rfl Tryd.func32 (by kernel_rfl) rfl #[.string a1, .string a2] rfl (by (try simp only [List.map_toArray, List.map_cons, List.map_nil]); first | done | rfl | (simp only [List.length_drop, List.length_take]; rfl)) ?_; (with_reducible refine (pomaderef08_Pair.calls kj17 a1 a2 t287 t288 t289 _ A23.out).mono ?_); rintro e w' ⟨rfl, ⟨nd, rfl⟩⟩; refine ⟨_, rfl, ?_⟩))
             go_ret
             exact ⟨by first | rfl | (simp [errW_none, errW_some] <;> rfl) | (simp [*, errW_none, errW_some] <;> rfl), by repeat (first | (with_reducible first | exact HB.out | apply below_alloc | apply pw_below_drewN | apply below_drew1) | exact HB.out)⟩
           ·rw [if_neg c25] at H
            have c25b0 : (t285.toList == t288.toList) = false := beq_eq_false_iff_ne.mpr c25
            have c25b1 : (t285.toList != t288.toList) = true := bne_iff_ne.mpr c25
            obtain rfl := Option.some.inj H
            go_wp2_with (first | ((with_reducible refine gate_callee (f := 31) rfl ?_); refine goesL_ (some 68) rfl rfl Tryd.func31 (by kernel_rfl) rfl #[.string a1, .string a2] rfl (by (try simp only [List.map_toArray, List.map_cons, List.map_nil]); first | done | rfl | (simp only [List.length_drop, List.length_take]; rfl)) ?_; (with_reducible refine (parrot_Pair.calls kj17 a1 a2 t284 t285 t286 _ A22.out).mono ?_); rintro e w31 ⟨rfl, hb⟩; refine ⟨_, rfl, ?_⟩; have n0_ := Aside0.mk (below_step (by repeat (first | (with_reducible first | exact HB.out | apply below_alloc | apply pw_below_drewN | apply below_drew1) | exact HB.out)) hb); clear HB; have HB := n0_; clear n0_; (try clear hb); (try clear hb2); (try clear hk); (try clear hi)) | ((with_reducible refine gate_callee (f := 32) rfl ?_); refine goesL_ (some 75) rfl rfl Tryd.func32 (by kernel_rfl) rfl #[.string a1, .string a2] rfl (by (try simp only [List.map_toArray, List.map_cons, List.map_nil]); first | done | rfl | (simp only [List.length_drop, List.length_take]; rfl)) ?_; (with_reducible refine (pomaderef08_Pair.calls kj17 a1 a2 t287 t288 t289 _ A23.out).mono ?_); rintro e w' ⟨rfl, ⟨nd, rfl⟩⟩; refine ⟨_, rfl, ?_⟩))
            go_ret
            exact ⟨by first | rfl | (simp [errW_none, errW_some] <;> rfl) | (simp [*, errW_none, errW_some] <;> rfl), by repeat (first | (with_reducible first | exact HB.out | apply below_alloc | apply pw_below_drewN | apply below_drew1) | exact HB.out)⟩
          ·rw [if_neg c24] at H
           have c24b0 : (t284.toList == t287.toList) = false := beq_eq_false_iff_ne.mpr c24
           have c24b1 : (t284.toList != t287.toList) = true := bne_iff_ne.mpr c24
           obtain rfl := Option.some.inj H
           go_wp2_with (first | ((with_reducible refine gate_callee (f := 31) rfl ?_); refine goesL_ (some 68) rfl rfl Tryd.func31 (by kernel_rfl) rfl #[.string a1, .string a2] rfl (by (try simp only [List.map_toArray, List.map_cons, List.map_nil]); first | done | rfl | (simp only [List.length_drop, List.length_take]; rfl)) ?_; (with_reducible refine (parrot_Pair.calls kj17 a1 a2 t284 t285 t286 _ A22.out).mono ?_); rintro e w32 ⟨rfl, hb⟩; refine ⟨_, rfl, ?_⟩; have n0_ := Aside0.mk (below_step (by repeat (first | (with_reducible first | exact HB.out | apply below_alloc | apply pw_below_drewN | apply below_drew1) | exact HB.out)) hb); clear HB; have HB := n0_; clear n0_; (try clear hb); (try clear hb2); (try clear hk); (try clear hi)) | ((with_reducible refine gate_callee (f := 32) rfl ?_); refine goesL_ (some 75) rfl rfl Tryd.func32 (by kernel_rfl) rfl #[.string a1, .string a2] rfl (by (try simp only [List.map_toArray, List.map_cons, List.map_nil]); first | done | rfl | (simp only [List.length_drop, List.length_take]; rfl)) ?_; (with_reducible refine (pomaderef08_Pair.calls kj17 a1 a2 t287 t288 t289 _ A23.out).mono ?_); rintro e w' ⟨rfl, ⟨nd, rfl⟩⟩; refine ⟨_, rfl, ?_⟩))
           go_ret
           exact ⟨by first | rfl | (simp [errW_none, errW_some] <;> rfl) | (simp [*, errW_none, errW_some] <;> rfl), by repeat (first | (with_reducible first | exact HB.out | apply below_alloc | apply pw_below_drewN | apply below_drew1) | exact HB.out)⟩

/-- THE ONE PURE STATEMENT of pomadelaw08_ParrotSelf: yours. -/
def pomadelaw08_ParrotSelf.Pure : Prop := ∀ (a0 : ByteArray) (a1 : ByteArray) (a2 : ByteArray), a0.size ≤ 140737488351232 → a1.size ≤ 140737488351232 → a2.size ≤ 140737488351232 → ∃ k, pomadelaw08_ParrotSelf.f k a0 a1 a2 = some true
theorem pomadelaw08_ParrotSelf.walk (P : pomadelaw08_ParrotSelf.Pure) (a0 : ByteArray) (a1 : ByteArray) (a2 : ByteArray) (w : World) (hO : Ops w) (w0 : a0.size ≤ 140737488351232) (w1 : a1.size ≤ 140737488351232) (w2 : a2.size ≤ 140737488351232) :
  Calls Tryd.prog 10 #[.string a0, .string a1, .string a2] w fun e w' => e = .returned (.bool true) ∧ Below w.heap.size w w' := by
 obtain ⟨k, h⟩ := P a0 a1 a2 w0 w1 w2
 refine (pomadelaw08_ParrotSelf.calls k a0 a1 a2 true w hO h).mono ?_
 rintro e w' ⟨rfl, hd⟩
 exact ⟨rfl, hd⟩


end Go.Proofs.YtcjbnonjhahakaaDoor.Print
-- c0z_done
