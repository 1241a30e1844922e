-- Written by a program of this session (wip/tools/hprint.py over the kit's print.py); Lean checks it.
import Derived.Test.YtcjbnonjhahakaaDoorPrint0
import Derived.Test.YtcjbnonjhahakaaDoorPrint1
namespace Go.Proofs.YtcjbnonjhahakaaDoor.Print
open Go.RowKit Go.Proofs.YtcjbnonjhahakaaDoor.Hand Go.Proofs.YtcjbnonjhahakaaDoorW.PrintWords Go.Proofs.YtcjbnonjhahakaaDoorW.PrintLast Go.Proofs.YtcjbnonjhahakaaDoorW.PrintMore
attribute [local go_sem] max2_int min2_int max_two min_two max_three min_three max_four min_four   -- for this text's walks alone
set_option linter.unusedVariables false
set_option linter.unusedSimpArgs false

/-! ### parrot_After: function 29 -/
def parrot_After.f (a0 : ByteArray) : Option (ByteArray × Int) := (parrot_digits.f a0).bind fun t256 => (if t256 = 0 then (if 2 + a0.size ≤ 9223372036854775807 then (if ((⟨#[51, 50]⟩ : ByteArray) ++ a0).size + 1 ≤ 9223372036854775807 then ((parrot_bounded.f (((⟨#[51, 50]⟩ : ByteArray) ++ a0) ++ (⟨#[51]⟩ : ByteArray))).bind fun bt257 => (some (bt257.1, bt257.2))) else (none)) else (none)) else (some ((⟨#[]⟩ : ByteArray), t256)))
set_option maxHeartbeats 8000000 in
set_option maxRecDepth 100000 in
theorem parrot_After.calls (a0 : ByteArray) (r1 : ByteArray) (r2 : Int) (w : World) (h : parrot_After.f a0 = some (r1, r2)) :
  Calls Tryd.prog 29 #[.string a0] w fun e w' => e = .returned (.tuple #[.string r1, .int .i64 r2]) ∧ Below w.heap.size w w' := by
 have HB := Aside0.mk (Below.refl w.heap.size w)
 have H : ((parrot_digits.f a0).bind fun t256 => (if t256 = 0 then (if 2 + a0.size ≤ 9223372036854775807 then (if ((⟨#[51, 50]⟩ : ByteArray) ++ a0).size + 1 ≤ 9223372036854775807 then ((parrot_bounded.f (((⟨#[51, 50]⟩ : ByteArray) ++ a0) ++ (⟨#[51]⟩ : ByteArray))).bind fun bt257 => (some (bt257.1, bt257.2))) else (none)) else (none)) else (some ((⟨#[]⟩ : ByteArray), t256)))) = some (r1, r2) := h
 clear h
 replace H := Option.bind_eq_some_iff.mp H
 obtain ⟨t256, A20, H⟩ := H
 replace H : (if t256 = 0 then (if 2 + a0.size ≤ 9223372036854775807 then (if ((⟨#[51, 50]⟩ : ByteArray) ++ a0).size + 1 ≤ 9223372036854775807 then ((parrot_bounded.f (((⟨#[51, 50]⟩ : ByteArray) ++ a0) ++ (⟨#[51]⟩ : ByteArray))).bind fun bt257 => (some (bt257.1, bt257.2))) else (none)) else (none)) else (some ((⟨#[]⟩ : ByteArray), t256))) = some (r1, r2) := H
 have A2 := Aside0.mk A20
 clear A20
 by_cases c3 : t256 = 0
 ·rw [if_pos c3] at H
  have c3b0 : (t256 == 0) = true := beq_iff_eq.mpr c3
  have c3b1 : (t256 != 0) = false := bne_eq_false_iff_eq.mpr c3
  clear c3
  by_cases c4 : 2 + a0.size ≤ 9223372036854775807
  ·rw [if_pos c4] at H
   have c4b0 := eq_true c4
   have c4b1 : decide (2 + a0.size ≤ 9223372036854775807) = true := decide_eq_true c4
   try have c4b2 : (9223372036854775807 < 2 + a0.size) = False := eq_false (Nat.not_lt.2 c4)
   by_cases c5 : ((⟨#[51, 50]⟩ : ByteArray) ++ a0).size + 1 ≤ 9223372036854775807
   ·rw [if_pos c5] at H
    have c5z := c5
    simp only [ByteArray.size_append, ByteArray.size_extract, Nat.min_self, Int.natCast_add, sz0, sz1, sz2, ic1, ic2] at c5z
    have c5zd := decide_eq_true c5z
    have c5b0 := eq_true c5
    have c5b1 : decide (((⟨#[51, 50]⟩ : ByteArray) ++ a0).size + 1 ≤ 9223372036854775807) = true := decide_eq_true c5
    try have c5b2 : (9223372036854775807 < ((⟨#[51, 50]⟩ : ByteArray) ++ a0).size + 1) = False := eq_false (Nat.not_lt.2 c5)
    replace H := Option.bind_eq_some_iff.mp H
    obtain ⟨⟨t257, t258⟩, A60, H⟩ := H
    replace H : (some (t257, t258)) = some (r1, r2) := H
    have A6 := Aside0.mk A60
    clear A60
    simp only [Option.some.injEq, Prod.mk.injEq] at H
    obtain ⟨rfl, rfl⟩ := H
    go_enter Tryd.func29, Tryd.ntmps29
    go_wp2_with (first | ((with_reducible refine gate_callee (f := 52) rfl ?_); refine goesL_ (some 6) rfl rfl Tryd.func52 (by kernel_rfl) rfl #[.string a0] rfl (by (try simp only [List.map_toArray, List.map_cons, List.map_nil]); first | done | rfl | (simp only [List.length_drop, List.length_take]; rfl)) ?_; (with_reducible refine (parrot_digits.calls a0 t256 _ A2.out).mono ?_); rintro e w7 ⟨rfl, hb⟩; refine ⟨_, rfl, ?_⟩; have n0_ := Aside0.mk (below_step (by repeat (first | (with_reducible first | exact HB.out | apply below_alloc | apply pw_below_drewN | apply below_drew1) | exact HB.out)) hb); clear HB; have HB := n0_; clear n0_; (try clear hb); (try clear hb2); (try clear hk); (try clear hi)) | ((with_reducible refine gate_callee (f := 49) rfl ?_); refine goesL_ (some 13) rfl rfl Tryd.func49 (by kernel_rfl) rfl #[.string (((⟨#[51, 50]⟩ : ByteArray) ++ a0) ++ (⟨#[51]⟩ : ByteArray))] rfl (by (try simp only [List.map_toArray, List.map_cons, List.map_nil]); first | done | rfl | (simp only [List.length_drop, List.length_take]; rfl)) ?_; (with_reducible refine (parrot_bounded.calls (((⟨#[51, 50]⟩ : ByteArray) ++ a0) ++ (⟨#[51]⟩ : ByteArray)) t257 t258 _ A6.out).mono ?_); rintro e w' ⟨rfl, ⟨nd, rfl⟩⟩; refine ⟨_, rfl, ?_⟩))
    go_ret2
    exact ⟨by first | rfl | (simp [errW_none, errW_some] <;> rfl) | (simp [*, errW_none, errW_some] <;> rfl), by repeat (first | (with_reducible first | exact HB.out | apply below_alloc | apply pw_below_drewN | apply below_drew1) | exact HB.out)⟩
   ·rw [if_neg c5] at H
    have c5z := c5
    simp only [ByteArray.size_append, ByteArray.size_extract, Nat.min_self, Int.natCast_add, sz0, sz1, sz2, ic1, ic2] at c5z
    have c5zd := decide_eq_false c5z
    exact absurd H (by simp)
  ·rw [if_neg c4] at H
   exact absurd H (by simp)
 ·rw [if_neg c3] at H
  have c3b0 : (t256 == 0) = false := beq_eq_false_iff_ne.mpr c3
  have c3b1 : (t256 != 0) = true := bne_iff_ne.mpr c3
  simp only [Option.some.injEq, Prod.mk.injEq] at H
  obtain ⟨rfl, rfl⟩ := H
  go_enter Tryd.func29, Tryd.ntmps29
  go_wp2_with (first | ((with_reducible refine gate_callee (f := 52) rfl ?_); refine goesL_ (some 6) rfl rfl Tryd.func52 (by kernel_rfl) rfl #[.string a0] rfl (by (try simp only [List.map_toArray, List.map_cons, List.map_nil]); first | done | rfl | (simp only [List.length_drop, List.length_take]; rfl)) ?_; (with_reducible refine (parrot_digits.calls a0 t256 _ A2.out).mono ?_); rintro e w8 ⟨rfl, hb⟩; refine ⟨_, rfl, ?_⟩; have n0_ := Aside0.mk (below_step (by repeat (first | (with_reducible first | exact HB.out | apply below_alloc | apply pw_below_drewN | apply below_drew1) | exact HB.out)) hb); clear HB; have HB := n0_; clear n0_; (try clear hb); (try clear hb2); (try clear hk); (try clear hi)))
  go_ret2
  exact ⟨by first | rfl | (simp [errW_none, errW_some] <;> rfl) | (simp [*, errW_none, errW_some] <;> rfl), by repeat (first | (with_reducible first | exact HB.out | apply below_alloc | apply pw_below_drewN | apply below_drew1) | exact HB.out)⟩

/-! ### parrot_Pair: function 31 -/
def parrot_Pair.l0 : Nat → ByteArray → ByteArray → List ByteArray → Int → Int → Option (ByteArray × ByteArray × Int)
 | 0, _, _, _, _, _ => none
 | k + 1, x0, x1, x16, x17, x18 => if x18 < x17 then (if 0 ≤ x18 then (if x18 < (x16.length : Int) then ((parrot_digits.f (rdOf ByteArray.empty x16 x18)).bind fun t266 => (if t266 = 0 then (parrot_Pair.l0 k x0 x1 x16 x17 (wrap64 (x18 + 1))) else (some ((⟨#[]⟩ : ByteArray), (⟨#[]⟩ : ByteArray), t266)))) else (none)) else (none)) else (if 2 + x0.size ≤ 9223372036854775807 then (if ((⟨#[51, 50]⟩ : ByteArray) ++ x0).size + 1 ≤ 9223372036854775807 then (if (((⟨#[51, 50]⟩ : ByteArray) ++ x0) ++ (⟨#[50]⟩ : ByteArray)).size + x1.size ≤ 9223372036854775807 then (if ((((⟨#[51, 50]⟩ : ByteArray) ++ x0) ++ (⟨#[50]⟩ : ByteArray)) ++ x1).size + 1 ≤ 9223372036854775807 then (if 1 + x1.size ≤ 9223372036854775807 then (if ((⟨#[50]⟩ : ByteArray) ++ x1).size + (((((⟨#[51, 50]⟩ : ByteArray) ++ x0) ++ (⟨#[50]⟩ : ByteArray)) ++ x1) ++ (⟨#[51]⟩ : ByteArray)).size ≤ 9223372036854775807 then ((parrot_bounded.f (((⟨#[50]⟩ : ByteArray) ++ x1) ++ (((((⟨#[51, 50]⟩ : ByteArray) ++ x0) ++ (⟨#[50]⟩ : ByteArray)) ++ x1) ++ (⟨#[51]⟩ : ByteArray)))).bind fun bt267 => (if bt267.2 = 0 then (if ((((((⟨#[51, 50]⟩ : ByteArray) ++ x0) ++ (⟨#[50]⟩ : ByteArray)) ++ x1) ++ (⟨#[51]⟩ : ByteArray)).size : Int) > 200 then (some ((⟨#[]⟩ : ByteArray), (⟨#[]⟩ : ByteArray), 8)) else (some (((((⟨#[51, 50]⟩ : ByteArray) ++ x0) ++ (⟨#[50]⟩ : ByteArray)) ++ x1) ++ (⟨#[51]⟩ : ByteArray), ((⟨#[50]⟩ : ByteArray) ++ x1) ++ (((((⟨#[51, 50]⟩ : ByteArray) ++ x0) ++ (⟨#[50]⟩ : ByteArray)) ++ x1) ++ (⟨#[51]⟩ : ByteArray)), 0))) else (some ((⟨#[]⟩ : ByteArray), (⟨#[]⟩ : ByteArray), 8)))) else (none)) else (none)) else (none)) else (none)) else (none)) else (none))
def parrot_Pair.f (k : Nat) (a0 : ByteArray) (a1 : ByteArray) : Option (ByteArray × ByteArray × Int) := (some (([a0, a1] : List ByteArray) : List ByteArray)).bind fun y262 => (parrot_Pair.l0 k a0 a1 y262 (y262.length : Int) 0)
theorem parrot_Pair.mono_l : ∀ k, (∀ y0 y1 y2 y3 y4, LeO (parrot_Pair.l0 k y0 y1 y2 y3 y4) (parrot_Pair.l0 (k + 1) y0 y1 y2 y3 y4))
 | 0 => fun _ _ _ _ _ r h => by simp [parrot_Pair.l0] at h
 | k + 1 => by
  have ih0 := parrot_Pair.mono_l k
  ·intro y0 y1 y2 y3 y4
   unfold parrot_Pair.l0
   repeat' first
   | (with_reducible exact ih0 _ _ _ _ _)
   | (with_reducible exact LeO.refl _)
   | (with_reducible exact LeO.none _)
   | (with_reducible refine LeO.ite ?_ ?_)
   | (with_reducible refine LeO.bind ?_ (fun _ => ?_))
   | exact ih0 _ _ _ _ _
   | exact LeO.none _
   | refine LeO.ite ?_ ?_
   | refine LeO.bind ?_ (fun _ => ?_)
theorem parrot_Pair.mono : ∀ a0 a1 k, LeO (parrot_Pair.f k a0 a1) (parrot_Pair.f (k + 1) a0 a1) := by
 intro a0 a1 k
 have ih0 := parrot_Pair.mono_l k
 unfold parrot_Pair.f
 repeat' first
   | (with_reducible exact ih0 _ _ _ _ _)
   | (with_reducible exact LeO.refl _)
   | (with_reducible exact LeO.none _)
   | (with_reducible refine LeO.ite ?_ ?_)
   | (with_reducible refine LeO.bind ?_ (fun _ => ?_))
   | exact ih0 _ _ _ _ _
   | exact LeO.none _
   | refine LeO.ite ?_ ?_
   | refine LeO.bind ?_ (fun _ => ?_)
set_option maxHeartbeats 8000000 in
set_option maxRecDepth 100000 in
theorem parrot_Pair.calls (k : Nat) (a0 : ByteArray) (a1 : ByteArray) (r1 : ByteArray) (r2 : ByteArray) (r3 : Int) (w : World) (h : parrot_Pair.f k a0 a1 = some (r1, r2, r3)) :
  Calls Tryd.prog 31 #[.string a0, .string a1] w fun e w' => e = .returned (.tuple #[.string r1, .string r2, .int .i64 r3]) ∧ Below w.heap.size w w' := by
 have HB := Aside0.mk (Below.refl w.heap.size w)
 have H : ((some (([a0, a1] : List ByteArray) : List ByteArray)).bind fun y262 => (parrot_Pair.l0 k a0 a1 y262 (y262.length : Int) 0)) = some (r1, r2, r3) := h
 clear h
 obtain ⟨y262, hy262⟩ : ∃ y_ : List ByteArray, y_ = (([a0, a1] : List ByteArray)) := ⟨_, rfl⟩
 replace H : (parrot_Pair.l0 k a0 a1 y262 (y262.length : Int) 0) = some (r1, r2, r3) := by first | (rw [hy262]; with_reducible exact H) | (have H2_ := (Option.bind_some _ _).symm.trans H; rw [hy262]; with_reducible exact H2_) | (have H2_ := (Option.bind_some _ _).symm.trans H; with_reducible exact H2_) | with_reducible exact H | (rw [hy262]; exact H) | exact H
 have Ny262 := Aside0.mk hy262
 clear hy262
 have H' := Aside0.mk H
 clear H
 go_enter Tryd.func31, Tryd.ntmps31
 go_wp2_with (first | ((with_reducible refine gate_dst (N := 16) rfl ?_); (try (refine gate_guard (by rfl) ?_; dsimp only)); refine Kd.R_lit Kd.string _ 9 ?hg (N := 16) ?hd (xs := ([a0, a1] : List ByteArray)) (inner := [.string a0, .string a1]) (ok := fun _ => True) (okp := fun _ => True) ?hr ?hp (fun _ hk => hk) trivial (Below.refl _ _) (Nat.le_refl _) (by simp) ?_; (case hd => rfl); (case hg => rfl); (case hr => first | (go_simp; done) | (go_simp; rfl)); (case hp => exact (Reps.one (show Kd.M Kd.string _ _ _ a0 [.string a0] from rfl) (Reps.one (show Kd.M Kd.string _ _ _ a1 [.string a1] from rfl) (Reps.none _ _)))); intro v263 w3 ho4 hb hg_ hnew_; clear hg_ hnew_; (first | rw [← Ny262.out] at ho4 | (simp only [Int.reduceToNat] at ho4; rw [← Ny262.out] at ho4)); have n0_ := Aside0.mk (Kd.R_lower ho4 (below_size (by repeat (first | (with_reducible first | exact HB.out | apply below_alloc | apply pw_below_drewN | apply below_drew1) | exact HB.out)))); have n1_ := Aside0.mk (below_step (by repeat (first | (with_reducible first | exact HB.out | apply below_alloc | apply pw_below_drewN | apply below_drew1) | exact HB.out)) hb); clear HB; have HO264 := n0_; have HB := n1_; clear n0_ n1_; clear hb ho4; obtain ⟨Ao5, co5, eo5⟩ := Kd.R_slice HO264.out; subst eo5))
 go_loopg [18] k (fun kq v18 w' => ∃ (x18_1 : Int), v18 = .int .i64 x18_1 ∧ Aside0 (parrot_Pair.l0 kq a0 a1 y262 (y262.length : Int) x18_1 = some (r1, r2, r3)) ∧ Aside0 (kq ≤ k) ∧ Aside0 (Kd.R Kd.string 9 w' w.heap.size (fun _ => True) (.slice Ao5 y262.length co5) y262) ∧ Aside0 (Below w.heap.size w w'))
 case atStart => exact ⟨(0), (by first | rfl | (simp; done) | (simp [*]; done)), H', ⟨Nat.le_refl _⟩, ⟨by (with_reducible repeat (first | apply Kd.R_alloc | apply Kd.R_drewN | apply Kd.R_drew)); exact HO264.out⟩, ⟨by repeat (first | (with_reducible first | exact HB.out | apply below_alloc | apply pw_below_drewN | apply below_drew1) | exact HB.out)⟩⟩
 case round =>
  clear H'
  try clear p2
  try clear c3
  obtain ⟨x18_1, rfl, HA, HK1, HO_16, HB⟩ := hrel
  cases gk with
  | zero => exact absurd HA.out (by simp [parrot_Pair.l0])
  | succ k1 =>
   have H := HA.out
   clear HA
   simp only [parrot_Pair.l0] at H
   by_cases c6 : x18_1 < (y262.length : Int)
   ·rw [if_pos c6] at H
    have c6b0 : decide (x18_1 < (y262.length : Int)) = true := decide_eq_true c6
    clear c6
    by_cases c7 : 0 ≤ x18_1
    ·rw [if_pos c7] at H
     have c7b0 : decide (0 ≤ x18_1) = true := decide_eq_true c7
     clear c7
     by_cases c8 : x18_1 < (y262.length : Int)
     ·rw [if_pos c8] at H
      have c8b0 : decide (x18_1 < (y262.length : Int)) = true := decide_eq_true c8
      clear c8
      replace H := Option.bind_eq_some_iff.mp H
      obtain ⟨t266, A90, H⟩ := H
      replace H : (if t266 = 0 then (parrot_Pair.l0 k1 a0 a1 y262 (y262.length : Int) (wrap64 (x18_1 + 1))) else (some ((⟨#[]⟩ : ByteArray), (⟨#[]⟩ : ByteArray), t266))) = some (r1, r2, r3) := H
      have A9 := Aside0.mk A90
      clear A90
      by_cases c10 : t266 = 0
      ·rw [if_pos c10] at H
       have c10b0 : (t266 == 0) = true := beq_iff_eq.mpr c10
       have c10b1 : (t266 != 0) = false := bne_eq_false_iff_eq.mpr c10
       clear c10
       have H' := Aside0.mk H
       clear H
       have p265 : 0 ≤ (x18_1 : Int) := of_decide_eq_true (by first | (with_reducible assumption) | assumption)
       have q265 : x18_1 < (y262.length : Int) := of_decide_eq_true (by first | (with_reducible assumption) | assumption)
       obtain ⟨ad265, e265, hx265_0⟩ := Kd.at_string (Kd.R_reads' HO_16.out).2.2 x18_1 p265 q265
       cases e265
       replace p265 := eq_true p265
       replace q265 := eq_true q265
       go_wp2_with (first | ((with_reducible refine gate_callee (f := 52) rfl ?_); refine goesL_ (some 23) rfl rfl Tryd.func52 (by kernel_rfl) rfl #[.string (rdOf ByteArray.empty y262 x18_1)] rfl (by (try simp only [List.map_toArray, List.map_cons, List.map_nil]); first | done | rfl | (simp only [List.length_drop, List.length_take]; rfl)) ?_; (with_reducible refine (parrot_digits.calls (rdOf ByteArray.empty y262 x18_1) t266 _ A9.out).mono ?_); rintro e w11 ⟨rfl, hb⟩; refine ⟨_, rfl, ?_⟩; have n0_ := Aside0.mk (Kd.R_below (by (with_reducible repeat (first | apply Kd.R_alloc | apply Kd.R_drewN | apply Kd.R_drew)); exact HO_16.out) hb); have n1_ := Aside0.mk (below_step (by repeat (first | (with_reducible first | exact HB.out | apply below_alloc | apply pw_below_drewN | apply below_drew1) | exact HB.out)) hb); clear HO_16; clear HB; have HO_16 := n0_; have HB := n1_; clear n0_ n1_; (try clear hb); (try clear hb2); (try clear hk); (try clear hi)))
       go_roundg k1
       case measure => have := HK1.out; omega
       case rel => exact ⟨(wrap64 (x18_1 + 1)), (by first | rfl | (simp; done) | (simp [*]; done)), H', ⟨by have := HK1.out; omega⟩, ⟨by (with_reducible repeat (first | apply Kd.R_alloc | apply Kd.R_drewN | apply Kd.R_drew)); exact HO_16.out⟩, ⟨by repeat (first | (with_reducible first | exact HB.out | apply below_alloc | apply pw_below_drewN | apply below_drew1) | exact HB.out)⟩⟩
      ·rw [if_neg c10] at H
       have c10b0 : (t266 == 0) = false := beq_eq_false_iff_ne.mpr c10
       have c10b1 : (t266 != 0) = true := bne_iff_ne.mpr c10
       simp only [Option.some.injEq, Prod.mk.injEq] at H
       obtain ⟨rfl, rfl, rfl⟩ := H
       have p265 : 0 ≤ (x18_1 : Int) := of_decide_eq_true (by first | (with_reducible assumption) | assumption)
       have q265 : x18_1 < (y262.length : Int) := of_decide_eq_true (by first | (with_reducible assumption) | assumption)
       obtain ⟨ad265, e265, hx265_0⟩ := Kd.at_string (Kd.R_reads' HO_16.out).2.2 x18_1 p265 q265
       cases e265
       replace p265 := eq_true p265
       replace q265 := eq_true q265
       go_wp2_with (first | ((with_reducible refine gate_callee (f := 52) rfl ?_); refine goesL_ (some 23) rfl rfl Tryd.func52 (by kernel_rfl) rfl #[.string (rdOf ByteArray.empty y262 x18_1)] rfl (by (try simp only [List.map_toArray, List.map_cons, List.map_nil]); first | done | rfl | (simp only [List.length_drop, List.length_take]; rfl)) ?_; (with_reducible refine (parrot_digits.calls (rdOf ByteArray.empty y262 x18_1) t266 _ A9.out).mono ?_); rintro e w12 ⟨rfl, hb⟩; refine ⟨_, rfl, ?_⟩; have n0_ := Aside0.mk (Kd.R_below (by (with_reducible repeat (first | apply Kd.R_alloc | apply Kd.R_drewN | apply Kd.R_drew)); exact HO_16.out) hb); have n1_ := Aside0.mk (below_step (by repeat (first | (with_reducible first | exact HB.out | apply below_alloc | apply pw_below_drewN | apply below_drew1) | exact HB.out)) hb); clear HO_16; clear HB; have HO_16 := n0_; have HB := n1_; clear n0_ n1_; (try clear hb); (try clear hb2); (try clear hk); (try clear hi)))
       go_ret3
       exact ⟨by first | rfl | (simp [errW_none, errW_some] <;> rfl) | (simp [*, errW_none, errW_some] <;> rfl), by repeat (first | (with_reducible first | exact HB.out | apply below_alloc | apply pw_below_drewN | apply below_drew1) | exact HB.out)⟩
     ·rw [if_neg c8] at H
      exact absurd H (by simp)
    ·rw [if_neg c7] at H
     exact absurd H (by simp)
   ·rw [if_neg c6] at H
    have c6b0 : decide (x18_1 < (y262.length : Int)) = false := decide_eq_false c6
    clear c6
    by_cases c13 : 2 + a0.size ≤ 9223372036854775807
    ·rw [if_pos c13] at H
     have c13b0 := eq_true c13
     have c13b1 : decide (2 + a0.size ≤ 9223372036854775807) = true := decide_eq_true c13
     try have c13b2 : (9223372036854775807 < 2 + a0.size) = False := eq_false (Nat.not_lt.2 c13)
     by_cases c14 : ((⟨#[51, 50]⟩ : ByteArray) ++ a0).size + 1 ≤ 9223372036854775807
     ·rw [if_pos c14] at H
      have c14z := c14
      simp only [ByteArray.size_append, ByteArray.size_extract, Nat.min_self, Int.natCast_add, sz0, sz1, sz2, ic1, ic2] at c14z
      have c14zd := decide_eq_true c14z
      have c14b0 := eq_true c14
      have c14b1 : decide (((⟨#[51, 50]⟩ : ByteArray) ++ a0).size + 1 ≤ 9223372036854775807) = true := decide_eq_true c14
      try have c14b2 : (9223372036854775807 < ((⟨#[51, 50]⟩ : ByteArray) ++ a0).size + 1) = False := eq_false (Nat.not_lt.2 c14)
      by_cases c15 : (((⟨#[51, 50]⟩ : ByteArray) ++ a0) ++ (⟨#[50]⟩ : ByteArray)).size + a1.size ≤ 9223372036854775807
      ·rw [if_pos c15] at H
       have c15z := c15
       simp only [ByteArray.size_append, ByteArray.size_extract, Nat.min_self, Int.natCast_add, sz0, sz1, sz2, ic1, ic2] at c15z
       have c15zd := decide_eq_true c15z
       have c15b0 := eq_true c15
       have c15b1 : decide ((((⟨#[51, 50]⟩ : ByteArray) ++ a0) ++ (⟨#[50]⟩ : ByteArray)).size + a1.size ≤ 9223372036854775807) = true := decide_eq_true c15
       try have c15b2 : (9223372036854775807 < (((⟨#[51, 50]⟩ : ByteArray) ++ a0) ++ (⟨#[50]⟩ : ByteArray)).size + a1.size) = False := eq_false (Nat.not_lt.2 c15)
       by_cases c16 : ((((⟨#[51, 50]⟩ : ByteArray) ++ a0) ++ (⟨#[50]⟩ : ByteArray)) ++ a1).size + 1 ≤ 9223372036854775807
       ·rw [if_pos c16] at H
        have c16z := c16
        simp only [ByteArray.size_append, ByteArray.size_extract, Nat.min_self, Int.natCast_add, sz0, sz1, sz2, ic1, ic2] at c16z
        have c16zd := decide_eq_true c16z
        have c16b0 := eq_true c16
        have c16b1 : decide (((((⟨#[51, 50]⟩ : ByteArray) ++ a0) ++ (⟨#[50]⟩ : ByteArray)) ++ a1).size + 1 ≤ 9223372036854775807) = true := decide_eq_true c16
        try have c16b2 : (9223372036854775807 < ((((⟨#[51, 50]⟩ : ByteArray) ++ a0) ++ (⟨#[50]⟩ : ByteArray)) ++ a1).size + 1) = False := eq_false (Nat.not_lt.2 c16)
        by_cases c17 : 1 + a1.size ≤ 9223372036854775807
        ·rw [if_pos c17] at H
         have c17b0 := eq_true c17
         have c17b1 : decide (1 + a1.size ≤ 9223372036854775807) = true := decide_eq_true c17
         try have c17b2 : (9223372036854775807 < 1 + a1.size) = False := eq_false (Nat.not_lt.2 c17)
         by_cases c18 : ((⟨#[50]⟩ : ByteArray) ++ a1).size + (((((⟨#[51, 50]⟩ : ByteArray) ++ a0) ++ (⟨#[50]⟩ : ByteArray)) ++ a1) ++ (⟨#[51]⟩ : ByteArray)).size ≤ 9223372036854775807
         ·rw [if_pos c18] at H
          have c18z := c18
          simp only [ByteArray.size_append, ByteArray.size_extract, Nat.min_self, Int.natCast_add, sz0, sz1, sz2, ic1, ic2] at c18z
          have c18zd := decide_eq_true c18z
          have c18b0 := eq_true c18
          have c18b1 : decide (((⟨#[50]⟩ : ByteArray) ++ a1).size + (((((⟨#[51, 50]⟩ : ByteArray) ++ a0) ++ (⟨#[50]⟩ : ByteArray)) ++ a1) ++ (⟨#[51]⟩ : ByteArray)).size ≤ 9223372036854775807) = true := decide_eq_true c18
          try have c18b2 : (9223372036854775807 < ((⟨#[50]⟩ : ByteArray) ++ a1).size + (((((⟨#[51, 50]⟩ : ByteArray) ++ a0) ++ (⟨#[50]⟩ : ByteArray)) ++ a1) ++ (⟨#[51]⟩ : ByteArray)).size) = False := eq_false (Nat.not_lt.2 c18)
          replace H := Option.bind_eq_some_iff.mp H
          obtain ⟨⟨t267, t268⟩, A190, H⟩ := H
          replace H : (if t268 = 0 then (if ((((((⟨#[51, 50]⟩ : ByteArray) ++ a0) ++ (⟨#[50]⟩ : ByteArray)) ++ a1) ++ (⟨#[51]⟩ : ByteArray)).size : Int) > 200 then (some ((⟨#[]⟩ : ByteArray), (⟨#[]⟩ : ByteArray), 8)) else (some (((((⟨#[51, 50]⟩ : ByteArray) ++ a0) ++ (⟨#[50]⟩ : ByteArray)) ++ a1) ++ (⟨#[51]⟩ : ByteArray), ((⟨#[50]⟩ : ByteArray) ++ a1) ++ (((((⟨#[51, 50]⟩ : ByteArray) ++ a0) ++ (⟨#[50]⟩ : ByteArray)) ++ a1) ++ (⟨#[51]⟩ : ByteArray)), 0))) else (some ((⟨#[]⟩ : ByteArray), (⟨#[]⟩ : ByteArray), 8))) = some (r1, r2, r3) := H
          have A19 := Aside0.mk A190
          clear A190
          by_cases c20 : t268 = 0
          ·rw [if_pos c20] at H
           have c20b0 : (t268 == 0) = true := beq_iff_eq.mpr c20
           have c20b1 : (t268 != 0) = false := bne_eq_false_iff_eq.mpr c20
           clear c20
           by_cases c21 : ((((((⟨#[51, 50]⟩ : ByteArray) ++ a0) ++ (⟨#[50]⟩ : ByteArray)) ++ a1) ++ (⟨#[51]⟩ : ByteArray)).size : Int) > 200
           ·rw [if_pos c21] at H
            have c21z := c21
            simp only [ByteArray.size_append, ByteArray.size_extract, Nat.min_self, Int.natCast_add, sz0, sz1, sz2, ic1, ic2] at c21z
            have c21zd := decide_eq_true c21z
            have c21b0 : decide (200 < ((((((⟨#[51, 50]⟩ : ByteArray) ++ a0) ++ (⟨#[50]⟩ : ByteArray)) ++ a1) ++ (⟨#[51]⟩ : ByteArray)).size : Int)) = true := decide_eq_true c21
            have c21b1 : decide (200 < (((((⟨#[51, 50]⟩ : ByteArray) ++ a0) ++ (⟨#[50]⟩ : ByteArray)) ++ a1) ++ (⟨#[51]⟩ : ByteArray)).size) = true := decide_eq_true (by omega)
            clear c21
            simp only [Option.some.injEq, Prod.mk.injEq] at H
            obtain ⟨rfl, rfl, rfl⟩ := H
            go_wp2_with (first | ((with_reducible refine gate_callee (f := 49) rfl ?_); refine goesL_ (some 40) rfl rfl Tryd.func49 (by kernel_rfl) rfl #[.string (((⟨#[50]⟩ : ByteArray) ++ a1) ++ (((((⟨#[51, 50]⟩ : ByteArray) ++ a0) ++ (⟨#[50]⟩ : ByteArray)) ++ a1) ++ (⟨#[51]⟩ : ByteArray)))] rfl (by (try simp only [List.map_toArray, List.map_cons, List.map_nil]); first | done | rfl | (simp only [List.length_drop, List.length_take]; rfl)) ?_; (with_reducible refine (parrot_bounded.calls (((⟨#[50]⟩ : ByteArray) ++ a1) ++ (((((⟨#[51, 50]⟩ : ByteArray) ++ a0) ++ (⟨#[50]⟩ : ByteArray)) ++ a1) ++ (⟨#[51]⟩ : ByteArray))) t267 t268 _ A19.out).mono ?_); rintro e w' ⟨rfl, ⟨nd, rfl⟩⟩; refine ⟨_, rfl, ?_⟩))
            go_ret3
            exact ⟨by first | rfl | (simp [errW_none, errW_some] <;> rfl) | (simp [*, errW_none, errW_some] <;> rfl), by repeat (first | (with_reducible first | exact HB.out | apply below_alloc | apply pw_below_drewN | apply below_drew1) | exact HB.out)⟩
           ·rw [if_neg c21] at H
            have c21z := c21
            simp only [ByteArray.size_append, ByteArray.size_extract, Nat.min_self, Int.natCast_add, sz0, sz1, sz2, ic1, ic2] at c21z
            have c21zd := decide_eq_false c21z
            have c21b0 : decide (200 < ((((((⟨#[51, 50]⟩ : ByteArray) ++ a0) ++ (⟨#[50]⟩ : ByteArray)) ++ a1) ++ (⟨#[51]⟩ : ByteArray)).size : Int)) = false := decide_eq_false c21
            have c21b1 : decide (200 < (((((⟨#[51, 50]⟩ : ByteArray) ++ a0) ++ (⟨#[50]⟩ : ByteArray)) ++ a1) ++ (⟨#[51]⟩ : ByteArray)).size) = false := decide_eq_false (by omega)
            clear c21
            simp only [Option.some.injEq, Prod.mk.injEq] at H
            obtain ⟨rfl, rfl, rfl⟩ := H
            go_wp2_with (first | ((with_reducible refine gate_callee (f := 49) rfl ?_); refine goesL_ (some 40) rfl rfl Tryd.func49 (by kernel_rfl) rfl #[.string (((⟨#[50]⟩ : ByteArray) ++ a1) ++ (((((⟨#[51, 50]⟩ : ByteArray) ++ a0) ++ (⟨#[50]⟩ : ByteArray)) ++ a1) ++ (⟨#[51]⟩ : ByteArray)))] rfl (by (try simp only [List.map_toArray, List.map_cons, List.map_nil]); first | done | rfl | (simp only [List.length_drop, List.length_take]; rfl)) ?_; (with_reducible refine (parrot_bounded.calls (((⟨#[50]⟩ : ByteArray) ++ a1) ++ (((((⟨#[51, 50]⟩ : ByteArray) ++ a0) ++ (⟨#[50]⟩ : ByteArray)) ++ a1) ++ (⟨#[51]⟩ : ByteArray))) t267 t268 _ A19.out).mono ?_); rintro e w' ⟨rfl, ⟨nd, rfl⟩⟩; refine ⟨_, rfl, ?_⟩))
            go_ret3
            exact ⟨by first | rfl | (simp [errW_none, errW_some] <;> rfl) | (simp [*, errW_none, errW_some] <;> rfl), by repeat (first | (with_reducible first | exact HB.out | apply below_alloc | apply pw_below_drewN | apply below_drew1) | exact HB.out)⟩
          ·rw [if_neg c20] at H
           have c20b0 : (t268 == 0) = false := beq_eq_false_iff_ne.mpr c20
           have c20b1 : (t268 != 0) = true := bne_iff_ne.mpr c20
           simp only [Option.some.injEq, Prod.mk.injEq] at H
           obtain ⟨rfl, rfl, rfl⟩ := H
           go_wp2_with (first | ((with_reducible refine gate_callee (f := 49) rfl ?_); refine goesL_ (some 40) rfl rfl Tryd.func49 (by kernel_rfl) rfl #[.string (((⟨#[50]⟩ : ByteArray) ++ a1) ++ (((((⟨#[51, 50]⟩ : ByteArray) ++ a0) ++ (⟨#[50]⟩ : ByteArray)) ++ a1) ++ (⟨#[51]⟩ : ByteArray)))] rfl (by (try simp only [List.map_toArray, List.map_cons, List.map_nil]); first | done | rfl | (simp only [List.length_drop, List.length_take]; rfl)) ?_; (with_reducible refine (parrot_bounded.calls (((⟨#[50]⟩ : ByteArray) ++ a1) ++ (((((⟨#[51, 50]⟩ : ByteArray) ++ a0) ++ (⟨#[50]⟩ : ByteArray)) ++ a1) ++ (⟨#[51]⟩ : ByteArray))) t267 t268 _ A19.out).mono ?_); rintro e w' ⟨rfl, ⟨nd, rfl⟩⟩; refine ⟨_, rfl, ?_⟩))
           go_ret3
           exact ⟨by first | rfl | (simp [errW_none, errW_some] <;> rfl) | (simp [*, errW_none, errW_some] <;> rfl), by repeat (first | (with_reducible first | exact HB.out | apply below_alloc | apply pw_below_drewN | apply below_drew1) | exact HB.out)⟩
         ·rw [if_neg c18] at H
          have c18z := c18
          simp only [ByteArray.size_append, ByteArray.size_extract, Nat.min_self, Int.natCast_add, sz0, sz1, sz2, ic1, ic2] at c18z
          have c18zd := decide_eq_false c18z
          exact absurd H (by simp)
        ·rw [if_neg c17] at H
         exact absurd H (by simp)
       ·rw [if_neg c16] at H
        have c16z := c16
        simp only [ByteArray.size_append, ByteArray.size_extract, Nat.min_self, Int.natCast_add, sz0, sz1, sz2, ic1, ic2] at c16z
        have c16zd := decide_eq_false c16z
        exact absurd H (by simp)
      ·rw [if_neg c15] at H
       have c15z := c15
       simp only [ByteArray.size_append, ByteArray.size_extract, Nat.min_self, Int.natCast_add, sz0, sz1, sz2, ic1, ic2] at c15z
       have c15zd := decide_eq_false c15z
       exact absurd H (by simp)
     ·rw [if_neg c14] at H
      have c14z := c14
      simp only [ByteArray.size_append, ByteArray.size_extract, Nat.min_self, Int.natCast_add, sz0, sz1, sz2, ic1, ic2] at c14z
      have c14zd := decide_eq_false c14z
      exact absurd H (by simp)
    ·rw [if_neg c13] at H
     exact absurd H (by simp)


end Go.Proofs.YtcjbnonjhahakaaDoor.Print
-- c0z_done
