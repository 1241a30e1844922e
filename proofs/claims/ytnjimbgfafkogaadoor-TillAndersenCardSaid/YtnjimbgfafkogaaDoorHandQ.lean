import Derived.Test.YtnjimbgfafkogaaDoorProg
import Derived.Below
import Derived.Deep.Draws
import Derived.Deep.AppendLies
import Derived.Maps.AppendAt
import Derived.OwnWalk
import Derived.Laws.BytesArg
import Derived.Laws.MakeOwn
import Derived.Laws.OwnMore
import Derived.Deep.OwnRows
import Derived.Tactics
import Derived.Lib.ConvBytes
import Derived.Laws.Slices
import Derived.WalkKit
import Derived.KernelRfl
import Derived.RowKit3
import Derived.Deep.LoopGhost
import Derived.Deep.QuietTactic
import Derived.BigQuiet
import Derived.WideLaws
import Derived.Deep.DeepCutAuto
import Derived.Deep.CutBlock
import Derived.Deep.RegionHeld3
import Derived.Laws.Rows
import Derived.Lib.AppendStr
import Derived.ArgAppend
import Derived.Laws.IdiomCopy
import Derived.OrdersHeld
import Derived.Laws.BitsLemmas
import Derived.RowKit
import Derived.Test.YtnjimbgfafkogaaDoorWWords
import Derived.Test.YtnjimbgfafkogaaDoorWLast
import Derived.Test.YtnjimbgfafkogaaDoorWTab
import Derived.Test.YtnjimbgfafkogaaDoorWFour
import Derived.Test.YtnjimbgfafkogaaDoorWQPut
import Derived.Test.YtnjimbgfafkogaaDoorWApart
import Derived.Test.YtnjimbgfafkogaaDoorWArr
import Derived.Test.YtnjimbgfafkogaaDoorWZeros
import Derived.Test.YtnjimbgfafkogaaDoorWFoot
import Derived.Test.YtnjimbgfafkogaaDoorWKept
import Derived.Test.YtnjimbgfafkogaaDoorWShare
import Derived.Test.YtnjimbgfafkogaaDoorWN
import Derived.Test.YtnjimbgfafkogaaDoorWFootNe
import Derived.Test.YtnjimbgfafkogaaDoorWAt
import Derived.Test.YtnjimbgfafkogaaDoorWEqStruct
import Derived.Test.YtnjimbgfafkogaaDoorWRepsOne
import Derived.Test.YtnjimbgfafkogaaDoorWInv
import Derived.Test.YtnjimbgfafkogaaDoorWInvWords
import Derived.Test.YtnjimbgfafkogaaDoorWGuard
import Derived.Test.YtnjimbgfafkogaaDoorWNEv
import Derived.Test.YtnjimbgfafkogaaDoorWMore
import Derived.Test.YtnjimbgfafkogaaDoorHandO
namespace Go.Proofs.YtnjimbgfafkogaaDoor.Hand
open Go.RowKit Go.Proofs.YtnjimbgfafkogaaDoorW.PrintWords Go.Proofs.YtnjimbgfafkogaaDoorW.PrintLast Go.Proofs.YtnjimbgfafkogaaDoorW.PrintMore
set_option linter.unusedVariables false
set_option linter.unusedSimpArgs false

/-! Spread, the reference's and the program's. -/
open Go.Proofs.YtnjimbgfafkogaaDoor.Math Go.Proofs.YtnjimbgfafkogaaDoor.Pure Go.Proofs.YtnjimbgfafkogaaDoor.Hi Go.Proofs.YtnjimbgfafkogaaDoor.Pre Go.Proofs.YtnjimbgfafkogaaDoor.Base Go.Proofs.YtnjimbgfafkogaaDoor.Print
def tabL (g : Nat → Nat) (n : Nat) : List Int := (List.range n).map fun j => ((g j : Nat) : Int)
theorem tabV_L (g : Nat → Nat) (n : Nat) : (tabV g n).toList = nums .i64 (tabL g n) := by simp [tabV, tabL, nums]
theorem tabL_length (g : Nat → Nat) (n : Nat) : (tabL g n).length = n := by simp [tabL]
theorem made_tab (n : Nat) : madeCells #[Value.int .i64 0] n = tabV (fun _ => 0) n := by
  have h1 : (madeCells #[Value.int .i64 0] n).toList = nums .i64 (List.replicate n 0) := by
    apply List.ext_getElem
    · simp [nums, madeCells]
    · intro i h1 h2
      simp [nums, madeCells, Nat.mod_one]
  apply Array.ext'
  rw [h1, tabV_L]
  congr 1
  apply List.ext_getElem
  · simp [tabL]
  · intro i h1 h2
    simp [tabL]
theorem own_tab {w : World} {b base : Nat} {g : Nat → Nat} {n : Nat} (h : w.heap[b]? = some (.cells (tabV g n) 3)) (hb : base ≤ b) (hn : n ≤ 1000000) : Kd.R (Kd.int .i64) 3 w base (fun _ => True) (.slice (some ⟨b, 0, none⟩) n n) (tabL g n) := by
  refine own_R (n := n) ⟨by simp [nums, tabL], .inr ⟨b, n, tabV g n, rfl, hb, h, Nat.le_refl _, by unfold maxLen; omega, by simp [tabV], ?_⟩⟩ (tabL_length g n)
  rw [tabV_L, List.take_of_length_le (by simp [nums, tabL])]
def spreadR (l : List Int) (W : List (List Int)) : List Int × List Int × Int := if amountsE l = 0 then (if l.length > 8 then ([], [], 8) else (tabL (cnt (pos 0) (fun _ => 0) W) (l.length + 1), tabL (cnt fst (fun _ => 0) W) (l.length + 1), 0)) else ([], [], amountsE l)
def pomaderef09_Spread.f (l : List Int) : Option (List Int × List Int × Int) := if l.length ≤ 1000 then some (spreadR l (gen (fun l i => l.eraseIdx i) l.length l)) else none
theorem remF_zero : ∀ (l : List Int) (i : Nat), remF 0 i l = l
  | [], _ => rfl
  | x :: t, i => by rw [remF, Nat.zero_testBit, if_neg (by decide), remF_zero t]
theorem fact_8 {n : Nat} (h : n ≤ 8) : fact n ≤ 40320 := by
  match n, h with
  | 0, _ => decide
  | 1, _ => decide
  | 2, _ => decide
  | 3, _ => decide
  | 4, _ => decide
  | 5, _ => decide
  | 6, _ => decide
  | 7, _ => decide
  | 8, _ => decide
theorem two_tabs (w : World) (n : Nat) : (((w.alloc (.cells (madeCells #[.int .i64 0] n) 3)).alloc (.cells (madeCells #[.int .i64 0] n) 3))).heap[w.heap.size]? = some (.cells (tabV (fun _ => 0) n) 3) ∧
    (((w.alloc (.cells (madeCells #[.int .i64 0] n) 3)).alloc (.cells (madeCells #[.int .i64 0] n) 3))).heap[w.heap.size + 1]? = some (.cells (tabV (fun _ => 0) n) 3) := by
  have e1 : (w.alloc (.cells (madeCells #[.int .i64 0] n) 3)).heap.size = w.heap.size + 1 := by simp
  have n0 := heap_alloc_new w (.cells (madeCells #[.int .i64 0] n) 3)
  have n1 := heap_alloc_new (w.alloc (.cells (madeCells #[.int .i64 0] n) 3)) (.cells (madeCells #[.int .i64 0] n) 3)
  rw [e1] at n1
  rw [made_tab] at n0 n1 ⊢
  exact ⟨(Below.heap_alloc _ _ _ (by simp)).trans n0, n1⟩
set_option maxHeartbeats 1000000 in
set_option maxRecDepth 100000 in
theorem pomaderef09_Spread.calls (A0 : Option Addr) (c0 : Nat) (l0 : List Int) (r1 r2 : List Int) (r3 : Int) (w : World) (hr0 : Kd.C (Kd.int .i64) w A0 l0.length l0) (hc0 : l0.length ≤ c0) (h : pomaderef09_Spread.f l0 = some (r1, r2, r3)) :
    Calls Tryd.prog 47 #[.slice A0 l0.length c0] w fun e w' => ∃ v0_ v1_ : Value, e = .returned (.tuple #[v0_, v1_, .int .i64 r3]) ∧ Kd.R (Kd.int .i64) 3 w' w.heap.size (fun _ => True) v0_ r1 ∧ Kd.R (Kd.int .i64) 3 w' w.heap.size (fun _ => True) v1_ r2 ∧ Below w.heap.size w w' := by
  unfold pomaderef09_Spread.f at h
  by_cases hl : l0.length ≤ 1000
  · rw [if_pos hl] at h
    replace h := Option.some.inj h
    obtain ⟨k, hk⟩ := Ev.rounds (ev_Amounts l0 hl)
    have ham := fun w h1 => pomaderef09_Amounts.calls k A0 c0 l0 _ w h1 hc0 hk
    have HC := Aside0.mk hr0
    unfold spreadR at h
    by_cases h0 : amountsE l0 = 0
    · rw [if_pos h0] at h
      rw [h0] at ham
      by_cases h8 : l0.length > 8
      · rw [if_pos h8] at h
        simp only [Prod.mk.injEq] at h
        obtain ⟨rfl, rfl, rfl⟩ := h
        have hd : (8 : Int) < (l0.length : Int) := by omega
        clear hk hr0 h0
        go_enter Tryd.func47, Tryd.ntmps47
        go_wp2_with (first | (go_at_call 28; go_loud (refine (ham _ HC.out).mono ?_; rintro e w1 ⟨rfl, ⟨nd, rfl⟩⟩)))
        go_ret3
        exact ⟨_, _, rfl, Kd.R_nil _ _ _ _ _, Kd.R_nil _ _ _ _ _, pw_below_drewN (Below.refl _ _) _⟩
      · rw [if_neg h8] at h
        simp only [Prod.mk.injEq] at h
        obtain ⟨rfl, rfl, rfl⟩ := h
        have hd : ¬ ((8 : Int) < (l0.length : Int)) := by omega
        have info3 : (Tryd.prog.info? 3).map (fun i => (i.zero, i.size, i.bytes)) = some (some (.int .i64 0), 1, 8) := by kernel_rfl
        have hmk : ∀ W : World, (Instr.makeSlice 22 (.int .i64 ((l0.length : Int) + 1)) (.int .i64 ((l0.length : Int) + 1))).run Tryd.prog W = .ok (.slice (some ⟨W.heap.size, 0, none⟩) (l0.length + 1) (l0.length + 1)) (W.alloc (.cells (madeCells #[.int .i64 0] (l0.length + 1)) 3)) := by
          have := print_make (P := Tryd.prog) 22 3 .i64 8 Tryd.underlying22 info3 (by decide) (l0.length + 1) (by omega)
          rw [Int.natCast_succ] at this
          exact this
        have hw1 : wrap64 ((l0.length : Int) + 1) = (l0.length : Int) + 1 := by rw [w64 (by omega)]
        have hb := (amounts_ok h0).2
        have HB0 := Aside0.mk hb
        clear hk hr0 h0 hb
        go_enter Tryd.func47, Tryd.ntmps47
        go_wp2_with (first | (go_at_call 28; go_loud (refine (ham _ HC.out).mono ?_; rintro e w1 ⟨rfl, ⟨nd, rfl⟩⟩)))
        have h8' : l0.length ≤ 8 := by omega
        have hfa : fact l0.length ≤ 40320 := fact_8 h8'
        have hN : Nat.succ l0.length = l0.length + 1 := rfl
        go_region
        all_goals go_wp2_with (first | (go_at_call 71; go_loud (refine (orders1 w A0 c0 l0 HC.out hc0 h8' HB0.out _ _ (by first | exact Nat.le_refl _ | exact Nat.le_succ _) (by first | exact Nat.le_refl _ | exact Nat.le_succ _) (by first | exact Nat.succ_ne_self _ | exact (Nat.succ_ne_self _).symm) l0.length [] (.slice none 0 0) none 0 0 (fun _ => 0) (fun _ => 0) _ (by simp) (by rw [remF_zero]) (Nat.two_pow_pos _) (fun x hx => by cases hx) (fun j => by constructor <;> omega) ⟨by repeat (first | exact Below.refl _ _ | apply below_alloc | apply pw_below_drewN | apply below_drew1), by first | exact (two_tabs (w.drewN nd) _).1 | exact (two_tabs (w.drewN nd) _).2, by first | exact (two_tabs (w.drewN nd) _).2 | exact (two_tabs (w.drewN nd) _).1⟩ rfl (own_nil _ _ _ _) (fun j hj => by cases hj)).mono ?_; rintro e w5 ⟨rfl, hS5, hK5⟩; have HS5 := Aside0.mk hS5; clear hS5 hK5)))
        all_goals go_ret3
        all_goals rw [remF_zero, show ((gen (fun l i => l.eraseIdx i) l0.length l0).map (([] : List Int) ++ ·)) = gen (fun l i => l.eraseIdx i) l0.length l0 by simp] at HS5
        all_goals exact ⟨_, _, rfl, own_tab HS5.out.hm (by first | exact Nat.le_refl _ | exact Nat.le_succ _) (by omega), own_tab HS5.out.hf (by first | exact Nat.le_refl _ | exact Nat.le_succ _) (by omega), HS5.out.below⟩
    · rw [if_neg h0] at h
      simp only [Prod.mk.injEq] at h
      obtain ⟨rfl, rfl, rfl⟩ := h
      have hd : ((amountsE l0) == 0) = false := beq_eq_false_iff_ne.2 h0
      clear hk hr0
      go_enter Tryd.func47, Tryd.ntmps47
      go_wp2_with (first | (go_at_call 28; go_loud (refine (ham _ HC.out).mono ?_; rintro e w1 ⟨rfl, ⟨nd, rfl⟩⟩)))
      go_ret3
      exact ⟨_, _, rfl, Kd.R_nil _ _ _ _ _, Kd.R_nil _ _ _ _ _, pw_below_drewN (Below.refl _ _) _⟩
  · rw [if_neg hl] at h; cases h

end Go.Proofs.YtnjimbgfafkogaaDoor.Hand
