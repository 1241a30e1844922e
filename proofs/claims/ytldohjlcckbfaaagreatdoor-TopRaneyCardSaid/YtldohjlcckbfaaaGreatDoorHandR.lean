/- TopRaney, by hand: its walk over what Turn, Raney and seated come to. -/
import Derived.Test.YtldohjlcckbfaaaGreatDoorProg
import Derived.Below
import Derived.Deep.Draws
import Derived.Deep.AppendLies
import Derived.Maps.AppendAt
import Derived.OwnWalk
import Derived.Laws.BytesArg
import Derived.Laws.MakeOwn
import Derived.Laws.OwnMore
import Derived.Deep.OwnRows
import Derived.Tactics
import Derived.Lib.ConvBytes
import Derived.Laws.Slices
import Derived.WalkKit
import Derived.KernelRfl
import Derived.RowKit3
import Derived.Deep.LoopGhost
import Derived.Deep.QuietTactic
import Derived.BigQuiet
import Derived.WideLaws
import Derived.Deep.DeepCutAuto
import Derived.Deep.CutBlock
import Derived.Deep.RegionHeld3
import Derived.Laws.Rows
import Derived.Lib.AppendStr
import Derived.ArgAppend
import Derived.Laws.IdiomCopy
import Derived.OrdersHeld
import Derived.Laws.BitsLemmas
import Derived.RowKit
import Derived.Test.YtldohjlcckbfaaaGreatDoorWWords
import Derived.Test.YtldohjlcckbfaaaGreatDoorWLast
import Derived.Test.YtldohjlcckbfaaaGreatDoorWTab
import Derived.Test.YtldohjlcckbfaaaGreatDoorWFour
import Derived.Test.YtldohjlcckbfaaaGreatDoorWQPut
import Derived.Test.YtldohjlcckbfaaaGreatDoorWApart
import Derived.Test.YtldohjlcckbfaaaGreatDoorWArr
import Derived.Test.YtldohjlcckbfaaaGreatDoorWZeros
import Derived.Test.YtldohjlcckbfaaaGreatDoorWFoot
import Derived.Test.YtldohjlcckbfaaaGreatDoorWKept
import Derived.Test.YtldohjlcckbfaaaGreatDoorWShare
import Derived.Test.YtldohjlcckbfaaaGreatDoorWN
import Derived.Test.YtldohjlcckbfaaaGreatDoorWFootNe
import Derived.Test.YtldohjlcckbfaaaGreatDoorWAt
import Derived.Test.YtldohjlcckbfaaaGreatDoorWEqStruct
import Derived.Test.YtldohjlcckbfaaaGreatDoorWRepsOne
import Derived.Test.YtldohjlcckbfaaaGreatDoorWInv
import Derived.Test.YtldohjlcckbfaaaGreatDoorWInvWords
import Derived.Test.YtldohjlcckbfaaaGreatDoorWGuard
import Derived.Test.YtldohjlcckbfaaaGreatDoorWNEv
import Derived.Test.YtldohjlcckbfaaaGreatDoorWMore
import Derived.Test.YtldohjlcckbfaaaGreatDoorHandN
import Derived.Lib.Hide
import Derived.Lib.SliceRun
namespace Go.Proofs.YtldohjlcckbfaaaGreatDoor.Hand
open Go.RowKit Go.Proofs.YtldohjlcckbfaaaGreatDoorW.PrintWords Go.Proofs.YtldohjlcckbfaaaGreatDoorW.PrintLast Go.Proofs.YtldohjlcckbfaaaGreatDoorW.PrintMore
set_option linter.unusedVariables false
set_option linter.unusedSimpArgs false

open Go.Proofs.YtldohjlcckbfaaaGreatDoor.Pre
abbrev SeatedSaid : Prop := ∀ w, Calls Tryz.prog 5 #[] w fun e w' => e = .returned (.bool true) ∧ Below w.heap.size w w'
/-- 1 less the customers, from the last place of the circle down to the first. -/
def amt (C : List Int) (n : Nat) : List Int := (List.range (n + 1)).map fun (i : Nat) => 1 - rd C ((n - i : Nat) : Int)
theorem amt_length (C : List Int) (n : Nat) : (amt C n).length = n + 1 := by simp [amt]
theorem amt_take (C : List Int) (n i : Nat) (h : i < n + 1) : (amt C n).take (i + 1) = (amt C n).take i ++ [1 - rd C ((n - i : Nat) : Int)] := by
  have e : (amt C n)[i]? = some (1 - rd C ((n - i : Nat) : Int)) := by unfold amt; rw [List.getElem?_map, List.getElem?_range h]; rfl
  rw [List.take_add_one, e]; rfl
set_option maxHeartbeats 4000000 in
set_option maxRecDepth 100000 in
theorem raney_out (hS : SeatedSaid) (A0 : Option Addr) (c0 : Nat) (l0 : List Int) (w : World) (h : l0.length < 1 ∨ 30 < l0.length) :
    Calls Tryz.prog 3 #[.slice A0 l0.length c0] w fun e w' => e = .returned (.bool true) ∧ Below w.heap.size w w' := by
  have HS := Lib.hid hS
  clear hS
  by_cases h1 : l0.length < 1
  · have c1 : decide ((l0.length : Int) < 1) = true := decide_eq_true (by omega)
    go_enter Tryz.func3, Tryz.ntmps3
    go_wp2_with (go_at_call 5; refine (HS.out _).mono ?_; rintro e w1 ⟨rfl, hb⟩)
    go_ret
    exact ⟨rfl, hb⟩
  · have c1 : decide ((l0.length : Int) < 1) = false := decide_eq_false (by omega)
    have c2 : decide ((30 : Int) < (l0.length : Int)) = true := decide_eq_true (by omega)
    go_enter Tryz.func3, Tryz.ntmps3
    go_wp2_with (go_at_call 5; refine (HS.out _).mono ?_; rintro e w1 ⟨rfl, hb⟩)
    go_ret
    exact ⟨rfl, hb⟩
set_option maxHeartbeats 4000000 in
set_option maxRecDepth 100000 in
theorem raney_nil (hS : SeatedSaid) (A0 : Option Addr) (c0 : Nat) (l0 : List Int) (w : World) (hr0 : Kd.C (Kd.int .i64) w A0 l0.length l0) (n1 : 1 ≤ l0.length) (n2 : l0.length ≤ 30) (hbad : l0.any (outB · l0.length) = true) :
    Calls Tryz.prog 3 #[.slice A0 l0.length c0] w fun e w' => e = .returned (.bool true) ∧ Below w.heap.size w w' := by
  have HS := Lib.hid hS
  have HC := Aside0.mk hr0
  have HBad := Aside0.mk hbad
  clear hS hr0 hbad
  have qT : ∀ (w : World) (a : Option Addr) (n c n' c' : Nat), (binOp .eql 22 (.slice a n c) (.slice none n' c')).run Tryz.prog w = .ok (.bool a.isNone) w := fun w a n c n' c' => Lib.run_eql_slice_nil w _ _ a n c n' c' Tryz.underlying22
  have c1 : decide ((l0.length : Int) < 1) = false := decide_eq_false (by omega)
  have c2 : decide ((30 : Int) < (l0.length : Int)) = false := decide_eq_false (by omega)
  go_enter Tryz.func3, Tryz.ntmps3
  go_wp2_with (first | (go_at_call 6; refine (counted_calls A0 _ l0 l0.length _ HC.out (by omega) (by omega)).mono ?_; rintro e w1 ⟨he, _, hb1⟩; have HB1 := Aside0.mk hb1; clear hb1; obtain rfl := he HBad.out; clear he) | (go_at_call 5; refine (HS.out _).mono ?_; rintro e w2 ⟨rfl, hb⟩))
  go_ret
  exact ⟨rfl, HB1.out.trans (hb.mono HB1.out.size)⟩
set_option maxHeartbeats 8000000 in
set_option maxRecDepth 100000 in
theorem raney_in (hS : SeatedSaid) (A0 : Option Addr) (c0 : Nat) (l0 : List Int) (w : World) (hr0 : Kd.C (Kd.int .i64) w A0 l0.length l0) (n1 : 1 ≤ l0.length) (n2 : l0.length ≤ 30) (hok : l0.any (outB · l0.length) = false)
    (r : Int) (hG : ∀ w', Kd.C (Kd.int .i64) w' A0 l0.length l0 → Calls Tryz.prog 7 #[.int .i64 l0.length, .slice A0 l0.length c0] w' fun e w'' => e = .returned (.tuple #[.int .i64 r, .int .i64 0]) ∧ Below w'.heap.size w' w'')
    (hR : ∀ (w' : World) (B : Option Addr) (c : Nat), Kd.C (Kd.int .i64) w' B (l0.length + 1) (amt (cnt l0 l0.length ++ [0]) l0.length) → l0.length + 1 ≤ c → Calls Tryz.prog 8 #[.slice B (l0.length + 1) c] w' fun e w'' => e = .returned (.tuple #[.int .i64 r, .int .i64 0]) ∧ Below w'.heap.size w' w'') :
    Calls Tryz.prog 3 #[.slice A0 l0.length c0] w fun e w' => e = .returned (.bool true) ∧ Below w.heap.size w w' := by
  have HS := Lib.hid hS
  have HC := Aside0.mk hr0
  have HOk := Aside0.mk hok
  have HG := Lib.hid hG
  have HRo := Lib.hid hR
  clear hS hr0 hok hG hR
  have qT : ∀ (w : World) (a : Option Addr) (n c n' c' : Nat), (binOp .eql 22 (.slice a n c) (.slice none n' c')).run Tryz.prog w = .ok (.bool a.isNone) w := fun w a n c n' c' => Lib.run_eql_slice_nil w _ _ a n c n' c' Tryz.underlying22
  have info3 : (Tryz.prog.info? 3).map (fun i => (i.zero, i.size, i.bytes)) = some (some (.int .i64 0), 1, 8) := by kernel_rfl
  obtain ⟨i0, hi, hz0, hz1, hz2⟩ := info_parts info3
  have c1 : decide ((l0.length : Int) < 1) = false := decide_eq_false (by omega)
  have c2 : decide ((30 : Int) < (l0.length : Int)) = false := decide_eq_false (by omega)
  have HL := Aside0.mk (cnt_length l0 l0.length)
  obtain ⟨n, hn⟩ : ∃ n, l0.length = n := ⟨_, rfl⟩
  obtain ⟨q, hq⟩ : ∃ q, w.heap.size = q := ⟨_, rfl⟩
  have HN := Aside0.mk hn
  have HQ := Aside0.mk hq
  have HCl : Aside0 (∀ x ∈ cnt l0 n ++ [(0 : Int)], 0 ≤ x ∧ x ≤ 30) := ⟨by
    intro x hx
    rcases List.mem_append.1 hx with h | h
    · unfold cnt at h
      obtain ⟨k, _, rfl⟩ := List.mem_map.1 h
      have := List.countP_le_length (p := fun x => decide (x = (k : Int))) (l := l0)
      omega
    · rw [List.mem_singleton.1 h]; omega⟩
  clear hq
  go_enter Tryz.func3, Tryz.ntmps3
  clear hn
  go_wp2_with (first | (go_at_call 6; refine (counted_calls A0 _ l0 l0.length _ HC.out (by omega) (by omega)).mono ?_; rintro e w1 ⟨_, he, hb1⟩; have HB1 := Aside0.mk hb1; clear hb1; obtain ⟨rfl, ho⟩ := he HOk.out; have HO1 := Aside0.mk ho; clear he ho) | (at_builtin; refine wpList_append_own _ rfl _ _ 22 rfl w.heap.size 3 i0 (.int .i64 0) 1 8 Tryz.underlying22 hi hz0 hz1 hz2 rfl (by decide) _ _ _ rfl (HO1.out.alloc _) ⟨w1.heap.size, 0, none⟩ 1 1 [.int .i64 0] rfl rfl ?c1 ?c2 ?c3 ?c4 ?c5 ?_))
  case c1 => exact cell_one_new _ _ _
  case c2 => intro u hu; simp at hu; subst hu; rfl
  case c3 => unfold maxLen; omega
  case c4 => omega
  case c5 => have := HB1.out.size; simp; omega
  intro v2 w2 hown2 hgr2 _
  have HB2 := Aside0.mk (pw_below_grown (below_alloc HB1.out _) _ (by have := HB1.out.size; simp; omega) hgr2 (fun k hk => own_base HO1.out k hk))
  have hO2 : w2.ownsRow w.heap.size 3 1 v2 (l0.length + 1) (nums .i64 (cnt l0 l0.length ++ [0])) := by rw [nums_append]; exact hown2
  obtain ⟨g2, cap2, rfl, hgb, hg2⟩ : ∃ g2 cap2, v2 = .slice (some ⟨g2, 0, none⟩) (l0.length + 1) cap2 ∧ w.heap.size ≤ g2 ∧ g2 < w2.heap.size := by
    rcases hO2.2 with ⟨_, h⟩ | ⟨g, cap, cur, rfl, hg, hh, _⟩
    · omega
    · exact ⟨g, cap, rfl, hg, (Array.getElem?_eq_some_iff.1 hh).1⟩
  have HO2 := Aside0.mk hO2
  clear hown2 hgr2 hO2 HO1 HB1 qT
  have HO0 := Aside0.mk (own_nil w2 w2.heap.size 3 1)
  go_wp2
  obtain ⟨B2, hB2⟩ : ∃ B2, w2.heap.size = B2 := ⟨_, rfl⟩
  have hqB : w.heap.size ≤ B2 := by rw [← hB2]; exact HB2.out.size
  rw [hB2] at HO0 hg2
  rw [HQ.out] at HO2 hgb hqB
  have HBq : Aside0 (Below q w w2) := ⟨by rw [← HQ.out]; exact HB2.out⟩
  have hBl : B2 ≤ w2.heap.size := by omega
  clear hB2 HB2
  obtain ⟨C, hC⟩ : ∃ C, cnt l0 l0.length ++ [(0 : Int)] = C := ⟨_, rfl⟩
  have HCe := Aside0.mk hC
  have hCl : C.length = l0.length + 1 := by rw [← hC, List.length_append, HL.out]; rfl
  have HCL := Aside0.mk hCl
  rw [← HN.out] at HCl
  rw [hC] at HO2 HCl
  clear hC hCl
  go_loopg [5, 6] (l0.length + 1) (fun gz v5 v6 wr => ∃ (i : Nat), v6 = .int .i64 i ∧ i + gz = l0.length + 1 ∧ Aside0 (wr.ownsRow B2 3 1 v5 i (nums .i64 ((amt C l0.length).take i))) ∧ Aside0 (Below q w wr) ∧ Aside0 (wr.ownsRow q 3 1 (.slice (some ⟨g2, 0, none⟩) (l0.length + 1) cap2) (l0.length + 1) (nums .i64 C)) ∧ B2 ≤ wr.heap.size)
  case atStart => exact ⟨0, rfl, by omega, ⟨by rw [List.take_zero]; exact HO0.out⟩, HBq, HO2, hBl⟩
  case round =>
    clear HO0 HBq HO2 hBl
    obtain ⟨i, rfl, hig, HV, HB, HO, hBl⟩ := hrel
    by_cases hlt : i < l0.length + 1
    · obtain ⟨gg, rfl⟩ : ∃ gg, gk = gg + 1 := ⟨gk - 1, by omega⟩
      have hd : decide (i ≤ l0.length) = true := decide_eq_true (by omega)
      have hile : i ≤ l0.length := by omega
      obtain ⟨D, hD⟩ : ∃ D, l0.length - i = D := ⟨_, rfl⟩
      have HT := Aside0.mk (amt_take C l0.length i hlt)
      rw [hD] at HT
      have hDl : D < l0.length + 1 := by omega
      have hs := (own_at HO.out (D : Int) (by omega) (by omega)).1
      rw [Int.toNat_natCast] at hs
      have hxm : rd C (D : Int) ∈ C := by
        have e : rd C (D : Int) = C[D]'(by rw [HCL.out]; exact hDl) := by unfold rd; rw [Int.toNat_natCast, List.getD_eq_getElem?_getD, List.getElem?_eq_getElem (by rw [HCL.out]; exact hDl)]; rfl
        rw [e]; exact List.getElem_mem _
      have hx := HCl.out _ hxm
      obtain ⟨x, hxe⟩ : ∃ x, rd C (D : Int) = x := ⟨_, rfl⟩
      rw [hxe] at hs HT hx
      rw [← hD] at hs
      have hx0 := hx.1
      have hx1 := hx.2
      have HWX := Aside0.mk (show wrap64 (1 - x) = 1 - x by unfold wrap64; omega)
      have HWI := Aside0.mk (show wrap64 ((i : Int) + 1) = (i : Int) + 1 by unfold wrap64; omega)
      clear hxm hx hxe hD
      have hwx := HWX.out
      go_wp2_with (at_builtin; clear hwx; refine wpList_append_own _ rfl _ _ 22 rfl B2 3 i0 (.int .i64 0) 1 8 Tryz.underlying22 hi hz0 hz1 hz2 rfl (by decide) _ _ _ rfl (HV.out.alloc _) ⟨wr.heap.size, 0, none⟩ 1 1 [.int .i64 (1 - x)] rfl rfl ?c1 ?c2 ?c3 ?c4 ?c5 ?_)
      case c1 => exact cell_one_new _ _ _
      case c2 => intro u hu; simp at hu; subst hu; rfl
      case c3 => unfold maxLen; omega
      case c4 => omega
      case c5 => simp; omega
      intro v3 w3 hown3 hgr3 _
      have HB3 := Aside0.mk (pw_below_grown (HB.out.alloc (Nat.le_trans hqB hBl) _) _ (by simp; omega) hgr3 (fun k hk => by have := own_base HV.out k hk; omega))
      have HV3 : Aside0 (w3.ownsRow B2 3 1 v3 (i + 1) (nums .i64 ((amt C l0.length).take (i + 1)))) := ⟨by rw [HT.out, nums_append]; exact hown3⟩
      have HO3 := Aside0.mk (own_other (HO.out.alloc _) hgr3 (.inr (fun e => by
        have := own_base HV.out g2 e.symm
        omega)))
      have hBl3 : B2 ≤ w3.heap.size := by have := hgr3.size; simp at this; omega
      clear hown3 hgr3 HB HV HO hBl HT hs HWX
      have hwi := HWI.out
      go_wp2
      clear hwi
      go_roundg gg
      case measure => omega
      case rel => exact ⟨i + 1, by rw [Int.natCast_succ]; first | rfl | rw [HWI.out], by omega, HV3, HB3, HO3, hBl3⟩
    · obtain rfl : gk = 0 := by omega
      obtain rfl : i = l0.length + 1 := by omega
      have hd : decide (l0.length + 1 ≤ l0.length) = false := decide_eq_false (by omega)
      have hd2 : ¬ (l0.length + 1 ≤ l0.length) := by omega
      have HV2 := Aside0.mk HV.out
      rw [List.take_of_length_le (by rw [amt_length]; exact Nat.le_refl _)] at HV2
      obtain ⟨gL, capL, rfl, hcapL⟩ : ∃ gL capL, u5 = .slice (some ⟨gL, 0, none⟩) (l0.length + 1) capL ∧ l0.length + 1 ≤ capL := by
        rcases HV2.out.2 with ⟨_, h⟩ | ⟨g, cap, cur, rfl, _, _, hc, _⟩
        · omega
        · exact ⟨g, cap, rfl, hc⟩
      have hrd := own_reads' HV2.out
      have HCL2 := Aside0.mk (Kd.C_of_reads (d := (0 : Int)) (h1 := fun _ => rfl) hrd)
      have HC2 := Aside0.mk (Kd.C_below HC.out (show Below w.heap.size w wr by rw [HQ.out]; exact HB.out))
      clear hrd HV HV2 HO
      go_wp2_with (first | (go_at_call 7; refine (HG.out _ HC2.out).mono ?_; rintro e w4 ⟨rfl, hb4⟩; have HB4 := Aside0.mk (HB.out.trans (hb4.mono (Nat.le_trans hqB hBl))); have HCL4 := Aside0.mk (Kd.C_below HCL2.out hb4); have hs4 := hb4.size; clear hb4) | (go_at_call 8; refine (HRo.out _ (some ⟨gL, 0, none⟩) capL (by rw [HCe.out]; exact HCL4.out) hcapL).mono ?_; rintro e w5 ⟨rfl, hb5⟩; have HB5 := Aside0.mk (HB4.out.trans (hb5.mono (by omega))); have hs5 := hb5.size; clear hb5) | (go_at_call 5; refine (HS.out _).mono ?_; rintro e w6 ⟨rfl, hb6⟩))
      go_ret
      refine ⟨rfl, ?_⟩
      rw [HQ.out]
      exact HB5.out.trans (hb6.mono (by omega))

end Go.Proofs.YtldohjlcckbfaaaGreatDoor.Hand
