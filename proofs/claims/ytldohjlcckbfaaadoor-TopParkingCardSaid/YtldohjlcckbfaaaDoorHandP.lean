/- TopParking, by hand: its walk over what Good, Roads and seated come to. -/
import Derived.Test.YtldohjlcckbfaaaDoorProg
import Derived.Below
import Derived.Deep.Draws
import Derived.Deep.AppendLies
import Derived.Maps.AppendAt
import Derived.OwnWalk
import Derived.Laws.BytesArg
import Derived.Laws.MakeOwn
import Derived.Laws.OwnMore
import Derived.Deep.OwnRows
import Derived.Tactics
import Derived.Lib.ConvBytes
import Derived.Laws.Slices
import Derived.WalkKit
import Derived.KernelRfl
import Derived.RowKit3
import Derived.Deep.LoopGhost
import Derived.Deep.QuietTactic
import Derived.BigQuiet
import Derived.WideLaws
import Derived.Deep.DeepCutAuto
import Derived.Deep.CutBlock
import Derived.Deep.RegionHeld3
import Derived.Laws.Rows
import Derived.Lib.AppendStr
import Derived.ArgAppend
import Derived.Laws.IdiomCopy
import Derived.OrdersHeld
import Derived.Laws.BitsLemmas
import Derived.RowKit
import Derived.Test.YtldohjlcckbfaaaDoorWWords
import Derived.Test.YtldohjlcckbfaaaDoorWLast
import Derived.Test.YtldohjlcckbfaaaDoorWTab
import Derived.Test.YtldohjlcckbfaaaDoorWFour
import Derived.Test.YtldohjlcckbfaaaDoorWQPut
import Derived.Test.YtldohjlcckbfaaaDoorWApart
import Derived.Test.YtldohjlcckbfaaaDoorWArr
import Derived.Test.YtldohjlcckbfaaaDoorWZeros
import Derived.Test.YtldohjlcckbfaaaDoorWFoot
import Derived.Test.YtldohjlcckbfaaaDoorWKept
import Derived.Test.YtldohjlcckbfaaaDoorWShare
import Derived.Test.YtldohjlcckbfaaaDoorWN
import Derived.Test.YtldohjlcckbfaaaDoorWFootNe
import Derived.Test.YtldohjlcckbfaaaDoorWAt
import Derived.Test.YtldohjlcckbfaaaDoorWEqStruct
import Derived.Test.YtldohjlcckbfaaaDoorWRepsOne
import Derived.Test.YtldohjlcckbfaaaDoorWInv
import Derived.Test.YtldohjlcckbfaaaDoorWInvWords
import Derived.Test.YtldohjlcckbfaaaDoorWGuard
import Derived.Test.YtldohjlcckbfaaaDoorWNEv
import Derived.Test.YtldohjlcckbfaaaDoorWMore
import Derived.Test.YtldohjlcckbfaaaDoorHandN
import Derived.Lib.Hide
import Derived.Lib.SliceRun
namespace Go.Proofs.YtldohjlcckbfaaaDoor.Hand
open Go.RowKit Go.Proofs.YtldohjlcckbfaaaDoorW.PrintWords Go.Proofs.YtldohjlcckbfaaaDoorW.PrintLast Go.Proofs.YtldohjlcckbfaaaDoorW.PrintMore
set_option linter.unusedVariables false
set_option linter.unusedSimpArgs false

open Go.Proofs.YtldohjlcckbfaaaDoor.Pre
def strB (l : List Bool) : ByteArray := ⟨(l.map fun b => if b = true then (40 : UInt8) else 41).toArray⟩
theorem strB_open (l : List Bool) : strB l ++ ⟨#[40]⟩ = strB (l ++ [true]) := by
  unfold strB
  apply ByteArray.ext
  simp
theorem strB_close (l : List Bool) : strB l ++ ⟨#[41]⟩ = strB (l ++ [false]) := by
  unfold strB
  apply ByteArray.ext
  simp
theorem strB_size (l : List Bool) : (strB l).size = l.length := by
  show ((l.map _).toArray).size = _
  simp
def blk (c : List Int) : List Bool := c.flatMap fun k => List.replicate k.toNat true ++ [false]
theorem blk_snoc (c : List Int) (k : Int) : blk (c ++ [k]) = blk c ++ List.replicate k.toNat true ++ [false] := by
  unfold blk
  rw [List.flatMap_append, List.flatMap_cons, List.flatMap_nil, List.append_nil, List.append_assoc]
theorem blk_len (c : List Int) (m : Nat) (hc : ∀ y ∈ c, y ≤ m) (hl : c.length ≤ 12) (hm : m ≤ 12) : (blk c).length ≤ 1000 := by
  have : ∀ c : List Int, (∀ y ∈ c, y ≤ m) → (blk c).length ≤ c.length * (m + 1) := by
    intro c
    induction c with
    | nil => intro _; simp [blk]
    | cons a t ih =>
      intro h
      have h1 := ih (fun y hy => h y (List.mem_cons_of_mem _ hy))
      have h2 := h a (by simp)
      have e : blk (a :: t) = List.replicate a.toNat true ++ [false] ++ blk t := by simp [blk]
      rw [e, List.length_append, List.length_append, List.length_replicate]
      show _ ≤ (t.length + 1) * (m + 1)
      rw [Nat.succ_mul]
      simp only [List.length_cons, List.length_nil]
      omega
  have h1 := this c hc
  have h2 : c.length * (m + 1) ≤ 12 * 13 := Nat.mul_le_mul hl (by omega)
  omega
theorem cnt_le (l : List Int) (n : Nat) (y : Int) (hy : y ∈ cnt l n) : y ≤ l.length := by
  unfold cnt at hy
  obtain ⟨k, _, rfl⟩ := List.mem_map.1 hy
  have := List.countP_le_length (p := fun x => decide (x = (k : Int))) (l := l)
  omega
abbrev SeatedSaid : Prop := ∀ w, Calls Tryd.prog 4 #[] w fun e w' => e = .returned (.bool true) ∧ Below w.heap.size w w'
set_option maxHeartbeats 4000000 in
set_option maxRecDepth 100000 in
theorem parking_out (hS : SeatedSaid) (A0 : Option Addr) (c0 : Nat) (l0 : List Int) (w : World) (h : l0.length < 1 ∨ 12 < l0.length) :
    Calls Tryd.prog 3 #[.slice A0 l0.length c0] w fun e w' => e = .returned (.bool true) ∧ Below w.heap.size w w' := by
  have HS := Lib.hid hS
  clear hS
  by_cases h1 : l0.length < 1
  · have c1 : decide ((l0.length : Int) < 1) = true := decide_eq_true (by omega)
    go_enter Tryd.func3, Tryd.ntmps3
    go_wp2_with (go_at_call 4; refine (HS.out _).mono ?_; rintro e w1 ⟨rfl, hb⟩)
    go_ret
    exact ⟨rfl, hb⟩
  · have c1 : decide ((l0.length : Int) < 1) = false := decide_eq_false (by omega)
    have c2 : decide ((12 : Int) < (l0.length : Int)) = true := decide_eq_true (by omega)
    go_enter Tryd.func3, Tryd.ntmps3
    go_wp2_with (go_at_call 4; refine (HS.out _).mono ?_; rintro e w1 ⟨rfl, hb⟩)
    go_ret
    exact ⟨rfl, hb⟩
set_option maxHeartbeats 4000000 in
set_option maxRecDepth 100000 in
theorem parking_nil (hS : SeatedSaid) (A0 : Option Addr) (c0 : Nat) (l0 : List Int) (w : World) (hr0 : Kd.C (Kd.int .i64) w A0 l0.length l0) (n1 : 1 ≤ l0.length) (n2 : l0.length ≤ 12) (hbad : l0.any (outB · l0.length) = true) :
    Calls Tryd.prog 3 #[.slice A0 l0.length c0] w fun e w' => e = .returned (.bool true) ∧ Below w.heap.size w w' := by
  have HS := Lib.hid hS
  have HC := Aside0.mk hr0
  have HBad := Aside0.mk hbad
  clear hS hr0 hbad
  have qT : ∀ (w : World) (a : Option Addr) (n c n' c' : Nat), (binOp .eql 22 (.slice a n c) (.slice none n' c')).run Tryd.prog w = .ok (.bool a.isNone) w := fun w a n c n' c' => Lib.run_eql_slice_nil w _ _ a n c n' c' Tryd.underlying22
  have c1 : decide ((l0.length : Int) < 1) = false := decide_eq_false (by omega)
  have c2 : decide ((12 : Int) < (l0.length : Int)) = false := decide_eq_false (by omega)
  go_enter Tryd.func3, Tryd.ntmps3
  go_wp2_with (first | (go_at_call 5; refine (counted_calls A0 _ l0 l0.length _ HC.out (by omega) (by omega)).mono ?_; rintro e w1 ⟨he, _, hb1⟩; have HB1 := Aside0.mk hb1; clear hb1; obtain rfl := he HBad.out; clear he) | (go_at_call 4; refine (HS.out _).mono ?_; rintro e w2 ⟨rfl, hb⟩))
  go_ret
  exact ⟨rfl, HB1.out.trans (hb.mono HB1.out.size)⟩
set_option maxHeartbeats 8000000 in
set_option maxRecDepth 100000 in
theorem parking_in (hS : SeatedSaid) (A0 : Option Addr) (c0 : Nat) (l0 : List Int) (w : World) (hr0 : Kd.C (Kd.int .i64) w A0 l0.length l0) (n1 : 1 ≤ l0.length) (n2 : l0.length ≤ 12) (hok : l0.any (outB · l0.length) = false)
    (g : Bool) (r f : Int) (hG : ∀ w', Kd.C (Kd.int .i64) w' A0 l0.length l0 → Calls Tryd.prog 6 #[.int .i64 l0.length, .slice A0 l0.length c0] w' fun e w'' => e = .returned (.tuple #[.bool g, .int .i64 0]) ∧ Below w'.heap.size w' w'')
    (hR : ∀ w', Calls Tryd.prog 7 #[.string (strB (blk (cnt l0 l0.length))), .string (strB (blk (cnt l0 l0.length)))] w' fun e w'' => e = .returned (.tuple #[.int .i64 r, .int .i64 f]) ∧ Below w'.heap.size w' w'')
    (hg : (g = true ∧ r = l0.length ∧ f = 0) ∨ (g = false ∧ f = 5)) :
    Calls Tryd.prog 3 #[.slice A0 l0.length c0] w fun e w' => e = .returned (.bool true) ∧ Below w.heap.size w w' := by
  have HS := Lib.hid hS
  have HC := Aside0.mk hr0
  have HOk := Aside0.mk hok
  have HG := Lib.hid hG
  have HRo := Lib.hid hR
  clear hS hr0 hok hG hR
  have qT : ∀ (w : World) (a : Option Addr) (n c n' c' : Nat), (binOp .eql 22 (.slice a n c) (.slice none n' c')).run Tryd.prog w = .ok (.bool a.isNone) w := fun w a n c n' c' => Lib.run_eql_slice_nil w _ _ a n c n' c' Tryd.underlying22
  have c1 : decide ((l0.length : Int) < 1) = false := decide_eq_false (by omega)
  have c2 : decide ((12 : Int) < (l0.length : Int)) = false := decide_eq_false (by omega)
  obtain ⟨n, hn⟩ : ∃ n, l0.length = n := ⟨_, rfl⟩
  have HN := Aside0.mk hn
  go_enter Tryd.func3, Tryd.ntmps3
  clear hn
  go_wp2_with (go_at_call 5; refine (counted_calls A0 _ l0 l0.length _ HC.out (by omega) (by omega)).mono ?_; rintro e w1 ⟨_, he, hb1⟩; have HB1 := Aside0.mk hb1; clear hb1; obtain ⟨rfl, ho⟩ := he HOk.out; have HO1 := Aside0.mk ho; clear he ho)
  obtain ⟨q, hq⟩ : ∃ q, w.heap.size = q := ⟨_, rfl⟩
  have HQ := Aside0.mk hq
  rw [hq] at HO1 ⊢
  clear hq
  have HL := Aside0.mk (cnt_length l0 l0.length)
  obtain ⟨C, hCd⟩ : ∃ C, cnt l0 l0.length = C := ⟨_, rfl⟩
  rw [hCd] at HO1 HL
  have HCd := Aside0.mk hCd
  clear hCd
  go_loopg [5, 6] l0.length (fun gz v5 v6 wr => ∃ (i : Nat), wr = w1 ∧ v6 = .int .i64 i ∧ i + gz = l0.length ∧ v5 = .string (strB (blk (C.take i))))
  case atStart => exact ⟨0, rfl, rfl, by omega, rfl⟩
  case round =>
    obtain ⟨i, rfl, rfl, hig, rfl⟩ := hrel
    by_cases hlt : i < l0.length
    · obtain ⟨gg, rfl⟩ : ∃ gg, gk = gg + 1 := ⟨gk - 1, by omega⟩
      have hd : decide ((i : Int) < (l0.length : Int)) = true := decide_eq_true (by omega)
      have hiC : i < C.length := by rw [HL.out]; exact hlt
      have hCi : C[i]? = some C[i] := List.getElem?_eq_getElem hiC
      have hs := (own_at HO1.out (i : Int) (by omega) (by omega)).1
      have hrd : rd C (i : Int) = C[i] := by unfold rd; rw [Int.toNat_natCast, List.getD_eq_getElem?_getD, hCi]; rfl
      rw [Int.toNat_natCast] at hs
      have HX := Aside0.mk (show blk (C.take (i + 1)) = blk (C.take i) ++ List.replicate (rd C (i : Int)).toNat true ++ [false] by
        rw [List.take_add_one, hCi, Option.toList_some, blk_snoc, hrd])
      have hx0 : 0 ≤ rd C (i : Int) := by rw [← HCd.out, cnt_rd _ _ _ (by omega) (by omega)]; omega
      have hx1 : rd C (i : Int) ≤ 12 := by
        rw [← HCd.out, cnt_rd _ _ _ (by omega) (by omega)]
        have := List.countP_le_length (p := fun y => decide (y = (i : Int))) (l := l0)
        omega
      obtain ⟨x, hx⟩ : ∃ x : Nat, rd C (i : Int) = (x : Int) := ⟨(rd C (i : Int)).toNat, by omega⟩
      rw [hx] at hs HX hx0 hx1
      rw [Int.toNat_natCast] at HX
      clear hCi hrd hx hiC
      have hw : wrap64 ((i : Int) + 1) = (i : Int) + 1 := by unfold wrap64; omega
      obtain ⟨P, hP⟩ : ∃ P, blk (C.take i) = P := ⟨_, rfl⟩
      rw [hP] at HX ⊢
      have hcl := strB_close (P ++ List.replicate x true)
      have HP := Aside0.mk (show P.length ≤ 1000 by
        rw [← hP]
        exact blk_len _ _ (fun y hy => by rw [← HCd.out] at hy; exact cnt_le l0 _ _ (List.mem_of_mem_take hy)) (by rw [List.length_take]; omega) (by omega))
      have hz1 : ¬ ((9223372036854775807 : Int) < ((strB (P ++ List.replicate x true)).size : Int) + 1) := by rw [strB_size, List.length_append, List.length_replicate]; have := HP.out; omega
      clear hP
      go_wp2
      go_loopg [5, 7] x (fun q2 v5 v7 wr2 => ∃ (j : Nat), wr2 = wr ∧ v7 = .int .i64 j ∧ j + q2 = x ∧ v5 = .string (strB (P ++ List.replicate j true)))
      case atStart => exact ⟨0, rfl, rfl, by omega, by simp⟩
      case round =>
        rename_i gk2 _ _ _ _
        obtain ⟨j, rfl, rfl, hjq, rfl⟩ := hrel
        by_cases hjx : j < x
        · obtain ⟨g2, rfl⟩ : ∃ g2, gk = g2 + 1 := ⟨gk - 1, by omega⟩
          have hd2 : decide ((j : Int) < (x : Int)) = true := decide_eq_true (by omega)
          have hop := strB_open (P ++ List.replicate j true)
          rw [List.append_assoc, ← List.replicate_succ'] at hop
          have hz2 : ¬ ((9223372036854775807 : Int) < ((strB (P ++ List.replicate j true)).size : Int) + 1) := by rw [strB_size, List.length_append, List.length_replicate]; have := HP.out; omega
          have hwj : wrap64 ((j : Int) + 1) = (j : Int) + 1 := by unfold wrap64; omega
          go_wp2
          go_roundg g2
          case measure => omega
          case rel => exact ⟨j + 1, rfl, by rw [Int.natCast_succ], by omega, by first | rfl | (rw [hop]; rfl)⟩
        · obtain rfl : gk = 0 := by omega
          obtain rfl : j = x := by omega
          have hd2 : decide ((j : Int) < (j : Int)) = false := decide_eq_false (by omega)
          go_wp2
          go_roundg gg
          case measure => omega
          case rel => exact ⟨i + 1, rfl, by rw [Int.natCast_succ], by omega, by rw [HX.out]; first | rfl | rw [List.append_assoc]⟩
    · obtain rfl : gk = 0 := by omega
      obtain rfl : i = l0.length := by omega
      have hd : decide ((l0.length : Int) < (l0.length : Int)) = false := decide_eq_false (by omega)
      have hT : C.take l0.length = cnt l0 l0.length := by rw [List.take_of_length_le (by rw [HL.out]; exact Nat.le_refl _), HCd.out]
      rw [hT]
      clear hT
      have HC2 := Aside0.mk (Kd.C_below HC.out HB1.out)
      rcases hg with ⟨rfl, rfl, rfl⟩ | ⟨rfl, rfl⟩
      · go_wp2_with (first | (go_at_call 6; refine (HG.out _ HC2.out).mono ?_; rintro e w2 ⟨rfl, hb2⟩; have HB2 := Aside0.mk (HB1.out.trans (hb2.mono HB1.out.size)); clear hb2) | (go_at_call 7; refine (HRo.out _).mono ?_; rintro e w3 ⟨rfl, hb3⟩; have HB3 := Aside0.mk (HB2.out.trans (hb3.mono HB2.out.size)); clear hb3) | (go_at_call 4; refine (HS.out _).mono ?_; rintro e w4 ⟨rfl, hb4⟩))
        go_ret
        exact ⟨rfl, HB3.out.trans (hb4.mono HB3.out.size)⟩
      · go_wp2_with (first | (go_at_call 6; refine (HG.out _ HC2.out).mono ?_; rintro e w2 ⟨rfl, hb2⟩; have HB2 := Aside0.mk (HB1.out.trans (hb2.mono HB1.out.size)); clear hb2) | (go_at_call 7; refine (HRo.out _).mono ?_; rintro e w3 ⟨rfl, hb3⟩; have HB3 := Aside0.mk (HB2.out.trans (hb3.mono HB2.out.size)); clear hb3) | (go_at_call 4; refine (HS.out _).mono ?_; rintro e w4 ⟨rfl, hb4⟩))
        go_ret
        exact ⟨rfl, HB3.out.trans (hb4.mono HB3.out.size)⟩

end Go.Proofs.YtldohjlcckbfaaaDoor.Hand
