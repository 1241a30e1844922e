/- The law's own counting of wishes, by hand: nil if some wish is no chair. -/
import Derived.Test.YtldohjlcckbfaaaGreatDoorProg
import Derived.Below
import Derived.Deep.Draws
import Derived.Deep.AppendLies
import Derived.Maps.AppendAt
import Derived.OwnWalk
import Derived.Laws.BytesArg
import Derived.Laws.MakeOwn
import Derived.Laws.OwnMore
import Derived.Deep.OwnRows
import Derived.Tactics
import Derived.Lib.ConvBytes
import Derived.Laws.Slices
import Derived.WalkKit
import Derived.KernelRfl
import Derived.RowKit3
import Derived.Deep.LoopGhost
import Derived.Deep.QuietTactic
import Derived.BigQuiet
import Derived.WideLaws
import Derived.Deep.DeepCutAuto
import Derived.Deep.CutBlock
import Derived.Deep.RegionHeld3
import Derived.Laws.Rows
import Derived.Lib.AppendStr
import Derived.ArgAppend
import Derived.Laws.IdiomCopy
import Derived.OrdersHeld
import Derived.Laws.BitsLemmas
import Derived.RowKit
import Derived.Test.YtldohjlcckbfaaaGreatDoorWWords
import Derived.Test.YtldohjlcckbfaaaGreatDoorWLast
import Derived.Test.YtldohjlcckbfaaaGreatDoorWTab
import Derived.Test.YtldohjlcckbfaaaGreatDoorWFour
import Derived.Test.YtldohjlcckbfaaaGreatDoorWQPut
import Derived.Test.YtldohjlcckbfaaaGreatDoorWApart
import Derived.Test.YtldohjlcckbfaaaGreatDoorWArr
import Derived.Test.YtldohjlcckbfaaaGreatDoorWZeros
import Derived.Test.YtldohjlcckbfaaaGreatDoorWFoot
import Derived.Test.YtldohjlcckbfaaaGreatDoorWKept
import Derived.Test.YtldohjlcckbfaaaGreatDoorWShare
import Derived.Test.YtldohjlcckbfaaaGreatDoorWN
import Derived.Test.YtldohjlcckbfaaaGreatDoorWFootNe
import Derived.Test.YtldohjlcckbfaaaGreatDoorWAt
import Derived.Test.YtldohjlcckbfaaaGreatDoorWEqStruct
import Derived.Test.YtldohjlcckbfaaaGreatDoorWRepsOne
import Derived.Test.YtldohjlcckbfaaaGreatDoorWInv
import Derived.Test.YtldohjlcckbfaaaGreatDoorWInvWords
import Derived.Test.YtldohjlcckbfaaaGreatDoorWGuard
import Derived.Test.YtldohjlcckbfaaaGreatDoorWNEv
import Derived.Test.YtldohjlcckbfaaaGreatDoorWMore
import Derived.Test.YtldohjlcckbfaaaGreatDoorHandA
import Derived.Test.YtldohjlcckbfaaaGreatDoorPre1
import Derived.Deep.OwnRows
namespace Go.Proofs.YtldohjlcckbfaaaGreatDoor.Hand
open Go.RowKit Go.Proofs.YtldohjlcckbfaaaGreatDoorW.PrintWords Go.Proofs.YtldohjlcckbfaaaGreatDoorW.PrintLast Go.Proofs.YtldohjlcckbfaaaGreatDoorW.PrintMore
set_option linter.unusedVariables false
set_option linter.unusedSimpArgs false

open Go.Proofs.YtldohjlcckbfaaaGreatDoor.Pre
def cnt (l : List Int) (n : Nat) : List Int := (List.range n).map fun (k : Nat) => ((l.countP (fun x => decide (x = (k : Int))) : Nat) : Int)
theorem cnt_length (l : List Int) (n : Nat) : (cnt l n).length = n := by simp [cnt]
theorem cnt_get (l : List Int) (n k : Nat) (hk : k < n) : (cnt l n)[k]? = some ((l.countP (fun x => decide (x = (k : Int))) : Nat) : Int) := by
  unfold cnt
  rw [List.getElem?_map, List.getElem?_range hk]; rfl
theorem cnt_rd (l : List Int) (n : Nat) (x : Int) (h0 : 0 ≤ x) (h1 : x < n) : rd (cnt l n) x = ((l.countP (fun y => decide (y = x)) : Nat) : Int) := by
  unfold rd
  rw [List.getD_eq_getElem?_getD, cnt_get l n x.toNat (by omega), Int.toNat_of_nonneg h0]; rfl
theorem cnt_nil (n : Nat) : cnt [] n = List.replicate n 0 := by
  apply List.ext_getElem?
  intro i
  by_cases h : i < n
  · rw [cnt_get [] n i h, List.getElem?_replicate, if_pos h]; rfl
  · rw [List.getElem?_eq_none (by rw [cnt_length]; omega), List.getElem?_eq_none (by simp; omega)]
theorem cnt_snoc (l : List Int) (n : Nat) (x : Int) (h0 : 0 ≤ x) (h1 : x < n) : cnt (l ++ [x]) n = (cnt l n).set x.toNat (rd (cnt l n) x + 1) := by
  apply List.ext_getElem?
  intro i
  by_cases h : i < n
  · rw [cnt_get _ n i h, cnt_rd l n x h0 h1, List.countP_append]
    by_cases e : x.toNat = i
    · subst e
      rw [List.getElem?_set_self (by rw [cnt_length]; exact h), Int.toNat_of_nonneg h0]
      simp
    · rw [List.getElem?_set_ne e, cnt_get l n i h]
      have : ¬ x = (i : Int) := by omega
      simp [this]
  · rw [List.getElem?_eq_none (by rw [cnt_length]; omega), List.getElem?_eq_none (by rw [List.length_set, cnt_length]; omega)]
def CntPost (l : List Int) (n : Nat) (w : World) (e : Ending) (w' : World) : Prop :=
  (l.any (outB · n) = true → e = .returned (.slice none 0 0)) ∧
  (l.any (outB · n) = false → e = .returned (.slice (some ⟨w.heap.size, 0, none⟩) n n) ∧ w'.ownsRow w.heap.size 3 1 (.slice (some ⟨w.heap.size, 0, none⟩) n n) n (nums .i64 (cnt l n))) ∧ Below w.heap.size w w'
set_option maxHeartbeats 4000000 in
set_option maxRecDepth 100000 in
theorem counted_calls (A0 : Option Addr) (c0 : Nat) (l0 : List Int) (n : Nat) (w : World) (hr0 : Kd.C (Kd.int .i64) w A0 l0.length l0) (hl : l0.length ≤ 100) (hn : n ≤ 100) :
    Calls Tryz.prog 6 #[.int .i64 n, .slice A0 l0.length c0] w (CntPost l0 n w) := by
  have info3 : (Tryz.prog.info? 3).map (fun i => (i.zero, i.size, i.bytes)) = some (some (.int .i64 0), 1, 8) := by kernel_rfl
  have hmk := fun W => run_make_row' (P := Tryz.prog) 22 3 (.int .i64 0) 8 Tryz.underlying22 info3 rfl .i64 .i64 n (by omega) (by omega) W
  have HO := Aside0.mk (own_made w w.heap.size 3 .i64 n (Nat.le_refl _) (by omega))
  have HB := Aside0.mk (below_alloc (Below.refl _ w) (.cells (madeCells #[.int .i64 0] n) 3))
  have HC := Aside0.mk hr0
  clear hr0
  go_enter Tryz.func6, Tryz.ntmps6
  go_wp2
  obtain ⟨q, hq⟩ : ∃ q, w.heap.size = q := ⟨_, rfl⟩
  have HQ := Aside0.mk hq
  rw [hq] at HO HB ⊢
  clear hmk hq
  go_loopg [6] l0.length (fun g v6 wr => ∃ (i : Nat), v6 = .int .i64 i ∧ i + g = l0.length ∧ Aside0 ((l0.take i).any (outB · n) = false) ∧ Aside0 (wr.ownsRow q 3 1 (.slice (some ⟨q, 0, none⟩) n n) n (nums .i64 (cnt (l0.take i) n))) ∧ Aside0 (Below q w wr))
  case atStart => exact ⟨0, rfl, by omega, ⟨rfl⟩, ⟨by rw [List.take_zero, cnt_nil]; exact HO.out⟩, HB⟩
  case round =>
    clear HO HB
    obtain ⟨i, rfl, hig, HA, HO, HB⟩ := hrel
    have hCw : Kd.C (Kd.int .i64) wr A0 l0.length l0 := Kd.C_below HC.out (by rw [HQ.out]; exact HB.out)
    by_cases hlt : i < l0.length
    · obtain ⟨g, rfl⟩ : ∃ g, gk = g + 1 := ⟨gk - 1, by omega⟩
      obtain ⟨ad, e1, hx0⟩ := Kd.at_int hCw (i : Int) (by omega) (by omega)
      subst e1
      rw [Int.toNat_natCast] at hx0
      have hrd : rd l0 (i : Int) = l0[i] := by unfold rd; rw [Int.toNat_natCast, List.getD_eq_getElem?_getD, List.getElem?_eq_getElem hlt]; rfl
      have HT := Aside0.mk (show l0.take (i + 1) = l0.take i ++ [rd l0 (i : Int)] by rw [hrd]; exact List.take_succ_eq_append_getElem hlt)
      have HM := Aside0.mk (show rd l0 (i : Int) ∈ l0 by rw [hrd]; exact List.getElem_mem hlt)
      obtain ⟨x, hx⟩ : ∃ x, rd l0 (i : Int) = x := ⟨_, rfl⟩
      rw [hx] at hx0 HT HM
      clear hrd hx hCw
      have hd : decide ((i : Int) < (l0.length : Int)) = true := decide_eq_true (by omega)
      by_cases hneg : x < 0
      · have c1 : decide (x < 0) = true := decide_eq_true hneg
        go_wp2
        go_ret
        refine ⟨fun _ => rfl, fun h => ?_, by rw [HQ.out]; exact HB.out⟩
        have := List.any_eq_false.1 h x HM.out
        exact absurd (show outB x n = true by unfold outB; rw [c1]; rfl) this
      · have c1 : decide (x < 0) = false := decide_eq_false hneg
        by_cases hge : (n : Int) ≤ x
        · have c2 : decide ((n : Int) ≤ x) = true := decide_eq_true hge
          go_wp2
          go_ret
          refine ⟨fun _ => rfl, fun h => ?_, by rw [HQ.out]; exact HB.out⟩
          have := List.any_eq_false.1 h x HM.out
          exact absurd (show outB x n = true by unfold outB; rw [c1, c2]; rfl) this
        · have c2 : decide ((n : Int) ≤ x) = false := decide_eq_false hge
          have hs := own_at HO.out x (by omega) (by omega)
          have hs1 := hs.1
          have hs2 := hs.2
          have HS := Aside0.mk (own_store HO.out x (rd (cnt (l0.take i) n) x + 1)).1
          have HBs := Aside0.mk (HB.out.setCell (p := ⟨q, x.toNat, none⟩) (Nat.le_refl _) (.int .i64 (rd (cnt (l0.take i) n) x + 1)))
          have HE := Aside0.mk (cnt_snoc (l0.take i) n x (by omega) (by omega))
          have hcr := cnt_rd (l0.take i) n x (by omega) (by omega)
          have hle : (l0.take i).countP (fun y => decide (y = x)) ≤ l0.length := Nat.le_trans List.countP_le_length (by rw [List.length_take]; omega)
          have hcr1 : 0 ≤ rd (cnt (l0.take i) n) x := by rw [hcr]; omega
          have hcr2 : rd (cnt (l0.take i) n) x ≤ 100 := by rw [hcr]; omega
          have HA2 := Aside0.mk (show (l0.take (i + 1)).any (outB · n) = false by rw [HT.out, List.any_append, HA.out]; simp [outB, c1, c2])
          clear hcr hle hs HO HB HA hneg hge
          obtain ⟨y, hy⟩ : ∃ y, rd (cnt (l0.take i) n) x = y := ⟨_, rfl⟩
          rw [hy] at hs1 HS HBs HE hcr1 hcr2
          clear hy
          have b0 : 0 ≤ x := by have := c1; simpa using this
          have b1 : x < (n : Int) := by have := c2; simpa using this
          go_wp2
          go_roundg g
          case measure => omega
          case rel => exact ⟨i + 1, by rw [Int.natCast_succ], by omega, HA2, ⟨by rw [HT.out, HE.out]; exact HS.out⟩, HBs⟩
    · obtain rfl : gk = 0 := by omega
      obtain rfl : i = l0.length := by omega
      have hd : decide ((l0.length : Int) < (l0.length : Int)) = false := decide_eq_false (by omega)
      have HA2 := Aside0.mk (show l0.any (outB · n) = false by have := HA.out; rwa [List.take_length] at this)
      have HO2 := Aside0.mk (show wr.ownsRow q 3 1 (.slice (some ⟨q, 0, none⟩) n n) n (nums .i64 (cnt l0 n)) by have := HO.out; rwa [List.take_length] at this)
      clear HA HO hCw
      go_wp2
      go_ret
      refine ⟨fun h => ?_, fun _ => ⟨by rw [HQ.out]; rfl, by rw [HQ.out]; exact HO2.out⟩, by rw [HQ.out]; exact HB.out⟩
      rw [HA2.out] at h; cases h

end Go.Proofs.YtldohjlcckbfaaaGreatDoor.Hand
