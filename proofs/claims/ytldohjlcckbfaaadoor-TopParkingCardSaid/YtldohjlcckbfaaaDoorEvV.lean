/- TopParking returns true: chair by chair an opening bracket for each customer who wishes it, and then a closing one: an arch system exactly if the greedy seating succeeds. Condition: none. -/
import Derived.Test.YtldohjlcckbfaaaDoorProg
import Derived.Below
import Derived.Deep.Draws
import Derived.Deep.AppendLies
import Derived.Maps.AppendAt
import Derived.OwnWalk
import Derived.Laws.BytesArg
import Derived.Laws.MakeOwn
import Derived.Laws.OwnMore
import Derived.Deep.OwnRows
import Derived.Tactics
import Derived.Lib.ConvBytes
import Derived.Laws.Slices
import Derived.WalkKit
import Derived.KernelRfl
import Derived.RowKit3
import Derived.Deep.LoopGhost
import Derived.Deep.QuietTactic
import Derived.BigQuiet
import Derived.WideLaws
import Derived.Deep.DeepCutAuto
import Derived.Deep.CutBlock
import Derived.Deep.RegionHeld3
import Derived.Laws.Rows
import Derived.Lib.AppendStr
import Derived.ArgAppend
import Derived.Laws.IdiomCopy
import Derived.OrdersHeld
import Derived.Laws.BitsLemmas
import Derived.RowKit
import Derived.Test.YtldohjlcckbfaaaDoorWWords
import Derived.Test.YtldohjlcckbfaaaDoorWLast
import Derived.Test.YtldohjlcckbfaaaDoorWTab
import Derived.Test.YtldohjlcckbfaaaDoorWFour
import Derived.Test.YtldohjlcckbfaaaDoorWQPut
import Derived.Test.YtldohjlcckbfaaaDoorWApart
import Derived.Test.YtldohjlcckbfaaaDoorWArr
import Derived.Test.YtldohjlcckbfaaaDoorWZeros
import Derived.Test.YtldohjlcckbfaaaDoorWFoot
import Derived.Test.YtldohjlcckbfaaaDoorWKept
import Derived.Test.YtldohjlcckbfaaaDoorWShare
import Derived.Test.YtldohjlcckbfaaaDoorWN
import Derived.Test.YtldohjlcckbfaaaDoorWFootNe
import Derived.Test.YtldohjlcckbfaaaDoorWAt
import Derived.Test.YtldohjlcckbfaaaDoorWEqStruct
import Derived.Test.YtldohjlcckbfaaaDoorWRepsOne
import Derived.Test.YtldohjlcckbfaaaDoorWInv
import Derived.Test.YtldohjlcckbfaaaDoorWInvWords
import Derived.Test.YtldohjlcckbfaaaDoorWGuard
import Derived.Test.YtldohjlcckbfaaaDoorWNEv
import Derived.Test.YtldohjlcckbfaaaDoorWMore
import Derived.Test.YtldohjlcckbfaaaDoorEvU
namespace Go.Proofs.YtldohjlcckbfaaaDoor.Hand
open Go.RowKit Go.Proofs.YtldohjlcckbfaaaDoorW.PrintWords Go.Proofs.YtldohjlcckbfaaaDoorW.PrintLast Go.Proofs.YtldohjlcckbfaaaDoorW.PrintMore
set_option linter.unusedVariables false
set_option linter.unusedSimpArgs false

open Go.Proofs.YtldohjlcckbfaaaDoor.Print Go.Proofs.YtldohjlcckbfaaaDoor.TopMath
theorem seated_true : SeatedSaid := fun w => pomadetop_seated.calls 60 true w (by decide +kernel)
theorem ok_of {l : List Int} {n : Nat} (h : l.any (outB · n) = false) : ∀ x ∈ l, 0 ≤ x ∧ x < n := by
  intro x hx
  have := List.any_eq_false.1 h x hx
  unfold outB at this
  simp at this
  omega
theorem cnt_counts {l : List Int} {n : Nat} (h : ∀ x ∈ l, 0 ≤ x ∧ x < n) : cnt l n = ints (counts (l.map Int.toNat) n) := by
  unfold cnt counts ints
  rw [List.map_map]
  refine List.map_congr_left fun k _ => ?_
  show ((l.countP (fun x => decide (x = (k : Int))) : Nat) : Int) = (((l.map Int.toNat).countP (fun w => decide (w = k)) : Nat) : Int)
  rw [List.countP_map]
  congr 1
  refine List.countP_congr fun x hx => ?_
  have := h x hx
  rw [Function.comp_apply, decide_eq_true_iff, decide_eq_true_iff]
  omega
theorem blk_ints (c : List Nat) : blk (ints c) = blocks c := by
  unfold blk blocks ints
  rw [List.flatMap_map]
  simp
theorem blocks_length (c : List Nat) : (blocks c).length = c.sum + c.length := by
  induction c with
  | nil => rfl
  | cons a c ih =>
    have e : blocks (a :: c) = List.replicate a true ++ [false] ++ blocks c := by simp [blocks]
    rw [e, List.length_append, List.length_append, List.length_replicate, ih, List.sum_cons, List.length_cons]
    simp only [List.length_cons, List.length_nil]
    omega
theorem counts_sum {l : List Int} {n : Nat} (h : ∀ x ∈ l, 0 ≤ x ∧ x < n) : (counts (l.map Int.toNat) n).sum = l.length := by
  have h1 := counts_take (l.map Int.toNat) n n (Nat.le_refl n)
  have h2 : wish (l.map Int.toNat) n = 0 := by
    unfold wish
    rw [List.countP_eq_zero]
    intro x hx
    obtain ⟨y, hy, rfl⟩ := List.mem_map.1 hx
    have := h y hy
    simp; omega
  rw [h2, List.take_of_length_le (by rw [counts_length]; exact Nat.le_refl n), List.length_map] at h1
  omega
theorem ev_Good {l : List Int} {n : Nat} (n1 : 1 ≤ n) (n2 : n ≤ 30) (hl : l.length ≤ n) (hok : l.any (outB · n) = false) :
    (Fits n (List.replicate n false) (l.map Int.toNat) → Ev (fun k => chairs_Good.f k (n : Int) l) (true, 0)) ∧ (¬ Fits n (List.replicate n false) (l.map Int.toNat) → Ev (fun k => chairs_Good.f k (n : Int) l) (false, 0)) := by
  have h := ev_sitF (n := n) (by omega) l (by omega) (ok_of hok)
  have hw : chairs_wished.f (n : Int) l = some 0 := by
    unfold chairs_wished.f
    rw [if_neg (by omega), if_neg (by omega), if_neg (by omega), if_neg (by rw [hok]; decide)]
  have e : ∀ k, chairs_Good.f k (n : Int) l = (chairs_sit.f k (n : Int) l).bind fun bt => some (bt.2, 0) := fun k => by
    unfold chairs_Good.f
    rw [hw, Option.bind_some, if_pos rfl]
  refine ⟨fun hf => ?_, fun hf => ?_⟩
  · obtain ⟨u, hu⟩ := h.1 hf
    exact Ev.congr e (Ev.bind (f := fun _ (bt : List Int × Bool) => some (bt.2, (0 : Int))) hu (Ev.now _))
  · exact Ev.congr e (Ev.bind (f := fun _ (bt : List Int × Bool) => some (bt.2, (0 : Int))) (h.2 hf) (Ev.now _))
theorem parking_true (A0 : Option Addr) (c0 : Nat) (l0 : List Int) (w : World) (hr0 : Kd.C (Kd.int .i64) w A0 l0.length l0) (hc0 : l0.length ≤ c0) :
    Calls Tryd.prog 3 #[.slice A0 l0.length c0] w fun e w' => e = .returned (.bool true) ∧ Below w.heap.size w w' := by
  by_cases h1 : l0.length < 1 ∨ 12 < l0.length
  · exact parking_out seated_true A0 c0 l0 w h1
  · have n1 : 1 ≤ l0.length := by omega
    have n2 : l0.length ≤ 12 := by omega
    cases hbad : l0.any (outB · l0.length) with
    | true => exact parking_nil seated_true A0 c0 l0 w hr0 n1 n2 hbad
    | false =>
      have hok := ok_of hbad
      have hlen : (blk (cnt l0 l0.length)).length = 2 * l0.length := by
        rw [cnt_counts hok, blk_ints, blocks_length, counts_sum hok, counts_length]; omega
      have hne : blk (cnt l0 l0.length) ≠ [] := by
        intro h
        rw [h] at hlen
        simp at hlen
        omega
      have hG := ev_Good n1 (by omega) (Nat.le_refl _) hbad
      have hR := ev_Roads (blk (cnt l0 l0.length)) hne (by omega)
      have hA := arch_iff (ws := l0.map Int.toNat) (n := l0.length) (List.length_map ..)
      rw [← blk_ints, ← cnt_counts hok] at hA
      by_cases hf : Fits l0.length (List.replicate l0.length false) (l0.map Int.toNat)
      · obtain ⟨k1, e1⟩ := (hG.1 hf).rounds
        obtain ⟨k2, e2⟩ := (hR.1 (hA.1 hf)).rounds
        refine parking_in seated_true A0 c0 l0 w hr0 n1 n2 hbad true _ 0 (fun w' hc => chairs_Good.calls k1 _ A0 c0 l0 true 0 w' hc hc0 e1) (fun w' => plait_Roads.calls k2 _ _ _ 0 w' e2) (.inl ⟨rfl, ?_, rfl⟩)
        rw [hlen]; omega
      · obtain ⟨k1, e1⟩ := (hG.2 hf).rounds
        obtain ⟨k2, e2⟩ := (hR.2 (by rw [hA.2 hf]; exact fun h => by cases h)).rounds
        exact parking_in seated_true A0 c0 l0 w hr0 n1 n2 hbad false _ 5 (fun w' hc => chairs_Good.calls k1 _ A0 c0 l0 false 0 w' hc hc0 e1) (fun w' => plait_Roads.calls k2 _ _ _ 5 w' e2) (.inr ⟨rfl, rfl⟩)

end Go.Proofs.YtldohjlcckbfaaaDoor.Hand
