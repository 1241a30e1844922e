/- till.Above, by hand: the loop ranges over the walk. -/
import Derived.Test.YtldohjlcckbfaaaGreatDoorProg
import Derived.Below
import Derived.Deep.Draws
import Derived.Deep.AppendLies
import Derived.Maps.AppendAt
import Derived.OwnWalk
import Derived.Laws.BytesArg
import Derived.Laws.MakeOwn
import Derived.Laws.OwnMore
import Derived.Deep.OwnRows
import Derived.Tactics
import Derived.Lib.ConvBytes
import Derived.Laws.Slices
import Derived.WalkKit
import Derived.KernelRfl
import Derived.RowKit3
import Derived.Deep.LoopGhost
import Derived.Deep.QuietTactic
import Derived.BigQuiet
import Derived.WideLaws
import Derived.Deep.DeepCutAuto
import Derived.Deep.CutBlock
import Derived.Deep.RegionHeld3
import Derived.Laws.Rows
import Derived.Lib.AppendStr
import Derived.ArgAppend
import Derived.Laws.IdiomCopy
import Derived.OrdersHeld
import Derived.Laws.BitsLemmas
import Derived.RowKit
import Derived.Test.YtldohjlcckbfaaaGreatDoorWWords
import Derived.Test.YtldohjlcckbfaaaGreatDoorWLast
import Derived.Test.YtldohjlcckbfaaaGreatDoorWTab
import Derived.Test.YtldohjlcckbfaaaGreatDoorWFour
import Derived.Test.YtldohjlcckbfaaaGreatDoorWQPut
import Derived.Test.YtldohjlcckbfaaaGreatDoorWApart
import Derived.Test.YtldohjlcckbfaaaGreatDoorWArr
import Derived.Test.YtldohjlcckbfaaaGreatDoorWZeros
import Derived.Test.YtldohjlcckbfaaaGreatDoorWFoot
import Derived.Test.YtldohjlcckbfaaaGreatDoorWKept
import Derived.Test.YtldohjlcckbfaaaGreatDoorWShare
import Derived.Test.YtldohjlcckbfaaaGreatDoorWN
import Derived.Test.YtldohjlcckbfaaaGreatDoorWFootNe
import Derived.Test.YtldohjlcckbfaaaGreatDoorWAt
import Derived.Test.YtldohjlcckbfaaaGreatDoorWEqStruct
import Derived.Test.YtldohjlcckbfaaaGreatDoorWRepsOne
import Derived.Test.YtldohjlcckbfaaaGreatDoorWInv
import Derived.Test.YtldohjlcckbfaaaGreatDoorWInvWords
import Derived.Test.YtldohjlcckbfaaaGreatDoorWGuard
import Derived.Test.YtldohjlcckbfaaaGreatDoorWNEv
import Derived.Test.YtldohjlcckbfaaaGreatDoorWMore
import Derived.Test.YtldohjlcckbfaaaGreatDoorHandB
import Derived.Test.YtldohjlcckbfaaaGreatDoorBase1
import Derived.Laws.RangeString
namespace Go.Proofs.YtldohjlcckbfaaaGreatDoor.Hand
open Go.RowKit Go.Proofs.YtldohjlcckbfaaaGreatDoorW.PrintWords Go.Proofs.YtldohjlcckbfaaaGreatDoorW.PrintLast Go.Proofs.YtldohjlcckbfaaaGreatDoorW.PrintMore
set_option linter.unusedVariables false
set_option linter.unusedSimpArgs false

open Go.Proofs.YtldohjlcckbfaaaGreatDoor.Pre Go.Proofs.YtldohjlcckbfaaaGreatDoor.Base
theorem signs_ascii {s : ByteArray} (h : signs s = true) : ∀ (i : Nat) (hi : i < s.size), (s[i]'hi).toNat < 128 := by
  intro i hi
  unfold signs at h
  rw [List.all_eq_true] at h
  have h1 := h (s[i]'hi) (by
    have : s[i]'hi = s.data[i]'hi := rfl
    rw [this]; exact Array.getElem_mem_toList hi)
  simp only [List.contains_cons, List.contains_nil, Bool.or_false, Bool.or_eq_true, beq_iff_eq] at h1
  rcases h1 with h1 | h1 <;> rw [h1] <;> decide
def abvFrom (b : List Int) : Nat → Nat → Int → Int
  | _, 0, m => m
  | i, d + 1, m => abvFrom b (i + 1) d (if rd b (i : Int) > 0 ∨ rd b ((i : Int) + 1) > 0 then m + 1 else m)
def till_Above.f (k : Nat) (s : ByteArray) : Option (Int × Int) := (till_balanced.f k s).bind fun e => if e = 0 then (till_path.f k s).bind fun b => if b.length = s.size + 1 ∧ signs s = true ∧ s.size ≤ 60 then some (abvFrom b 0 s.size 0, 0) else none else some (0, e)
theorem till_Above.mono : ∀ a0 k, LeO (till_Above.f k a0) (till_Above.f (k + 1) a0) := fun a0 k =>
  LeO.bind (till_balanced.mono _ _) fun _ => LeO.ite (LeO.bind (till_path.mono _ _) fun _ => LeO.refl _) (LeO.refl _)

set_option maxHeartbeats 2000000 in
set_option maxRecDepth 100000 in
theorem till_Above.calls (k : Nat) (a0 : ByteArray) (r1 r2 : Int) (w : World) (h : till_Above.f k a0 = some (r1, r2)) :
    Calls Tryz.prog 21 #[.string a0] w fun e w' => e = .returned (.tuple #[.int .i64 r1, .int .i64 r2]) ∧ Below w.heap.size w w' := by
  unfold till_Above.f at h
  obtain ⟨e, he, h⟩ := Option.bind_eq_some_iff.1 h
  have HE := Aside0.mk he
  by_cases h0 : e = 0
  · rw [if_pos h0] at h
    subst h0
    obtain ⟨b, hb, h⟩ := Option.bind_eq_some_iff.1 h
    by_cases hg : b.length = a0.size + 1 ∧ signs a0 = true ∧ a0.size ≤ 60
    · rw [if_pos hg] at h
      simp only [Option.some.injEq, Prod.mk.injEq] at h
      obtain ⟨hr, rfl⟩ := h
      have HB := Aside0.mk hb
      have HR := Aside0.mk hr
      have HG := Aside0.mk hg.1
      have HA := Aside0.mk (signs_ascii hg.2.1)
      have H60 := hg.2.2
      clear he hb hg hr h
      go_enter Tryz.func21, Tryz.ntmps21
      go_wp2_with (first | (go_at_call 43; refine (till_balanced.calls k a0 0 _ HE.out).mono ?_; rintro e w1 ⟨rfl, hb1⟩) | (go_at_call 44; refine (till_path.calls k a0 b _ HB.out).mono ?_; rintro e w2 ⟨v2, rfl, ho2, hb2⟩; obtain ⟨A2, c2, rfl⟩ := Kd.R_slice ho2))
      have HC := Aside0.mk (Kd.R_reads' ho2).2.2
      have HBel := Aside0.mk (hb1.trans (hb2.mono hb1.size))
      clear ho2 hb1 hb2 HE HB
      obtain ⟨b0, rfl, _⟩ := Kd.at_int HC.out 0 (by omega) (by have := HG.out; omega)
      go_loopg [6] a0.size (fun q v6 wr => ∃ (i : Nat) (m : Int), wr = w2.iter a0 i ∧ v6 = .int .i64 m ∧ i + q = a0.size ∧ 0 ≤ m ∧ m ≤ i ∧ Aside0 (abvFrom b i q m = r1))
      case atStart => exact ⟨0, 0, rfl, rfl, by omega, by omega, by omega, HR⟩
      case round =>
        clear HR
        obtain ⟨i, m, rfl, rfl, hiq, hm0, hm1, HR⟩ := hrel
        by_cases hlt : i < a0.size
        · obtain ⟨q, rfl⟩ : ∃ q, gk = q + 1 := ⟨gk - 1, by omega⟩
          have hnx := fun ty => run_next_ascii (P := Tryz.prog) w2 a0 i ty hlt (HA.out i hlt)
          have hCw : Kd.C (Kd.int .i64) (w2.iter a0 (i + 1)) (some b0) b.length b := Kd.C_below HC.out (below_alloc (Below.refl _ w2) (.stringIter a0 (i + 1)))
          obtain ⟨ad, e1, hx0⟩ := Kd.at_int hCw (i : Int) (by omega) (by have := HG.out; omega)
          cases e1
          obtain ⟨ad, e2, hx1⟩ := Kd.at_int hCw ((i : Int) + 1) (by omega) (by have := HG.out; omega)
          cases e2
          rw [Int.toNat_natCast] at hx0
          rw [show ((i : Int) + 1).toNat = i + 1 by omega, show b0.add (i + 1) = ⟨b0.block, b0.off + (i + 1), none⟩ by simp [Addr.add]] at hx1
          have hw : wrap64 ((i : Int) + 1) = (i : Int) + 1 := by unfold wrap64; omega
          have hwm : wrap64 (m + 1) = m + 1 := by unfold wrap64; omega
          have p0 : (i : Int) < (b.length : Int) := by have := HG.out; omega
          have p1 : (i : Int) + 1 < (b.length : Int) := by have := HG.out; omega
          clear hCw
          have hr := HR.out
          rw [abvFrom] at hr
          by_cases c0 : rd b (i : Int) > 0
          · rw [if_pos (.inl c0)] at hr
            have HR2 := Aside0.mk hr
            have hc : decide (0 < rd b (i : Int)) = true := decide_eq_true c0
            clear hr HR c0
            go_wp2
            go_roundg q
            case measure => omega
            case rel => exact ⟨i + 1, m + 1, rfl, rfl, by omega, by omega, by omega, HR2⟩
          · have hc : decide (0 < rd b (i : Int)) = false := decide_eq_false c0
            by_cases c1 : rd b ((i : Int) + 1) > 0
            · rw [if_pos (.inr c1)] at hr
              have HR2 := Aside0.mk hr
              have hc1 : decide (0 < rd b ((i : Int) + 1)) = true := decide_eq_true c1
              clear hr HR c0 c1
              go_wp2
              go_roundg q
              case measure => omega
              case rel => exact ⟨i + 1, m + 1, rfl, rfl, by omega, by omega, by omega, HR2⟩
            · rw [if_neg (by omega)] at hr
              have HR2 := Aside0.mk hr
              have hc1 : decide (0 < rd b ((i : Int) + 1)) = false := decide_eq_false c1
              clear hr HR c0 c1
              go_wp2
              go_roundg q
              case measure => omega
              case rel => exact ⟨i + 1, m, rfl, rfl, by omega, by omega, by omega, HR2⟩
        · obtain rfl : gk = 0 := by omega
          obtain rfl : i = a0.size := by omega
          have hnx := fun ty => run_next_end (P := Tryz.prog) w2 a0 a0.size ty (by omega)
          have hr := HR.out
          rw [abvFrom] at hr
          subst hr
          clear HR
          go_wp2
          go_ret2
          exact ⟨rfl, below_alloc HBel.out _⟩
    · rw [if_neg hg] at h; cases h
  · rw [if_neg h0] at h
    simp only [Option.some.injEq, Prod.mk.injEq] at h
    obtain ⟨rfl, rfl⟩ := h
    have h0' : (e != 0) = true := bne_iff_ne.2 h0
    clear he h0
    go_enter Tryz.func21, Tryz.ntmps21
    go_wp2_with (go_at_call 43; refine (till_balanced.calls k a0 e _ HE.out).mono ?_; rintro e w1 ⟨rfl, hb1⟩)
    go_ret2
    exact ⟨rfl, hb1⟩


end Go.Proofs.YtldohjlcckbfaaaGreatDoor.Hand
