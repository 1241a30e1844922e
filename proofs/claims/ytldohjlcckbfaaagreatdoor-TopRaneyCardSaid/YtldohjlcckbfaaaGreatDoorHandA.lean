/- chairs.wished, by hand: ContainsFunc with a closure that captures the number of chairs. -/
import Derived.Test.YtldohjlcckbfaaaGreatDoorProg
import Derived.Below
import Derived.Deep.Draws
import Derived.Deep.AppendLies
import Derived.Maps.AppendAt
import Derived.OwnWalk
import Derived.Laws.BytesArg
import Derived.Laws.MakeOwn
import Derived.Laws.OwnMore
import Derived.Deep.OwnRows
import Derived.Tactics
import Derived.Lib.ConvBytes
import Derived.Laws.Slices
import Derived.WalkKit
import Derived.KernelRfl
import Derived.RowKit3
import Derived.Deep.LoopGhost
import Derived.Deep.QuietTactic
import Derived.BigQuiet
import Derived.WideLaws
import Derived.Deep.DeepCutAuto
import Derived.Deep.CutBlock
import Derived.Deep.RegionHeld3
import Derived.Laws.Rows
import Derived.Lib.AppendStr
import Derived.ArgAppend
import Derived.Laws.IdiomCopy
import Derived.OrdersHeld
import Derived.Laws.BitsLemmas
import Derived.RowKit
import Derived.Test.YtldohjlcckbfaaaGreatDoorWWords
import Derived.Test.YtldohjlcckbfaaaGreatDoorWLast
import Derived.Test.YtldohjlcckbfaaaGreatDoorWTab
import Derived.Test.YtldohjlcckbfaaaGreatDoorWFour
import Derived.Test.YtldohjlcckbfaaaGreatDoorWQPut
import Derived.Test.YtldohjlcckbfaaaGreatDoorWApart
import Derived.Test.YtldohjlcckbfaaaGreatDoorWArr
import Derived.Test.YtldohjlcckbfaaaGreatDoorWZeros
import Derived.Test.YtldohjlcckbfaaaGreatDoorWFoot
import Derived.Test.YtldohjlcckbfaaaGreatDoorWKept
import Derived.Test.YtldohjlcckbfaaaGreatDoorWShare
import Derived.Test.YtldohjlcckbfaaaGreatDoorWN
import Derived.Test.YtldohjlcckbfaaaGreatDoorWFootNe
import Derived.Test.YtldohjlcckbfaaaGreatDoorWAt
import Derived.Test.YtldohjlcckbfaaaGreatDoorWEqStruct
import Derived.Test.YtldohjlcckbfaaaGreatDoorWRepsOne
import Derived.Test.YtldohjlcckbfaaaGreatDoorWInv
import Derived.Test.YtldohjlcckbfaaaGreatDoorWInvWords
import Derived.Test.YtldohjlcckbfaaaGreatDoorWGuard
import Derived.Test.YtldohjlcckbfaaaGreatDoorWNEv
import Derived.Test.YtldohjlcckbfaaaGreatDoorWMore
namespace Go.Proofs.YtldohjlcckbfaaaGreatDoor.Hand
open Go.RowKit Go.Proofs.YtldohjlcckbfaaaGreatDoorW.PrintWords Go.Proofs.YtldohjlcckbfaaaGreatDoorW.PrintLast Go.Proofs.YtldohjlcckbfaaaGreatDoorW.PrintMore
set_option linter.unusedVariables false
set_option linter.unusedSimpArgs false

def outB (x m : Int) : Bool := decide (x < 0) || decide (m ≤ x)
set_option maxRecDepth 100000 in
theorem wished1 (x m : Int) (c : Addr) (w : World) (hm : w.cell? c = some (.int .i64 m)) :
    Calls Tryz.prog 49 #[.int .i64 x, .pointer (some c)] w fun e w' => e = .returned (.bool (outB x m)) ∧ w = w' := by
  by_cases h1 : x < 0
  · have h1' : decide (x < 0) = true := decide_eq_true h1
    have e : outB x m = true := by unfold outB; rw [h1']; rfl
    have E := Aside0.mk e
    clear e h1
    go_enter Tryz.func49, Tryz.ntmps49
    go_wp2
    go_ret
    exact ⟨by rw [E.out]; rfl, rfl⟩
  · have h1' : decide (x < 0) = false := decide_eq_false h1
    have e : outB x m = decide (m ≤ x) := by unfold outB; rw [h1']; rfl
    have E := Aside0.mk e
    clear e h1
    go_enter Tryz.func49, Tryz.ntmps49
    go_wp2
    go_ret
    exact ⟨by rw [E.out]; rfl, rfl⟩
def idxO (m : Int) : List Int → Nat → Int
  | [], _ => -1
  | x :: l, i => if outB x m = true then (i : Int) else idxO m l (i + 1)
theorem idxO_neg (m : Int) : ∀ (l : List Int) (i : Nat), decide (0 ≤ idxO m l i) = l.any (outB · m)
  | [], i => by simp [idxO]
  | x :: l, i => by
    rw [idxO, List.any_cons]
    by_cases h : outB x m = true
    · rw [if_pos h, h]; simp
    · rw [if_neg h, idxO_neg m l (i + 1), Bool.eq_false_iff.2 h]; rfl
set_option maxHeartbeats 1000000 in
set_option maxRecDepth 100000 in
theorem indexFunc (A0 : Option Addr) (c0 : Nat) (l0 : List Int) (m : Int) (c : Addr) (w : World) (hr0 : Kd.C (Kd.int .i64) w A0 l0.length l0) (hL : l0.length ≤ 100) (hm : w.cell? c = some (.int .i64 m)) (r : Int) (h : idxO m l0 0 = r) :
    Calls Tryz.prog 91 #[.slice A0 l0.length c0, .func (.func 49) #[] #[.pointer (some c)]] w fun e w' => e = .returned (.int .i64 r) ∧ w = w' := by
  have HC := Aside0.mk hr0
  have HM := Aside0.mk hm
  have H0 := Aside0.mk h

  clear hr0 hm h
  go_enter Tryz.func91, Tryz.ntmps91
  go_wp2
  go_loopg [8] l0.length (fun q v8 wr => ∃ i : Nat, wr = w ∧ v8 = .int .i64 i ∧ i + q = l0.length ∧ Aside0 (idxO m (l0.drop i) i = r))
  case atStart => exact ⟨0, rfl, rfl, by omega, ⟨by rw [List.drop_zero]; exact H0.out⟩⟩
  case round =>
    clear H0
    obtain ⟨i, rfl, rfl, hiq, HR⟩ := hrel
    by_cases hlt : i < l0.length
    · obtain ⟨q, rfl⟩ : ∃ q, gk = q + 1 := ⟨gk - 1, by omega⟩
      obtain ⟨ad, e1, hx0⟩ := Kd.at_int HC.out (i : Int) (by omega) (by omega)
      subst e1
      rw [Int.toNat_natCast] at hx0
      have hr := HR.out
      rw [List.drop_eq_getElem_cons hlt, idxO] at hr
      have hrd : rd l0 (i : Int) = l0[i] := by unfold rd; rw [Int.toNat_natCast, List.getD_eq_getElem?_getD, List.getElem?_eq_getElem hlt]; rfl
      rw [← hrd] at hr
      have HR2 := Aside0.mk hr
      clear hr HR hrd
      have hd : decide ((i : Int) < (l0.length : Int)) = true := decide_eq_true (by omega)
      by_cases hb : outB (rd l0 (i : Int)) m = true
      · have H2 := Aside0.mk (show (i : Int) = r by have := HR2.out; rwa [if_pos hb] at this)
        clear HR2
        go_wp2_with (go_at_call 49; refine (wished1 _ m c _ HM.out).mono ?_; rintro e w1 ⟨rfl, rfl⟩)
        go_ret
        exact ⟨by rw [← H2.out]; rfl, rfl⟩
      · have hb' := Bool.eq_false_iff.2 hb
        have H2 := Aside0.mk (show idxO m (l0.drop (i + 1)) (i + 1) = r by have := HR2.out; rwa [if_neg hb] at this)
        have hw : wrap64 ((i : Int) + 1) = (i : Int) + 1 := by unfold wrap64; omega
        clear HR2 hb
        go_wp2_with (go_at_call 49; refine (wished1 _ m c _ HM.out).mono ?_; rintro e w1 ⟨rfl, rfl⟩)
        go_roundg q
        case measure => omega
        case rel => exact ⟨i + 1, rfl, by rw [Int.natCast_succ], by omega, H2⟩
    · obtain rfl : gk = 0 := by omega
      obtain rfl : i = l0.length := by omega
      have hd : decide ((l0.length : Int) < (l0.length : Int)) = false := decide_eq_false (by omega)
      have hr := HR.out
      rw [List.drop_length, idxO] at hr
      have H2 := Aside0.mk hr
      clear HR hr
      go_wp2
      go_ret
      exact ⟨by rw [← H2.out]; rfl, rfl⟩
set_option maxHeartbeats 1000000 in
set_option maxRecDepth 100000 in
theorem containsFunc (A0 : Option Addr) (c0 : Nat) (l0 : List Int) (m : Int) (c : Addr) (w : World) (hr0 : Kd.C (Kd.int .i64) w A0 l0.length l0) (hL : l0.length ≤ 100) (hm : w.cell? c = some (.int .i64 m)) (r : Bool) (h : l0.any (outB · m) = r) :
    Calls Tryz.prog 48 #[.slice A0 l0.length c0, .func (.func 49) #[] #[.pointer (some c)]] w fun e w' => e = .returned (.bool r) ∧ w = w' := by
  have H := Aside0.mk (idxO_neg m l0 0)
  have HR := Aside0.mk h
  have HC := Aside0.mk hr0
  clear hr0 h
  go_enter Tryz.func48, Tryz.ntmps48
  go_wp2_with (go_at_call 91; refine (indexFunc A0 c0 l0 m c _ HC.out hL hm _ rfl).mono ?_; rintro e w1 ⟨rfl, rfl⟩)
  go_ret
  refine ⟨?_, rfl⟩
  show Ending.returned (.bool (decide (0 ≤ idxO m l0 0))) = _
  rw [H.out, HR.out]
def chairs_wished.f (m : Int) (l : List Int) : Option Int := if m < 1 then some 2 else if m > 30 then some 2 else if (l.length : Int) > m then some 3 else if l.any (outB · m) = true then some 2 else some 0
set_option maxHeartbeats 1000000 in
set_option maxRecDepth 100000 in
theorem chairs_wished.calls (a0 : Int) (A1 : Option Addr) (c1 : Nat) (l1 : List Int) (r : Int) (w : World) (hr1 : Kd.C (Kd.int .i64) w A1 l1.length l1) (hc1 : l1.length ≤ c1) (h : chairs_wished.f a0 l1 = some r) :
    Calls Tryz.prog 23 #[.int .i64 a0, .slice A1 l1.length c1] w fun e w' => e = .returned (.int .i64 r) ∧ Below w.heap.size w w' := by
  have hmf : ∀ (fn : Fn) (first cap : Array Value) (w : World), (Instr.makeFunc fn first cap).run Tryz.prog w = .ok (.func fn first cap) w := fun _ _ _ _ => rfl
  have H := h
  have HC := Aside0.mk hr1
  clear hr1 h
  have hB := fun o => below_alloc (Below.refl w.heap.size w) o
  unfold chairs_wished.f at H
  by_cases c1 : a0 < 1
  · rw [if_pos c1] at H
    obtain rfl := Option.some.inj H
    have c1' : decide (a0 < 1) = true := decide_eq_true c1
    clear c1
    go_enter Tryz.func23, Tryz.ntmps23
    go_wp2
    go_ret
    exact ⟨rfl, hB _⟩
  · rw [if_neg c1] at H
    have c1' : decide (a0 < 1) = false := decide_eq_false c1
    by_cases c2 : a0 > 30
    · rw [if_pos c2] at H
      obtain rfl := Option.some.inj H
      have c2' : decide (30 < a0) = true := decide_eq_true c2
      clear c1 c2
      go_enter Tryz.func23, Tryz.ntmps23
      go_wp2
      go_ret
      exact ⟨rfl, hB _⟩
    · rw [if_neg c2] at H
      have c2' : decide (30 < a0) = false := decide_eq_false c2
      by_cases c3 : (l1.length : Int) > a0
      · rw [if_pos c3] at H
        obtain rfl := Option.some.inj H
        have c3' : decide (a0 < (l1.length : Int)) = true := decide_eq_true c3
        clear c1 c2 c3
        go_enter Tryz.func23, Tryz.ntmps23
        go_wp2
        go_ret
        exact ⟨rfl, hB _⟩
      · rw [if_neg c3] at H
        have c3' : decide (a0 < (l1.length : Int)) = false := decide_eq_false c3
        have hL : l1.length ≤ 100 := by omega
        have hC2 := fun o => Kd.C_below HC.out (below_alloc (Below.refl _ w) o)
        by_cases c4 : l1.any (outB · a0) = true
        · rw [if_pos c4] at H
          obtain rfl := Option.some.inj H
          have C4 := Aside0.mk c4
          clear c1 c2 c3 c4
          go_enter Tryz.func23, Tryz.ntmps23
          go_wp2_with (go_at_call 48; refine (containsFunc A1 _ l1 a0 ⟨w.heap.size, 0, none⟩ _ (hC2 _) hL (by simp [World.cell?_alloc_at]) true C4.out).mono ?_; rintro e w1 ⟨rfl, rfl⟩)
          go_ret
          exact ⟨rfl, hB _⟩
        · rw [if_neg c4] at H
          obtain rfl := Option.some.inj H
          have C4 := Aside0.mk (Bool.eq_false_iff.2 c4)
          clear c1 c2 c3 c4
          go_enter Tryz.func23, Tryz.ntmps23
          go_wp2_with (go_at_call 48; refine (containsFunc A1 _ l1 a0 ⟨w.heap.size, 0, none⟩ _ (hC2 _) hL (by simp [World.cell?_alloc_at]) false C4.out).mono ?_; rintro e w1 ⟨rfl, rfl⟩)
          go_ret
          exact ⟨rfl, hB _⟩

end Go.Proofs.YtldohjlcckbfaaaGreatDoor.Hand
