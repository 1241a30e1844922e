/- till.Rotations, by hand: the rotations are appended onto a cut of no room. -/
import Derived.Test.YtldohjlcckbfaaaGreatDoorProg
import Derived.Below
import Derived.Deep.Draws
import Derived.Deep.AppendLies
import Derived.Maps.AppendAt
import Derived.OwnWalk
import Derived.Laws.BytesArg
import Derived.Laws.MakeOwn
import Derived.Laws.OwnMore
import Derived.Deep.OwnRows
import Derived.Tactics
import Derived.Lib.ConvBytes
import Derived.Laws.Slices
import Derived.WalkKit
import Derived.KernelRfl
import Derived.RowKit3
import Derived.Deep.LoopGhost
import Derived.Deep.QuietTactic
import Derived.BigQuiet
import Derived.WideLaws
import Derived.Deep.DeepCutAuto
import Derived.Deep.CutBlock
import Derived.Deep.RegionHeld3
import Derived.Laws.Rows
import Derived.Lib.AppendStr
import Derived.ArgAppend
import Derived.Laws.IdiomCopy
import Derived.OrdersHeld
import Derived.Laws.BitsLemmas
import Derived.RowKit
import Derived.Test.YtldohjlcckbfaaaGreatDoorWWords
import Derived.Test.YtldohjlcckbfaaaGreatDoorWLast
import Derived.Test.YtldohjlcckbfaaaGreatDoorWTab
import Derived.Test.YtldohjlcckbfaaaGreatDoorWFour
import Derived.Test.YtldohjlcckbfaaaGreatDoorWQPut
import Derived.Test.YtldohjlcckbfaaaGreatDoorWApart
import Derived.Test.YtldohjlcckbfaaaGreatDoorWArr
import Derived.Test.YtldohjlcckbfaaaGreatDoorWZeros
import Derived.Test.YtldohjlcckbfaaaGreatDoorWFoot
import Derived.Test.YtldohjlcckbfaaaGreatDoorWKept
import Derived.Test.YtldohjlcckbfaaaGreatDoorWShare
import Derived.Test.YtldohjlcckbfaaaGreatDoorWN
import Derived.Test.YtldohjlcckbfaaaGreatDoorWFootNe
import Derived.Test.YtldohjlcckbfaaaGreatDoorWAt
import Derived.Test.YtldohjlcckbfaaaGreatDoorWEqStruct
import Derived.Test.YtldohjlcckbfaaaGreatDoorWRepsOne
import Derived.Test.YtldohjlcckbfaaaGreatDoorWInv
import Derived.Test.YtldohjlcckbfaaaGreatDoorWInvWords
import Derived.Test.YtldohjlcckbfaaaGreatDoorWGuard
import Derived.Test.YtldohjlcckbfaaaGreatDoorWNEv
import Derived.Test.YtldohjlcckbfaaaGreatDoorWMore
import Derived.Test.YtldohjlcckbfaaaGreatDoorPre1
import Derived.Deep.RegionLaw
namespace Go.Proofs.YtldohjlcckbfaaaGreatDoor.Hand
open Go.RowKit Go.Proofs.YtldohjlcckbfaaaGreatDoorW.PrintWords Go.Proofs.YtldohjlcckbfaaaGreatDoorW.PrintLast Go.Proofs.YtldohjlcckbfaaaGreatDoorW.PrintMore
set_option linter.unusedVariables false
set_option linter.unusedSimpArgs false

open Go.Proofs.YtldohjlcckbfaaaGreatDoor.Pre
theorem own_R {w : World} {base n : Nat} {v : Value} {xs : List Int} (h : w.ownsRow base 3 1 v n (nums .i64 xs)) (hl : xs.length = n) : Kd.R (Kd.int .i64) 3 w base (fun _ => True) v xs := by
  subst hl
  refine ⟨fun _ _ => trivial, _, h, by simp [nums_length, Kd.int, Kd.scalar], fun j p hj => ?_⟩
  have hjl := (List.getElem?_eq_some_iff.1 hj)
  obtain ⟨h1, h2⟩ := hjl
  subst h2
  simp [Kd.int, Kd.scalar, nums, List.take_one, h1]

/-- The rotations from i on. -/
def rotsFrom (k : Nat) (l : List Int) : Nat → Nat → List Int → Option (List Int)
  | _, 0, out => some out
  | i, d + 1, out => (till_above.f k (l.drop i ++ l.take i)).bind fun a => rotsFrom k l (i + 1) d (if a = (l.length : Int) then out ++ [(i : Int)] else out)
def till_Rotations.f (k : Nat) (l : List Int) : Option (List Int × Int) := (till_counted.f k l).bind fun e => if e = 0 then (rotsFrom k l 0 l.length []).bind fun o => some (o, 0) else some ([], e)
theorem rotsFrom_mono (l : List Int) : ∀ (d i : Nat) (out : List Int) (k : Nat), LeO (rotsFrom k l i d out) (rotsFrom (k + 1) l i d out)
  | 0, _, _, _ => LeO.refl _
  | d + 1, i, out, k => LeO.bind (till_above.mono _ _) fun _ => rotsFrom_mono l d _ _ _
theorem till_Rotations.mono : ∀ a0 k, LeO (till_Rotations.f k a0) (till_Rotations.f (k + 1) a0) := fun a0 k =>
  LeO.bind (till_counted.mono _ _) fun _ => LeO.ite (LeO.bind (rotsFrom_mono _ _ _ _ _) fun _ => LeO.refl _) (LeO.refl _)

theorem run_append_zero {P : Program} (w : World) (t ty e : TypeId) (i : TypeInfo) (ht : P.underlying t = some (.slice e)) (hi : P.info? e = some i) (b a : Addr) (n cap c : Nat) (hn : n ≤ cap) :
    (Builtin.append_ #[t, t] ty #[.slice (some b) n cap, .slice (some a) 0 c]).run P w = .ok (.slice (some b) n cap) w := by
  have hfc := run_firstCells_some (P := P) w i.size 0 a 0 c [] (by simp) (fun j u hj => by simp at hj)
  have hst : ∀ ad : Addr, (storeCells ad [] 0).run P w = .ok () w := fun ad => rfl
  simp [Builtin.append_, run_underlying ht, sizeOf, typeInfo, hi, Builtin.lenOf, hn, hfc, hst]

theorem cells_of_C {w : World} {A : Option Addr} {xs : List Int} (h : Kd.C (Kd.int .i64) w A xs.length xs) (b : Addr) (hb : A = some b) : ∀ j u, (nums .i64 xs)[j]? = some u → w.cell? (b.add j) = some u := by
  intro j u hj
  have hlt : j < xs.length := by
    have := (List.getElem?_eq_some_iff.1 hj).1
    rwa [nums_length] at this
  obtain ⟨ad, h1, h2⟩ := Kd.at_int h (j : Int) (by omega) (by omega)
  rw [hb] at h1
  cases h1
  rw [Int.toNat_natCast] at h2
  rw [h2]
  simp [nums] at hj
  obtain ⟨x, hx, rfl⟩ := hj
  simp [rd, List.getD_eq_getElem?_getD, hx]

theorem C_of_own {w : World} {base n : Nat} {v : Value} {xs : List Int} (h : w.ownsRow base 3 1 v n (nums .i64 xs)) (hl : xs.length = n) : ∃ A c, v = .slice A n c ∧ n ≤ c ∧ Kd.C (Kd.int .i64) w A n xs := by
  subst hl
  have hR := own_R h rfl
  obtain ⟨A, c, rfl⟩ := Kd.R_slice hR
  exact ⟨A, c, rfl, (Kd.R_reads' hR).2.1, (Kd.R_reads' hR).2.2⟩

/-- The turned list, as one step of a region that draws its order. -/
theorem step_rot {P : Program} {ops : Array Oper} {o : Oper} {a : Act} {w : World} {K : Act → World → Prop} {Q : Exit → Act → World → Prop} {E : Prop}
    (hg : o.guard = none) (s x : Operand) (t : TypeId) (hop : o.op = Op.call { callee := Callee.builtin Builtin.append, args := #[s, x], argTypes := #[t, t] })
    (i : TypeInfo) (h1 : P.underlying t = some (.slice 3)) (h2 : P.info? 3 = some i) (h3 : i.zero = some (.int .i64 0)) (h4 : i.size = 1) (h5 : i.bytes = 8)
    (l : List Int) (r : Nat) (hr : r < l.length) (hl : l.length ≤ 1000) (b : Addr) (m1 m2 : Nat) (hs : a.eval s = .slice (some b) m1 m2) (e1 : m1 = l.length - r) (e2 : m2 = l.length - r)
    (b2 : Addr) (m3 c : Nat) (hx : a.eval x = .slice (some b2) m3 c) (e3 : m3 = r)
    (hd : Kd.C (Kd.int .i64) w (some b) (l.length - r) (l.drop r)) (ht : Kd.C (Kd.int .i64) w (some b2) r (l.take r))
    (hK : ∀ (A : Option Addr) (c' : Nat) w', l.length ≤ c' → Aside0 (Kd.C (Kd.int .i64) w' A l.length (l.drop r ++ l.take r)) → Aside0 (Below w.heap.size w w') → K (a.put o.dst (.slice A l.length c')) w') :
    if Region.wanted o (yielded ops a.tmps) = true then Oper.wp P o a w K Q else E := by
  have hw : Region.wanted o (yielded ops a.tmps) = true := by simp [Region.wanted, hg]
  rw [if_pos hw]
  subst e1 e2 e3
  by_cases h0 : m3 = 0
  · subst h0
    rw [Nat.sub_zero] at hs
    have hrun := run_append_zero (P := P) w t o.type 3 i h1 h2 b b2 l.length l.length c (Nat.le_refl _)
    unfold Oper.wp
    simp [execOp, hop, resolve, invoke, builtin, hs, hx, hrun, Result.andThen]
    refine hK (some b) l.length w (Nat.le_refl _) ⟨?_⟩ ⟨Below.refl _ _⟩
    simpa using hd
  · have dl : (l.drop m3).length = l.length - m3 := List.length_drop
    have tl : (l.take m3).length = m3 := by rw [List.length_take]; omega
    obtain ⟨v', w', hrun, r1, r2⟩ := run_append_arg_grows (P := P) w t o.type 3 i (.int .i64 0) 1 8 h1 h2 h3 h4 h5 rfl (by decide) b (l.length - m3) (l.length - m3) (nums .i64 (l.drop m3)) (by rw [nums_length, dl]; omega)
      (cells_of_C (by rw [dl]; exact hd) b rfl) b2 m3 c (nums .i64 (l.take m3)) (by rw [nums_length, tl]; omega) (cells_of_C (by rw [tl]; exact ht) b2 rfl) (by omega) (by simp only [maxLen]; omega) (by omega)
    rw [← nums_append] at r1
    obtain ⟨A, c', rfl, hc, hC⟩ := C_of_own r1 (by rw [List.length_append, dl, tl])
    rw [show l.length - m3 + m3 = l.length by omega] at hrun hc hC
    unfold Oper.wp
    simp [execOp, hop, resolve, invoke, builtin, hs, hx, hrun, Result.andThen]
    exact hK A c' w' hc ⟨hC⟩ ⟨pw_below_grown (Below.refl _ _) none (Nat.le_refl _) r2 (fun k hk => by cases hk)⟩

theorem C_takeI {w : World} {b : Addr} {l : List Int} (h : Kd.C (Kd.int .i64) w (some b) l.length l) (i : Nat) (hi : i ≤ l.length) : Kd.C (Kd.int .i64) w (some b) i (l.take i) := by
  have := Kd.C_take h hi
  rwa [List.length_take, Nat.min_eq_left hi] at this
theorem C_dropI {w : World} {b : Addr} {l : List Int} (h : Kd.C (Kd.int .i64) w (some b) l.length l) (i : Nat) (hi : i < l.length) : Kd.C (Kd.int .i64) w (some (b.add i)) (l.length - i) (l.drop i) := by
  have := Kd.C_drop (c := l.length) h (Nat.le_of_lt hi) (Nat.le_refl _)
  rw [if_neg (by omega), List.length_drop, show (Kd.int IntKind.i64).sz = 1 from rfl, Nat.mul_one] at this
  exact this
theorem above_rot (k : Nat) (l : List Int) (i : Nat) (A : Option Addr) (c : Nat) (a : Int) (w : World) (hi : i ≤ l.length) (h : Kd.C (Kd.int .i64) w A l.length (l.drop i ++ l.take i)) (hc : l.length ≤ c) (ha : till_above.f k (l.drop i ++ l.take i) = some a) :
    Calls Tryz.prog 52 #[.slice A l.length c] w fun e w' => e = .returned (.int .i64 a) ∧ Below w.heap.size w w' := by
  have e : (l.drop i ++ l.take i).length = l.length := by rw [List.length_append, List.length_drop, List.length_take]; omega
  have := till_above.calls k A c (l.drop i ++ l.take i) a w (by rw [e]; exact h) (by omega) ha
  rwa [e] at this

set_option maxHeartbeats 600000 in
set_option maxRecDepth 100000 in
theorem till_Rotations.calls (k : Nat) (A0 : Option Addr) (c0 : Nat) (l0 : List Int) (r1 : List Int) (r2 : Int) (w : World) (hr0 : Kd.C (Kd.int .i64) w A0 l0.length l0) (hc0 : l0.length ≤ c0) (h : till_Rotations.f k l0 = some (r1, r2)) :
    Calls Tryz.prog 27 #[.slice A0 l0.length c0] w fun e w' => ∃ v0_ : Value, e = .returned (.tuple #[v0_, .int .i64 r2]) ∧ Kd.R (Kd.int .i64) 3 w' w.heap.size (fun _ => True) v0_ r1 ∧ Below w.heap.size w w' := by
  unfold till_Rotations.f at h
  obtain ⟨e, he, h⟩ := Option.bind_eq_some_iff.1 h
  have HE := Aside0.mk he
  have HC := Aside0.mk hr0
  by_cases h0 : e = 0
  · rw [if_pos h0] at h
    subst h0
    obtain ⟨out, ho, h⟩ := Option.bind_eq_some_iff.1 h
    simp only [Option.some.injEq, Prod.mk.injEq] at h
    obtain ⟨rfl, rfl⟩ := h
    clear h
    have HO := Aside0.mk ho
    have hn60 : l0.length ≤ 60 := by
      unfold till_counted.f at he
      split at he
      · cases he
      · omega
    clear he hr0 ho
    have hiu : Tryz.prog.underlying 22 = some (.slice 3) := Tryz.underlying22
    have info3 : (Tryz.prog.info? 3).map (fun i => (i.zero, i.size, i.bytes)) = some (some (.int .i64 0), 1, 8) := by kernel_rfl
    obtain ⟨i0, hi, hz0, hz1, hz2⟩ := info_parts info3
    go_enter Tryz.func27, Tryz.ntmps27
    go_wp2_with (go_at_call 51; refine (till_counted.calls k A0 c0 l0 0 _ HC.out hc0 HE.out).mono ?_; rintro e w1 ⟨rfl, ⟨nd, rfl⟩⟩)
    go_loopg [5, 14] l0.length (fun q v5 v14 wr => ∃ (i : Nat) (o : List Int), v14 = .int .i64 i ∧ i + q = l0.length ∧ o.length ≤ i ∧ Aside0 (rotsFrom k l0 i q o = some out) ∧ Aside0 (wr.ownsRow w.heap.size 3 1 v5 o.length (nums .i64 o)) ∧ Aside0 (Below w.heap.size w wr))
    case atStart => exact ⟨0, [], rfl, by omega, Nat.le_refl _, HO, ⟨own_nil _ _ _ _⟩, ⟨pw_below_drewN (Below.refl _ _) _⟩⟩
    case round =>
      clear HO HE
      obtain ⟨i, o, rfl, hiq, hol, HR, HV, HB⟩ := hrel
      by_cases hlt : i < l0.length
      · obtain ⟨q, rfl⟩ : ∃ q, gk = q + 1 := ⟨gk - 1, by omega⟩
        have hd : decide ((i : Int) < (l0.length : Int)) = true := decide_eq_true (by omega)
        have hr := HR.out
        rw [rotsFrom] at hr
        obtain ⟨a, ha, hr⟩ := Option.bind_eq_some_iff.1 hr
        have HA := Aside0.mk ha
        have HQ := Aside0.mk hr
        have HCw := Aside0.mk (Kd.C_below HC.out HB.out)
        clear ha hr HR hd
        have hd : (i : Int) < (l0.length : Int) := by omega
        obtain ⟨b0, rfl, _⟩ := Kd.at_int HC.out 0 (by omega) (by omega)
        have hi1 : i ≤ l0.length := by omega
        have hi2 : ¬ l0.length = i := by omega
        have hi3 : i ≤ c0 := by omega
        go_wp2
        go_region_law ((first | (refine step_rot rfl (.tmp 23) (.tmp 26) 22 rfl i0 Tryz.underlying22 hi hz0 hz1 hz2 l0 i hlt (by omega) (b0.add i) (l0.length - i) (l0.length - i) (by simp [Act.eval, Act.put]) rfl rfl b0 i c0 (by simp [Act.eval, Act.put]) rfl (C_dropI (Kd.C_drew HCw.out) i hlt) (C_takeI (Kd.C_drew HCw.out) i hi1) ?_; intro A' c' w2 hc' HC2 HB2) | (go_simp; go_at_call 52; refine (above_rot k l0 i A' c' a w2 hi1 HC2.out hc' HA.out).mono ?_; rintro e w3 ⟨rfl, hb3⟩)))
        have HB3 := Aside0.mk (HB.out.trans ((below_drew (Below.refl _ wr)).trans (HB2.out.trans (hb3.mono HB2.out.size)) |>.mono HB.out.size))
        have HV3 := Aside0.mk (pw_own_below HV.out ((below_drew (Below.refl _ wr)).trans (HB2.out.trans (hb3.mono HB2.out.size))))
        clear HB2 HC2 hb3 HV HB HCw
        by_cases hq : a = (l0.length : Int)
        · have hq' : (a == (l0.length : Int)) = true := beq_iff_eq.2 hq
          have hqq := HQ.out
          rw [if_pos hq] at hqq
          have HQ2 := Aside0.mk hqq
          clear hqq HQ hq
          go_wp2_with (at_builtin; refine wpList_append_own _ rfl _ _ 22 rfl w.heap.size 3 i0 (.int .i64 0) 1 8 Tryz.underlying22 hi hz0 hz1 hz2 rfl (by decide) _ _ _ rfl (HV3.out.alloc _) ⟨w3.heap.size, 0, none⟩ 1 1 [.int .i64 (i : Int)] rfl rfl ?c1 ?c2 ?c3 ?c4 ?c5 ?_)
          case c1 => exact cell_one_new _ _ _
          case c2 => intro u hu; simp at hu; subst hu; rfl
          case c3 => unfold maxLen; omega
          case c4 => omega
          case c5 => have := HB3.out.size; simp; omega
          intro v' w4 hown4 hgrow4 _
          have HV4 : Aside0 (w4.ownsRow w.heap.size 3 1 v' (o ++ [(i : Int)]).length (nums .i64 (o ++ [(i : Int)]))) := ⟨by rw [nums_append, List.length_append]; exact hown4⟩
          have HB4 : Aside0 (Below w.heap.size w w4) := ⟨pw_below_grown (below_alloc HB3.out _) _ (by have := HB3.out.size; simp; omega) hgrow4 (fun g hg => own_base HV3.out g hg)⟩
          clear hown4 hgrow4 HB3 HV3
          go_wp2
          go_roundg q
          case measure => omega
          case rel => exact ⟨i + 1, o ++ [(i : Int)], by go_num, by omega, by simp; omega, HQ2, HV4, HB4⟩
        · have hq' : (a == (l0.length : Int)) = false := Bool.eq_false_iff.2 (fun h => hq (beq_iff_eq.1 h))
          have hqq := HQ.out
          rw [if_neg hq] at hqq
          have HQ2 := Aside0.mk hqq
          clear hqq HQ hq
          go_wp2
          go_roundg q
          case measure => omega
          case rel => exact ⟨i + 1, o, by go_num, by omega, by omega, HQ2, HV3, HB3⟩
      · obtain rfl : gk = 0 := by omega
        obtain rfl : i = l0.length := by omega
        have hd : decide ((l0.length : Int) < (l0.length : Int)) = false := decide_eq_false (by omega)
        have hr := HR.out
        rw [rotsFrom] at hr
        obtain rfl := Option.some.inj hr
        clear hr HR
        go_wp2
        go_ret2
        exact ⟨_, rfl, own_R HV.out rfl, HB.out⟩
  · rw [if_neg h0] at h
    simp only [Option.some.injEq, Prod.mk.injEq] at h
    obtain ⟨rfl, rfl⟩ := h
    have hne : (e != 0) = true := bne_iff_ne.mpr h0
    clear he h0 hr0
    go_enter Tryz.func27, Tryz.ntmps27
    go_wp2_with (go_at_call 51; refine (till_counted.calls k A0 c0 l0 e _ HC.out hc0 HE.out).mono ?_; rintro e w1 ⟨rfl, ⟨nd, rfl⟩⟩)
    go_ret2
    exact ⟨_, rfl, Kd.R_nil _ _ _ _ _, pw_below_drewN (Below.refl _ _) nd⟩

end Go.Proofs.YtldohjlcckbfaaaGreatDoor.Hand
