/- What the closed example of layers 1 and 2 comes to, part 2: the sentences are read, and their least fixed point. -/
import Derived.Test.YtldohjlcckbfaaaGreatDoorProg
import Derived.Below
import Derived.Deep.Draws
import Derived.Deep.AppendLies
import Derived.Maps.AppendAt
import Derived.OwnWalk
import Derived.Laws.BytesArg
import Derived.Laws.MakeOwn
import Derived.Laws.OwnMore
import Derived.Deep.OwnRows
import Derived.Tactics
import Derived.Lib.ConvBytes
import Derived.Laws.Slices
import Derived.WalkKit
import Derived.KernelRfl
import Derived.RowKit3
import Derived.Deep.LoopGhost
import Derived.Deep.QuietTactic
import Derived.BigQuiet
import Derived.WideLaws
import Derived.Deep.DeepCutAuto
import Derived.Deep.CutBlock
import Derived.Deep.RegionHeld3
import Derived.Laws.Rows
import Derived.Lib.AppendStr
import Derived.ArgAppend
import Derived.Laws.IdiomCopy
import Derived.OrdersHeld
import Derived.Laws.BitsLemmas
import Derived.RowKit
import Derived.Test.YtldohjlcckbfaaaGreatDoorWWords
import Derived.Test.YtldohjlcckbfaaaGreatDoorWLast
import Derived.Test.YtldohjlcckbfaaaGreatDoorWTab
import Derived.Test.YtldohjlcckbfaaaGreatDoorWFour
import Derived.Test.YtldohjlcckbfaaaGreatDoorWQPut
import Derived.Test.YtldohjlcckbfaaaGreatDoorWApart
import Derived.Test.YtldohjlcckbfaaaGreatDoorWArr
import Derived.Test.YtldohjlcckbfaaaGreatDoorWZeros
import Derived.Test.YtldohjlcckbfaaaGreatDoorWFoot
import Derived.Test.YtldohjlcckbfaaaGreatDoorWKept
import Derived.Test.YtldohjlcckbfaaaGreatDoorWShare
import Derived.Test.YtldohjlcckbfaaaGreatDoorWN
import Derived.Test.YtldohjlcckbfaaaGreatDoorWFootNe
import Derived.Test.YtldohjlcckbfaaaGreatDoorWAt
import Derived.Test.YtldohjlcckbfaaaGreatDoorWEqStruct
import Derived.Test.YtldohjlcckbfaaaGreatDoorWRepsOne
import Derived.Test.YtldohjlcckbfaaaGreatDoorWInv
import Derived.Test.YtldohjlcckbfaaaGreatDoorWInvWords
import Derived.Test.YtldohjlcckbfaaaGreatDoorWGuard
import Derived.Test.YtldohjlcckbfaaaGreatDoorWNEv
import Derived.Test.YtldohjlcckbfaaaGreatDoorWMore
import Derived.Test.YtldohjlcckbfaaaGreatDoorHandS
import Derived.Lib.Hide
namespace Go.Proofs.YtldohjlcckbfaaaGreatDoor.Hand
open Go.RowKit Go.Proofs.YtldohjlcckbfaaaGreatDoorW.PrintWords Go.Proofs.YtldohjlcckbfaaaGreatDoorW.PrintLast Go.Proofs.YtldohjlcckbfaaaGreatDoorW.PrintMore
set_option linter.unusedVariables false
set_option linter.unusedSimpArgs false

open Go.Proofs.YtldohjlcckbfaaaGreatDoor.Pre
abbrev fC : Value := .iface 267 (.int .u8 49)
abbrev fL (n : Int) : Value := .iface 268 (.int .i64 n)
abbrev fN (n : Int) : Value := .iface 270 (.agg #[fL n])
set_option maxHeartbeats 2000000 in
set_option maxRecDepth 100000 in
theorem read_const (w : World) :
    Calls Tryz.prog 172 #[.string sen3, .int .i64 3] w fun e w' => e = .returned (.tuple #[fC, .string ⟨#[]⟩]) ∧ Below w.heap.size w w' := by
  unfold sen3
  go_enter Tryz.func172, Tryz.ntmps172
  go_wp2
  go_region
  go_wp2
  go_ret2
  exact ⟨rfl, (Below.refl _ _).drew⟩
set_option maxHeartbeats 2000000 in
set_option maxRecDepth 100000 in
theorem read_letter1 (w : World) :
    Calls Tryz.prog 172 #[.string ⟨#[98]⟩, .int .i64 3] w fun e w' => e = .returned (.tuple #[fL 1, .string ⟨#[]⟩]) ∧ Below w.heap.size w w' := by
  go_enter Tryz.func172, Tryz.ntmps172
  go_wp2
  go_region
  go_wp2
  go_ret2
  exact ⟨rfl, (Below.refl _ _).drew⟩
set_option maxHeartbeats 2000000 in
set_option maxRecDepth 100000 in
theorem read_letter2 (w : World) :
    Calls Tryz.prog 172 #[.string ⟨#[99]⟩, .int .i64 3] w fun e w' => e = .returned (.tuple #[fL 2, .string ⟨#[]⟩]) ∧ Below w.heap.size w w' := by
  go_enter Tryz.func172, Tryz.ntmps172
  go_wp2
  go_region
  go_wp2
  go_ret2
  exact ⟨rfl, (Below.refl _ _).drew⟩
theorem readArg : ((⟨#[33, 98]⟩ : ByteArray).extract 1 2 = ⟨#[98]⟩) ∧ ((⟨#[33, 99]⟩ : ByteArray).extract 1 2 = ⟨#[99]⟩) := by decide
set_option maxHeartbeats 2000000 in
set_option maxRecDepth 100000 in
theorem read_not1 (w : World) :
    Calls Tryz.prog 172 #[.string sen1, .int .i64 3] w fun e w' => e = .returned (.tuple #[fN 1, .string ⟨#[]⟩]) ∧ Below w.heap.size w w' := by
  unfold sen1
  have hnl : ∀ (w : World) (t : TypeId) (v : Value), (binOp .eql 186 (.iface t v) .nilIface).run Tryz.prog w = .ok (.bool false) w := fun _ _ _ => rfl
  go_enter Tryz.func172, Tryz.ntmps172
  go_wp2
  go_region
  go_wp2_with fail
  refine (read_letter1 _).mono ?_
  rintro e w1 ⟨rfl, hb⟩
  go_wp2
  go_ret2
  exact ⟨rfl, ((Below.refl _ _).drew).trans hb⟩
set_option maxHeartbeats 2000000 in
set_option maxRecDepth 100000 in
theorem read_not2 (w : World) :
    Calls Tryz.prog 172 #[.string sen2, .int .i64 3] w fun e w' => e = .returned (.tuple #[fN 2, .string ⟨#[]⟩]) ∧ Below w.heap.size w w' := by
  unfold sen2
  have hnl : ∀ (w : World) (t : TypeId) (v : Value), (binOp .eql 186 (.iface t v) .nilIface).run Tryz.prog w = .ok (.bool false) w := fun _ _ _ => rfl
  go_enter Tryz.func172, Tryz.ntmps172
  go_wp2
  go_region
  go_wp2_with fail
  refine (read_letter2 _).mono ?_
  rintro e w1 ⟨rfl, hb⟩
  go_wp2
  go_ret2
  exact ⟨rfl, ((Below.refl _ _).drew).trans hb⟩
set_option maxHeartbeats 2000000 in
set_option maxRecDepth 100000 in
theorem parse_of (s : ByteArray) (t : TypeId) (v : Value) (hs : s.size ≤ 40) (hr : ∀ w, Calls Tryz.prog 172 #[.string s, .int .i64 3] w fun e w' => e = .returned (.tuple #[.iface t v, .string ⟨#[]⟩]) ∧ Below w.heap.size w w') (w : World) :
    Calls Tryz.prog 131 #[.string s, .int .i64 3] w fun e w' => e = .returned (.tuple #[.iface t v, .int .i64 0]) ∧ Below w.heap.size w w' := by
  have hnl : ∀ (w : World) (t : TypeId) (v : Value), (binOp .eql 186 (.iface t v) .nilIface).run Tryz.prog w = .ok (.bool false) w := fun _ _ _ => rfl
  have hd : decide (40 < (s.size : Int)) = false := decide_eq_false (by omega)
  have HR := Lib.hid hr
  clear hr hs
  go_enter Tryz.func131, Tryz.ntmps131
  go_wp2_with fail
  refine (HR.out _).mono ?_
  rintro e w1 ⟨rfl, hb⟩
  go_wp2
  go_ret2
  exact ⟨rfl, hb⟩
/-- The sentences lie in a row. -/
def sens : List Value := [.string sen1, .string sen2, .string sen3]
def forms : List Value := [fN 1, fN 2, fC]
theorem parse1 (w : World) : Calls Tryz.prog 131 #[.string sen1, .int .i64 3] w fun e w' => e = .returned (.tuple #[fN 1, .int .i64 0]) ∧ Below w.heap.size w w' := parse_of sen1 _ _ (by decide) read_not1 w
theorem parse2 (w : World) : Calls Tryz.prog 131 #[.string sen2, .int .i64 3] w fun e w' => e = .returned (.tuple #[fN 2, .int .i64 0]) ∧ Below w.heap.size w w' := parse_of sen2 _ _ (by decide) read_not2 w
theorem parse3 (w : World) : Calls Tryz.prog 131 #[.string sen3, .int .i64 3] w fun e w' => e = .returned (.tuple #[fC, .int .i64 0]) ∧ Below w.heap.size w w' := parse_of sen3 _ _ (by decide) read_const w
/-- Three cells in a row. -/
structure Row3 (g : Nat) (x y z : Value) (w : World) : Prop where
  lt : g < w.heap.size
  c0 : w.cell? ⟨g, 0, none⟩ = some x
  c1 : w.cell? ⟨g, 1, none⟩ = some y
  c2 : w.cell? ⟨g, 2, none⟩ = some z
theorem Row3.below {g : Nat} {x y z : Value} {w w' : World} (h : Row3 g x y z w) (hb : Below w.heap.size w w') : Row3 g x y z w' :=
  ⟨Nat.lt_of_lt_of_le h.lt hb.size, pw_cell_below hb h.c0, pw_cell_below hb h.c1, pw_cell_below hb h.c2⟩
theorem Row3.block {g : Nat} {x y z : Value} {w w' : World} (h : Row3 g x y z w) (hb : w'.heap[g]? = w.heap[g]?) : Row3 g x y z w' := by
  have e : ∀ k, w'.cell? ⟨g, k, none⟩ = w.cell? ⟨g, k, none⟩ := fun k => by simp only [World.cell?, hb]
  refine ⟨?_, (e 0).trans h.c0, (e 1).trans h.c1, (e 2).trans h.c2⟩
  have := Array.getElem?_eq_getElem h.lt
  rw [this] at hb
  exact (Array.getElem?_eq_some_iff.1 hb).1
theorem own_row3 {w : World} {base : Nat} {e : TypeId} {v x y z : Value} (h : w.ownsRow base e 1 v 3 [x, y, z]) : ∃ g cap, v = .slice (some ⟨g, 0, none⟩) 3 cap ∧ base ≤ g ∧ Row3 g x y z w := by
  obtain ⟨_, h2⟩ := h
  rcases h2 with ⟨_, h2⟩ | ⟨g, cap, cur, rfl, hg, hh, _, _, _, ht⟩
  · cases h2
  · have e : ∀ k, k < 3 → cur[k]? = [x, y, z][k]? := fun k hk => by
      rw [← ht, Nat.mul_one, List.getElem?_take, if_pos (by omega), Array.getElem?_toList]
    have hc : ∀ k, w.cell? ⟨g, k, none⟩ = cur[k]? := fun k => by simp only [World.cell?, hh]; simp
    exact ⟨g, cap, rfl, hg, (Array.getElem?_eq_some_iff.1 hh).1, by rw [hc, e 0 (by omega)]; rfl, by rw [hc, e 1 (by omega)]; rfl, by rw [hc, e 2 (by omega)]; rfl⟩
theorem form_step {w w2 w3 : World} {g : Nat} {x y z : Value} {v : Value} {n : Nat} {l : List Value} {o : Obj} (hT : Row3 g x y z w2) (hB : Below w.heap.size w w2) (hp : g < w.heap.size)
    (hO : w2.ownsRow w.heap.size 186 1 v n l) (hg : (w2.alloc o).grownBy w3 v.ownBlock) : Row3 g x y z w3 ∧ Below w.heap.size w w3 := by
  refine ⟨(hT.below (below_alloc (Below.refl _ _) o)).block (hg.block _ (by have := hT.lt; simp; omega) fun e => ?_), ?_⟩
  · have := own_base hO g e.symm; omega
  · exact pw_below_grown (below_alloc hB o) _ (by have := hB.size; simp; omega) hg (fun k hk => own_base hO k hk)
set_option maxHeartbeats 4000000 in
set_option maxRecDepth 100000 in
theorem sys_calls (g : Nat) (cap : Nat) (w : World) (hR : Row3 g (.string sen1) (.string sen2) (.string sen3) w) :
    Calls Tryz.prog 84 #[.slice (some ⟨g, 0, none⟩) 3 cap] w fun e w' => ∃ v, e = .returned (.tuple #[v, .int .i64 0]) ∧ w'.ownsRow w.heap.size 186 1 v 3 [fN 1, fN 2, fC] ∧ Below w.heap.size w w' := by
  have infoF : (Tryz.prog.info? 186).map (fun i => (i.zero, i.size, i.bytes)) = some (some .nilIface, 1, 16) := by kernel_rfl
  obtain ⟨i0, hi, hz0, hz1, hz2⟩ := info_parts infoF
  have HR := Aside0.mk hR
  have hgl := hR.lt
  have k0 := hR.c0
  clear hR
  have HB := Aside0.mk (Below.refl w.heap.size w)
  have HO := Aside0.mk (own_nil w w.heap.size 186 1)
  go_enter Tryz.func84, Tryz.ntmps84
  go_wp2
  refine wp_loop_rounds 4 ?_
  rw [rounds_succ]
  go_wp2_with fail
  refine (parse1 _).mono ?_
  rintro e w1a ⟨rfl, hb1⟩
  have HR1a := Aside0.mk (HR.out.below hb1)
  have HB1a := Aside0.mk (HB.out.trans (hb1.mono HB.out.size))
  have HO1a := Aside0.mk (pw_own_below HO.out hb1)
  clear hb1 HR HB HO k0
  go_wp2_with (at_builtin; refine wpList_append_own _ rfl _ _ 151 rfl w.heap.size 186 i0 .nilIface 1 16 Tryz.underlying151 hi hz0 hz1 hz2 rfl (by decide) _ _ _ rfl (HO1a.out.alloc _) ⟨w1a.heap.size, 0, none⟩ 1 1 [fN 1] rfl rfl ?c1 ?c2 (by decide) (by decide) ?c3 ?_)
  case c1 => exact cell_one_new _ _ _
  case c2 => intro u hu; simp at hu; subst hu; rfl
  case c3 => have := HB1a.out.size; simp; omega
  intro v1 w1b hown1 hgr1 _
  have HS1 := Aside0.mk (form_step HR1a.out HB1a.out hgl HO1a.out hgr1)
  have HR1b := Aside0.mk HS1.out.1
  have HB1b := Aside0.mk HS1.out.2
  have HO1b := Aside0.mk hown1
  have k1 := HS1.out.1.c1
  clear hown1 hgr1 HR1a HB1a HO1a HS1
  go_wp2
  rw [rounds_succ]
  go_wp2_with fail
  refine (parse2 _).mono ?_
  rintro e w2a ⟨rfl, hb2⟩
  have HR2a := Aside0.mk (HR1b.out.below hb2)
  have HB2a := Aside0.mk (HB1b.out.trans (hb2.mono HB1b.out.size))
  have HO2a := Aside0.mk (pw_own_below HO1b.out hb2)
  clear hb2 HR1b HB1b HO1b k1
  go_wp2_with (at_builtin; refine wpList_append_own _ rfl _ _ 151 rfl w.heap.size 186 i0 .nilIface 1 16 Tryz.underlying151 hi hz0 hz1 hz2 rfl (by decide) _ _ _ rfl (HO2a.out.alloc _) ⟨w2a.heap.size, 0, none⟩ 1 1 [fN 2] rfl rfl ?c1 ?c2 (by decide) (by decide) ?c3 ?_)
  case c1 => exact cell_one_new _ _ _
  case c2 => intro u hu; simp at hu; subst hu; rfl
  case c3 => have := HB2a.out.size; simp; omega
  intro v2 w2b hown2 hgr2 _
  have HS2 := Aside0.mk (form_step HR2a.out HB2a.out hgl HO2a.out hgr2)
  have HR2b := Aside0.mk HS2.out.1
  have HB2b := Aside0.mk HS2.out.2
  have HO2b := Aside0.mk hown2
  have k2 := HS2.out.1.c2
  clear hown2 hgr2 HR2a HB2a HO2a HS2
  go_wp2
  rw [rounds_succ]
  go_wp2_with fail
  refine (parse3 _).mono ?_
  rintro e w3a ⟨rfl, hb3⟩
  have HR3a := Aside0.mk (HR2b.out.below hb3)
  have HB3a := Aside0.mk (HB2b.out.trans (hb3.mono HB2b.out.size))
  have HO3a := Aside0.mk (pw_own_below HO2b.out hb3)
  clear hb3 HR2b HB2b HO2b k2
  go_wp2_with (at_builtin; refine wpList_append_own _ rfl _ _ 151 rfl w.heap.size 186 i0 .nilIface 1 16 Tryz.underlying151 hi hz0 hz1 hz2 rfl (by decide) _ _ _ rfl (HO3a.out.alloc _) ⟨w3a.heap.size, 0, none⟩ 1 1 [fC] rfl rfl ?c1 ?c2 (by decide) (by decide) ?c3 ?_)
  case c1 => exact cell_one_new _ _ _
  case c2 => intro u hu; simp at hu; subst hu; rfl
  case c3 => have := HB3a.out.size; simp; omega
  intro v3 w3b hown3 hgr3 _
  have HS3 := Aside0.mk (form_step HR3a.out HB3a.out hgl HO3a.out hgr3)
  have HR3b := Aside0.mk HS3.out.1
  have HB3b := Aside0.mk HS3.out.2
  have HO3b := Aside0.mk hown3
  have k3 := HS3.out.1.c0
  clear hown3 hgr3 HR3a HB3a HO3a HS3
  go_wp2
  rw [rounds_succ]
  go_wp2
  go_ret2
  exact ⟨v3, rfl, HO3b.out, HB3b.out⟩
set_option maxHeartbeats 2000000 in
set_option maxRecDepth 100000 in
theorem letter_01 (w : World) : Calls Tryz.prog 290 #[.int .i64 1, .string ⟨#[63, 63, 63]⟩] w fun e w' => e = .returned (.int .u8 63) ∧ w = w' := by
  go_enter Tryz.func290, Tryz.ntmps290
  go_wp2
  go_ret
  exact ⟨rfl, rfl⟩
set_option maxHeartbeats 2000000 in
set_option maxRecDepth 100000 in
theorem not_01 (w : World) : Calls Tryz.prog 292 #[.agg #[fL 1], .string ⟨#[63, 63, 63]⟩] w fun e w' => e = .returned (.int .u8 63) ∧ Below w.heap.size w w' := by
  have hm : ∀ w, (method 429 268 (.int .i64 1) "pomade/truth.value").run Tryz.prog w = .ok (290, .int .i64 1) w := fun _ => by kernel_rfl
  go_enter Tryz.func292, Tryz.ntmps292
  go_wp2_with (first | (go_at_call 290; refine (letter_01 _).mono ?_; rintro e w1 ⟨rfl, rfl⟩) | (go_at_call 293; refine (truth_opposite.calls 63 63 _ rfl).mono ?_; rintro e w1 ⟨rfl, ⟨nd, rfl⟩⟩))
  go_ret
  exact ⟨rfl, pw_below_drewN (below_alloc (Below.refl _ _) _) _⟩
set_option maxHeartbeats 2000000 in
set_option maxRecDepth 100000 in
theorem letter_02 (w : World) : Calls Tryz.prog 290 #[.int .i64 2, .string ⟨#[63, 63, 63]⟩] w fun e w' => e = .returned (.int .u8 63) ∧ w = w' := by
  go_enter Tryz.func290, Tryz.ntmps290
  go_wp2
  go_ret
  exact ⟨rfl, rfl⟩
set_option maxHeartbeats 2000000 in
set_option maxRecDepth 100000 in
theorem not_02 (w : World) : Calls Tryz.prog 292 #[.agg #[fL 2], .string ⟨#[63, 63, 63]⟩] w fun e w' => e = .returned (.int .u8 63) ∧ Below w.heap.size w w' := by
  have hm : ∀ w, (method 429 268 (.int .i64 2) "pomade/truth.value").run Tryz.prog w = .ok (290, .int .i64 2) w := fun _ => by kernel_rfl
  go_enter Tryz.func292, Tryz.ntmps292
  go_wp2_with (first | (go_at_call 290; refine (letter_02 _).mono ?_; rintro e w1 ⟨rfl, rfl⟩) | (go_at_call 293; refine (truth_opposite.calls 63 63 _ rfl).mono ?_; rintro e w1 ⟨rfl, ⟨nd, rfl⟩⟩))
  go_ret
  exact ⟨rfl, pw_below_drewN (below_alloc (Below.refl _ _) _) _⟩
set_option maxHeartbeats 2000000 in
set_option maxRecDepth 100000 in
theorem letter_11 (w : World) : Calls Tryz.prog 290 #[.int .i64 1, .string ⟨#[63, 63, 49]⟩] w fun e w' => e = .returned (.int .u8 63) ∧ w = w' := by
  go_enter Tryz.func290, Tryz.ntmps290
  go_wp2
  go_ret
  exact ⟨rfl, rfl⟩
set_option maxHeartbeats 2000000 in
set_option maxRecDepth 100000 in
theorem not_11 (w : World) : Calls Tryz.prog 292 #[.agg #[fL 1], .string ⟨#[63, 63, 49]⟩] w fun e w' => e = .returned (.int .u8 63) ∧ Below w.heap.size w w' := by
  have hm : ∀ w, (method 429 268 (.int .i64 1) "pomade/truth.value").run Tryz.prog w = .ok (290, .int .i64 1) w := fun _ => by kernel_rfl
  go_enter Tryz.func292, Tryz.ntmps292
  go_wp2_with (first | (go_at_call 290; refine (letter_11 _).mono ?_; rintro e w1 ⟨rfl, rfl⟩) | (go_at_call 293; refine (truth_opposite.calls 63 63 _ rfl).mono ?_; rintro e w1 ⟨rfl, ⟨nd, rfl⟩⟩))
  go_ret
  exact ⟨rfl, pw_below_drewN (below_alloc (Below.refl _ _) _) _⟩
set_option maxHeartbeats 2000000 in
set_option maxRecDepth 100000 in
theorem letter_12 (w : World) : Calls Tryz.prog 290 #[.int .i64 2, .string ⟨#[63, 63, 49]⟩] w fun e w' => e = .returned (.int .u8 49) ∧ w = w' := by
  go_enter Tryz.func290, Tryz.ntmps290
  go_wp2
  go_ret
  exact ⟨rfl, rfl⟩
set_option maxHeartbeats 2000000 in
set_option maxRecDepth 100000 in
theorem not_12 (w : World) : Calls Tryz.prog 292 #[.agg #[fL 2], .string ⟨#[63, 63, 49]⟩] w fun e w' => e = .returned (.int .u8 48) ∧ Below w.heap.size w w' := by
  have hm : ∀ w, (method 429 268 (.int .i64 2) "pomade/truth.value").run Tryz.prog w = .ok (290, .int .i64 2) w := fun _ => by kernel_rfl
  go_enter Tryz.func292, Tryz.ntmps292
  go_wp2_with (first | (go_at_call 290; refine (letter_12 _).mono ?_; rintro e w1 ⟨rfl, rfl⟩) | (go_at_call 293; refine (truth_opposite.calls 49 48 _ rfl).mono ?_; rintro e w1 ⟨rfl, ⟨nd, rfl⟩⟩))
  go_ret
  exact ⟨rfl, pw_below_drewN (below_alloc (Below.refl _ _) _) _⟩
set_option maxHeartbeats 2000000 in
set_option maxRecDepth 100000 in
theorem letter_21 (w : World) : Calls Tryz.prog 290 #[.int .i64 1, .string ⟨#[63, 48, 49]⟩] w fun e w' => e = .returned (.int .u8 48) ∧ w = w' := by
  go_enter Tryz.func290, Tryz.ntmps290
  go_wp2
  go_ret
  exact ⟨rfl, rfl⟩
set_option maxHeartbeats 2000000 in
set_option maxRecDepth 100000 in
theorem not_21 (w : World) : Calls Tryz.prog 292 #[.agg #[fL 1], .string ⟨#[63, 48, 49]⟩] w fun e w' => e = .returned (.int .u8 49) ∧ Below w.heap.size w w' := by
  have hm : ∀ w, (method 429 268 (.int .i64 1) "pomade/truth.value").run Tryz.prog w = .ok (290, .int .i64 1) w := fun _ => by kernel_rfl
  go_enter Tryz.func292, Tryz.ntmps292
  go_wp2_with (first | (go_at_call 290; refine (letter_21 _).mono ?_; rintro e w1 ⟨rfl, rfl⟩) | (go_at_call 293; refine (truth_opposite.calls 48 49 _ rfl).mono ?_; rintro e w1 ⟨rfl, ⟨nd, rfl⟩⟩))
  go_ret
  exact ⟨rfl, pw_below_drewN (below_alloc (Below.refl _ _) _) _⟩
set_option maxHeartbeats 2000000 in
set_option maxRecDepth 100000 in
theorem letter_22 (w : World) : Calls Tryz.prog 290 #[.int .i64 2, .string ⟨#[63, 48, 49]⟩] w fun e w' => e = .returned (.int .u8 49) ∧ w = w' := by
  go_enter Tryz.func290, Tryz.ntmps290
  go_wp2
  go_ret
  exact ⟨rfl, rfl⟩
set_option maxHeartbeats 2000000 in
set_option maxRecDepth 100000 in
theorem not_22 (w : World) : Calls Tryz.prog 292 #[.agg #[fL 2], .string ⟨#[63, 48, 49]⟩] w fun e w' => e = .returned (.int .u8 48) ∧ Below w.heap.size w w' := by
  have hm : ∀ w, (method 429 268 (.int .i64 2) "pomade/truth.value").run Tryz.prog w = .ok (290, .int .i64 2) w := fun _ => by kernel_rfl
  go_enter Tryz.func292, Tryz.ntmps292
  go_wp2_with (first | (go_at_call 290; refine (letter_22 _).mono ?_; rintro e w1 ⟨rfl, rfl⟩) | (go_at_call 293; refine (truth_opposite.calls 49 48 _ rfl).mono ?_; rintro e w1 ⟨rfl, ⟨nd, rfl⟩⟩))
  go_ret
  exact ⟨rfl, pw_below_drewN (below_alloc (Below.refl _ _) _) _⟩
set_option maxHeartbeats 2000000 in
set_option maxRecDepth 100000 in
theorem const_val (s : ByteArray) (w : World) : Calls Tryz.prog 288 #[.int .u8 49, .string s] w fun e w' => e = .returned (.int .u8 49) ∧ w = w' := by
  go_enter Tryz.func288, Tryz.ntmps288
  go_wp2
  go_ret
  exact ⟨rfl, rfl⟩

end Go.Proofs.YtldohjlcckbfaaaGreatDoor.Hand
