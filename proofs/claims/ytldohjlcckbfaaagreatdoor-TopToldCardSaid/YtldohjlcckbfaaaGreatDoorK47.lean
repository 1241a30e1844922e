/- A part of the proof that pomadetop.TopTold returns true for every input: HandT, HandU. No condition beyond those that each theorem states. -/
import Derived.Lib.Hide
import Derived.Test.YtldohjlcckbfaaaGreatDoorK12
import Derived.Test.YtldohjlcckbfaaaGreatDoorK44
namespace Go.Proofs.YtldohjlcckbfaaaGreatDoor.Hand
open Go.RowKit Go.Proofs.YtldohjlcckbfaaaGreatDoorW.PrintWords Go.Proofs.YtldohjlcckbfaaaGreatDoorW.PrintLast Go.Proofs.YtldohjlcckbfaaaGreatDoorW.PrintMore
set_option linter.unusedVariables false
set_option linter.unusedSimpArgs false
open Go.Proofs.YtldohjlcckbfaaaGreatDoor.Pre
abbrev fC : Value := .iface 267 (.int .u8 49)
abbrev fLT (n : Int) : Value := .iface 268 (.int .i64 n)
abbrev fN (n : Int) : Value := .iface 270 (.agg #[fLT n])
set_option maxHeartbeats 2000000 in
set_option maxRecDepth 100000 in
theorem read_const (w : World) :
    Calls Tryz.prog 172 #[.string sen3, .int .i64 3] w fun e w' => e = .returned (.tuple #[fC, .string ⟨#[]⟩]) ∧ Below w.heap.size w w' := by
  unfold sen3
  go_enter Tryz.func172, Tryz.ntmps172
  go_wp2
  go_region
  go_wp2
  go_ret2
  exact ⟨rfl, (Below.refl _ _).drew⟩
set_option maxHeartbeats 2000000 in
set_option maxRecDepth 100000 in
theorem read_letter1 (w : World) :
    Calls Tryz.prog 172 #[.string ⟨#[98]⟩, .int .i64 3] w fun e w' => e = .returned (.tuple #[fLT 1, .string ⟨#[]⟩]) ∧ Below w.heap.size w w' := by
  go_enter Tryz.func172, Tryz.ntmps172
  go_wp2
  go_region
  go_wp2
  go_ret2
  exact ⟨rfl, (Below.refl _ _).drew⟩
set_option maxHeartbeats 2000000 in
set_option maxRecDepth 100000 in
theorem read_letter2 (w : World) :
    Calls Tryz.prog 172 #[.string ⟨#[99]⟩, .int .i64 3] w fun e w' => e = .returned (.tuple #[fLT 2, .string ⟨#[]⟩]) ∧ Below w.heap.size w w' := by
  go_enter Tryz.func172, Tryz.ntmps172
  go_wp2
  go_region
  go_wp2
  go_ret2
  exact ⟨rfl, (Below.refl _ _).drew⟩
set_option maxHeartbeats 2000000 in
set_option maxRecDepth 100000 in
theorem read_not1 (w : World) :
    Calls Tryz.prog 172 #[.string sen1, .int .i64 3] w fun e w' => e = .returned (.tuple #[fN 1, .string ⟨#[]⟩]) ∧ Below w.heap.size w w' := by
  unfold sen1
  have hnl : ∀ (w : World) (t : TypeId) (v : Value), (binOp .eql 186 (.iface t v) .nilIface).run Tryz.prog w = .ok (.bool false) w := fun _ _ _ => rfl
  go_enter Tryz.func172, Tryz.ntmps172
  go_wp2
  go_region
  go_wp2_with fail
  refine (read_letter1 _).mono ?_
  rintro e w1 ⟨rfl, hb⟩
  go_wp2
  go_ret2
  exact ⟨rfl, ((Below.refl _ _).drew).trans hb⟩
set_option maxHeartbeats 2000000 in
set_option maxRecDepth 100000 in
theorem read_not2 (w : World) :
    Calls Tryz.prog 172 #[.string sen2, .int .i64 3] w fun e w' => e = .returned (.tuple #[fN 2, .string ⟨#[]⟩]) ∧ Below w.heap.size w w' := by
  unfold sen2
  have hnl : ∀ (w : World) (t : TypeId) (v : Value), (binOp .eql 186 (.iface t v) .nilIface).run Tryz.prog w = .ok (.bool false) w := fun _ _ _ => rfl
  go_enter Tryz.func172, Tryz.ntmps172
  go_wp2
  go_region
  go_wp2_with fail
  refine (read_letter2 _).mono ?_
  rintro e w1 ⟨rfl, hb⟩
  go_wp2
  go_ret2
  exact ⟨rfl, ((Below.refl _ _).drew).trans hb⟩
set_option maxHeartbeats 2000000 in
set_option maxRecDepth 100000 in
theorem parse_of (s : ByteArray) (t : TypeId) (v : Value) (hs : s.size ≤ 40) (hr : ∀ w, Calls Tryz.prog 172 #[.string s, .int .i64 3] w fun e w' => e = .returned (.tuple #[.iface t v, .string ⟨#[]⟩]) ∧ Below w.heap.size w w') (w : World) :
    Calls Tryz.prog 131 #[.string s, .int .i64 3] w fun e w' => e = .returned (.tuple #[.iface t v, .int .i64 0]) ∧ Below w.heap.size w w' := by
  have hnl : ∀ (w : World) (t : TypeId) (v : Value), (binOp .eql 186 (.iface t v) .nilIface).run Tryz.prog w = .ok (.bool false) w := fun _ _ _ => rfl
  have hd : decide (40 < (s.size : Int)) = false := decide_eq_false (by omega)
  have HR := Lib.hid hr
  clear hr hs
  go_enter Tryz.func131, Tryz.ntmps131
  go_wp2_with fail
  refine (HR.out _).mono ?_
  rintro e w1 ⟨rfl, hb⟩
  go_wp2
  go_ret2
  exact ⟨rfl, hb⟩
theorem parse1 (w : World) : Calls Tryz.prog 131 #[.string sen1, .int .i64 3] w fun e w' => e = .returned (.tuple #[fN 1, .int .i64 0]) ∧ Below w.heap.size w w' := parse_of sen1 _ _ (by decide) read_not1 w
theorem parse2 (w : World) : Calls Tryz.prog 131 #[.string sen2, .int .i64 3] w fun e w' => e = .returned (.tuple #[fN 2, .int .i64 0]) ∧ Below w.heap.size w w' := parse_of sen2 _ _ (by decide) read_not2 w
theorem parse3 (w : World) : Calls Tryz.prog 131 #[.string sen3, .int .i64 3] w fun e w' => e = .returned (.tuple #[fC, .int .i64 0]) ∧ Below w.heap.size w w' := parse_of sen3 _ _ (by decide) read_const w
structure Row3 (g : Nat) (x y z : Value) (w : World) : Prop where
  lt : g < w.heap.size
  c0 : w.cell? ⟨g, 0, none⟩ = some x
  c1 : w.cell? ⟨g, 1, none⟩ = some y
  c2 : w.cell? ⟨g, 2, none⟩ = some z
theorem Row3.below {g : Nat} {x y z : Value} {w w' : World} (h : Row3 g x y z w) (hb : Below w.heap.size w w') : Row3 g x y z w' :=
  ⟨Nat.lt_of_lt_of_le h.lt hb.size, pw_cell_below hb h.c0, pw_cell_below hb h.c1, pw_cell_below hb h.c2⟩
theorem Row3.block {g : Nat} {x y z : Value} {w w' : World} (h : Row3 g x y z w) (hb : w'.heap[g]? = w.heap[g]?) : Row3 g x y z w' := by
  have e : ∀ k, w'.cell? ⟨g, k, none⟩ = w.cell? ⟨g, k, none⟩ := fun k => by simp only [World.cell?, hb]
  refine ⟨?_, (e 0).trans h.c0, (e 1).trans h.c1, (e 2).trans h.c2⟩
  have := Array.getElem?_eq_getElem h.lt
  rw [this] at hb
  exact (Array.getElem?_eq_some_iff.1 hb).1
theorem own_row3 {w : World} {base : Nat} {e : TypeId} {v x y z : Value} (h : w.ownsRow base e 1 v 3 [x, y, z]) : ∃ g cap, v = .slice (some ⟨g, 0, none⟩) 3 cap ∧ base ≤ g ∧ Row3 g x y z w := by
  obtain ⟨_, h2⟩ := h
  rcases h2 with ⟨_, h2⟩ | ⟨g, cap, cur, rfl, hg, hh, _, _, _, ht⟩
  · cases h2
  · have e : ∀ k, k < 3 → cur[k]? = [x, y, z][k]? := fun k hk => by
      rw [← ht, Nat.mul_one, List.getElem?_take, if_pos (by omega), Array.getElem?_toList]
    have hc : ∀ k, w.cell? ⟨g, k, none⟩ = cur[k]? := fun k => by simp only [World.cell?, hh]; simp
    exact ⟨g, cap, rfl, hg, (Array.getElem?_eq_some_iff.1 hh).1, by rw [hc, e 0 (by omega)]; rfl, by rw [hc, e 1 (by omega)]; rfl, by rw [hc, e 2 (by omega)]; rfl⟩
theorem form_step {w w2 w3 : World} {g : Nat} {x y z : Value} {v : Value} {n : Nat} {l : List Value} {o : Obj} (hT : Row3 g x y z w2) (hB : Below w.heap.size w w2) (hp : g < w.heap.size)
    (hO : w2.ownsRow w.heap.size 186 1 v n l) (hg : (w2.alloc o).grownBy w3 v.ownBlock) : Row3 g x y z w3 ∧ Below w.heap.size w w3 := by
  refine ⟨(hT.below (below_alloc (Below.refl _ _) o)).block (hg.block _ (by have := hT.lt; simp; omega) fun e => ?_), ?_⟩
  · have := own_base hO g e.symm; omega
  · exact pw_below_grown (below_alloc hB o) _ (by have := hB.size; simp; omega) hg (fun k hk => own_base hO k hk)
set_option maxHeartbeats 4000000 in
set_option maxRecDepth 100000 in
theorem sys_calls (g : Nat) (cap : Nat) (w : World) (hR : Row3 g (.string sen1) (.string sen2) (.string sen3) w) :
    Calls Tryz.prog 84 #[.slice (some ⟨g, 0, none⟩) 3 cap] w fun e w' => ∃ v, e = .returned (.tuple #[v, .int .i64 0]) ∧ w'.ownsRow w.heap.size 186 1 v 3 [fN 1, fN 2, fC] ∧ Below w.heap.size w w' := by
  have infoF : (Tryz.prog.info? 186).map (fun i => (i.zero, i.size, i.bytes)) = some (some .nilIface, 1, 16) := by kernel_rfl
  obtain ⟨i0, hi, hz0, hz1, hz2⟩ := info_parts infoF
  have HR := Aside0.mk hR
  have hgl := hR.lt
  have k0 := hR.c0
  clear hR
  have HB := Aside0.mk (Below.refl w.heap.size w)
  have HO := Aside0.mk (own_nil w w.heap.size 186 1)
  go_enter Tryz.func84, Tryz.ntmps84
  go_wp2
  refine wp_loop_rounds 4 ?_
  rw [rounds_succ]
  go_wp2_with fail
  refine (parse1 _).mono ?_
  rintro e w1a ⟨rfl, hb1⟩
  have HR1a := Aside0.mk (HR.out.below hb1)
  have HB1a := Aside0.mk (HB.out.trans (hb1.mono HB.out.size))
  have HO1a := Aside0.mk (pw_own_below HO.out hb1)
  clear hb1 HR HB HO k0
  go_wp2_with (at_builtin; refine wpList_append_own _ rfl _ _ 151 rfl w.heap.size 186 i0 .nilIface 1 16 Tryz.underlying151 hi hz0 hz1 hz2 rfl (by decide) _ _ _ rfl (HO1a.out.alloc _) ⟨w1a.heap.size, 0, none⟩ 1 1 [fN 1] rfl rfl ?c1 ?c2 (by decide) (by decide) ?c3 ?_)
  case c1 => exact cell_one_new _ _ _
  case c2 => intro u hu; simp at hu; subst hu; rfl
  case c3 => have := HB1a.out.size; simp; omega
  intro v1 w1b hown1 hgr1 _
  have HS1 := Aside0.mk (form_step HR1a.out HB1a.out hgl HO1a.out hgr1)
  have HR1b := Aside0.mk HS1.out.1
  have HB1b := Aside0.mk HS1.out.2
  have HO1b := Aside0.mk hown1
  have k1 := HS1.out.1.c1
  clear hown1 hgr1 HR1a HB1a HO1a HS1
  go_wp2
  rw [rounds_succ]
  go_wp2_with fail
  refine (parse2 _).mono ?_
  rintro e w2a ⟨rfl, hb2⟩
  have HR2a := Aside0.mk (HR1b.out.below hb2)
  have HB2a := Aside0.mk (HB1b.out.trans (hb2.mono HB1b.out.size))
  have HO2a := Aside0.mk (pw_own_below HO1b.out hb2)
  clear hb2 HR1b HB1b HO1b k1
  go_wp2_with (at_builtin; refine wpList_append_own _ rfl _ _ 151 rfl w.heap.size 186 i0 .nilIface 1 16 Tryz.underlying151 hi hz0 hz1 hz2 rfl (by decide) _ _ _ rfl (HO2a.out.alloc _) ⟨w2a.heap.size, 0, none⟩ 1 1 [fN 2] rfl rfl ?c1 ?c2 (by decide) (by decide) ?c3 ?_)
  case c1 => exact cell_one_new _ _ _
  case c2 => intro u hu; simp at hu; subst hu; rfl
  case c3 => have := HB2a.out.size; simp; omega
  intro v2 w2b hown2 hgr2 _
  have HS2 := Aside0.mk (form_step HR2a.out HB2a.out hgl HO2a.out hgr2)
  have HR2b := Aside0.mk HS2.out.1
  have HB2b := Aside0.mk HS2.out.2
  have HO2b := Aside0.mk hown2
  have k2 := HS2.out.1.c2
  clear hown2 hgr2 HR2a HB2a HO2a HS2
  go_wp2
  rw [rounds_succ]
  go_wp2_with fail
  refine (parse3 _).mono ?_
  rintro e w3a ⟨rfl, hb3⟩
  have HR3a := Aside0.mk (HR2b.out.below hb3)
  have HB3a := Aside0.mk (HB2b.out.trans (hb3.mono HB2b.out.size))
  have HO3a := Aside0.mk (pw_own_below HO2b.out hb3)
  clear hb3 HR2b HB2b HO2b k2
  go_wp2_with (at_builtin; refine wpList_append_own _ rfl _ _ 151 rfl w.heap.size 186 i0 .nilIface 1 16 Tryz.underlying151 hi hz0 hz1 hz2 rfl (by decide) _ _ _ rfl (HO3a.out.alloc _) ⟨w3a.heap.size, 0, none⟩ 1 1 [fC] rfl rfl ?c1 ?c2 (by decide) (by decide) ?c3 ?_)
  case c1 => exact cell_one_new _ _ _
  case c2 => intro u hu; simp at hu; subst hu; rfl
  case c3 => have := HB3a.out.size; simp; omega
  intro v3 w3b hown3 hgr3 _
  have HS3 := Aside0.mk (form_step HR3a.out HB3a.out hgl HO3a.out hgr3)
  have HR3b := Aside0.mk HS3.out.1
  have HB3b := Aside0.mk HS3.out.2
  have HO3b := Aside0.mk hown3
  have k3 := HS3.out.1.c0
  clear hown3 hgr3 HR3a HB3a HO3a HS3
  go_wp2
  rw [rounds_succ]
  go_wp2
  go_ret2
  exact ⟨v3, rfl, HO3b.out, HB3b.out⟩
set_option maxHeartbeats 2000000 in
set_option maxRecDepth 100000 in
theorem letter_01 (w : World) : Calls Tryz.prog 290 #[.int .i64 1, .string ⟨#[63, 63, 63]⟩] w fun e w' => e = .returned (.int .u8 63) ∧ w = w' := by
  go_enter Tryz.func290, Tryz.ntmps290
  go_wp2
  go_ret
  exact ⟨rfl, rfl⟩
set_option maxHeartbeats 2000000 in
set_option maxRecDepth 100000 in
theorem not_01 (w : World) : Calls Tryz.prog 292 #[.agg #[fLT 1], .string ⟨#[63, 63, 63]⟩] w fun e w' => e = .returned (.int .u8 63) ∧ Below w.heap.size w w' := by
  have hm : ∀ w, (method 429 268 (.int .i64 1) "pomade/truth.value").run Tryz.prog w = .ok (290, .int .i64 1) w := fun _ => by kernel_rfl
  go_enter Tryz.func292, Tryz.ntmps292
  go_wp2_with (first | (go_at_call 290; refine (letter_01 _).mono ?_; rintro e w1 ⟨rfl, rfl⟩) | (go_at_call 293; refine (truth_opposite.calls 63 63 _ rfl).mono ?_; rintro e w1 ⟨rfl, ⟨nd, rfl⟩⟩))
  go_ret
  exact ⟨rfl, pw_below_drewN (below_alloc (Below.refl _ _) _) _⟩
set_option maxHeartbeats 2000000 in
set_option maxRecDepth 100000 in
theorem letter_02 (w : World) : Calls Tryz.prog 290 #[.int .i64 2, .string ⟨#[63, 63, 63]⟩] w fun e w' => e = .returned (.int .u8 63) ∧ w = w' := by
  go_enter Tryz.func290, Tryz.ntmps290
  go_wp2
  go_ret
  exact ⟨rfl, rfl⟩
set_option maxHeartbeats 2000000 in
set_option maxRecDepth 100000 in
theorem not_02 (w : World) : Calls Tryz.prog 292 #[.agg #[fLT 2], .string ⟨#[63, 63, 63]⟩] w fun e w' => e = .returned (.int .u8 63) ∧ Below w.heap.size w w' := by
  have hm : ∀ w, (method 429 268 (.int .i64 2) "pomade/truth.value").run Tryz.prog w = .ok (290, .int .i64 2) w := fun _ => by kernel_rfl
  go_enter Tryz.func292, Tryz.ntmps292
  go_wp2_with (first | (go_at_call 290; refine (letter_02 _).mono ?_; rintro e w1 ⟨rfl, rfl⟩) | (go_at_call 293; refine (truth_opposite.calls 63 63 _ rfl).mono ?_; rintro e w1 ⟨rfl, ⟨nd, rfl⟩⟩))
  go_ret
  exact ⟨rfl, pw_below_drewN (below_alloc (Below.refl _ _) _) _⟩
set_option maxHeartbeats 2000000 in
set_option maxRecDepth 100000 in
theorem letter_11 (w : World) : Calls Tryz.prog 290 #[.int .i64 1, .string ⟨#[63, 63, 49]⟩] w fun e w' => e = .returned (.int .u8 63) ∧ w = w' := by
  go_enter Tryz.func290, Tryz.ntmps290
  go_wp2
  go_ret
  exact ⟨rfl, rfl⟩
set_option maxHeartbeats 2000000 in
set_option maxRecDepth 100000 in
theorem not_11 (w : World) : Calls Tryz.prog 292 #[.agg #[fLT 1], .string ⟨#[63, 63, 49]⟩] w fun e w' => e = .returned (.int .u8 63) ∧ Below w.heap.size w w' := by
  have hm : ∀ w, (method 429 268 (.int .i64 1) "pomade/truth.value").run Tryz.prog w = .ok (290, .int .i64 1) w := fun _ => by kernel_rfl
  go_enter Tryz.func292, Tryz.ntmps292
  go_wp2_with (first | (go_at_call 290; refine (letter_11 _).mono ?_; rintro e w1 ⟨rfl, rfl⟩) | (go_at_call 293; refine (truth_opposite.calls 63 63 _ rfl).mono ?_; rintro e w1 ⟨rfl, ⟨nd, rfl⟩⟩))
  go_ret
  exact ⟨rfl, pw_below_drewN (below_alloc (Below.refl _ _) _) _⟩
set_option maxHeartbeats 2000000 in
set_option maxRecDepth 100000 in
theorem letter_12 (w : World) : Calls Tryz.prog 290 #[.int .i64 2, .string ⟨#[63, 63, 49]⟩] w fun e w' => e = .returned (.int .u8 49) ∧ w = w' := by
  go_enter Tryz.func290, Tryz.ntmps290
  go_wp2
  go_ret
  exact ⟨rfl, rfl⟩
set_option maxHeartbeats 2000000 in
set_option maxRecDepth 100000 in
theorem not_12 (w : World) : Calls Tryz.prog 292 #[.agg #[fLT 2], .string ⟨#[63, 63, 49]⟩] w fun e w' => e = .returned (.int .u8 48) ∧ Below w.heap.size w w' := by
  have hm : ∀ w, (method 429 268 (.int .i64 2) "pomade/truth.value").run Tryz.prog w = .ok (290, .int .i64 2) w := fun _ => by kernel_rfl
  go_enter Tryz.func292, Tryz.ntmps292
  go_wp2_with (first | (go_at_call 290; refine (letter_12 _).mono ?_; rintro e w1 ⟨rfl, rfl⟩) | (go_at_call 293; refine (truth_opposite.calls 49 48 _ rfl).mono ?_; rintro e w1 ⟨rfl, ⟨nd, rfl⟩⟩))
  go_ret
  exact ⟨rfl, pw_below_drewN (below_alloc (Below.refl _ _) _) _⟩
set_option maxHeartbeats 2000000 in
set_option maxRecDepth 100000 in
theorem letter_21 (w : World) : Calls Tryz.prog 290 #[.int .i64 1, .string ⟨#[63, 48, 49]⟩] w fun e w' => e = .returned (.int .u8 48) ∧ w = w' := by
  go_enter Tryz.func290, Tryz.ntmps290
  go_wp2
  go_ret
  exact ⟨rfl, rfl⟩
set_option maxHeartbeats 2000000 in
set_option maxRecDepth 100000 in
theorem not_21 (w : World) : Calls Tryz.prog 292 #[.agg #[fLT 1], .string ⟨#[63, 48, 49]⟩] w fun e w' => e = .returned (.int .u8 49) ∧ Below w.heap.size w w' := by
  have hm : ∀ w, (method 429 268 (.int .i64 1) "pomade/truth.value").run Tryz.prog w = .ok (290, .int .i64 1) w := fun _ => by kernel_rfl
  go_enter Tryz.func292, Tryz.ntmps292
  go_wp2_with (first | (go_at_call 290; refine (letter_21 _).mono ?_; rintro e w1 ⟨rfl, rfl⟩) | (go_at_call 293; refine (truth_opposite.calls 48 49 _ rfl).mono ?_; rintro e w1 ⟨rfl, ⟨nd, rfl⟩⟩))
  go_ret
  exact ⟨rfl, pw_below_drewN (below_alloc (Below.refl _ _) _) _⟩
set_option maxHeartbeats 2000000 in
set_option maxRecDepth 100000 in
theorem letter_22 (w : World) : Calls Tryz.prog 290 #[.int .i64 2, .string ⟨#[63, 48, 49]⟩] w fun e w' => e = .returned (.int .u8 49) ∧ w = w' := by
  go_enter Tryz.func290, Tryz.ntmps290
  go_wp2
  go_ret
  exact ⟨rfl, rfl⟩
set_option maxHeartbeats 2000000 in
set_option maxRecDepth 100000 in
theorem not_22 (w : World) : Calls Tryz.prog 292 #[.agg #[fLT 2], .string ⟨#[63, 48, 49]⟩] w fun e w' => e = .returned (.int .u8 48) ∧ Below w.heap.size w w' := by
  have hm : ∀ w, (method 429 268 (.int .i64 2) "pomade/truth.value").run Tryz.prog w = .ok (290, .int .i64 2) w := fun _ => by kernel_rfl
  go_enter Tryz.func292, Tryz.ntmps292
  go_wp2_with (first | (go_at_call 290; refine (letter_22 _).mono ?_; rintro e w1 ⟨rfl, rfl⟩) | (go_at_call 293; refine (truth_opposite.calls 49 48 _ rfl).mono ?_; rintro e w1 ⟨rfl, ⟨nd, rfl⟩⟩))
  go_ret
  exact ⟨rfl, pw_below_drewN (below_alloc (Below.refl _ _) _) _⟩
set_option maxHeartbeats 2000000 in
set_option maxRecDepth 100000 in
theorem const_val (s : ByteArray) (w : World) : Calls Tryz.prog 288 #[.int .u8 49, .string s] w fun e w' => e = .returned (.int .u8 49) ∧ w = w' := by
  go_enter Tryz.func288, Tryz.ntmps288
  go_wp2
  go_ret
  exact ⟨rfl, rfl⟩
end Go.Proofs.YtldohjlcckbfaaaGreatDoor.Hand
namespace Go.Proofs.YtldohjlcckbfaaaGreatDoor.Hand
open Go.RowKit Go.Proofs.YtldohjlcckbfaaaGreatDoorW.PrintWords Go.Proofs.YtldohjlcckbfaaaGreatDoorW.PrintLast Go.Proofs.YtldohjlcckbfaaaGreatDoorW.PrintMore
set_option linter.unusedVariables false
set_option linter.unusedSimpArgs false
open Go.Proofs.YtldohjlcckbfaaaGreatDoor.Pre
structure Out3 (q : Nat) (a b c : Int) (w : World) : Prop where
  at_ : w.heap[q]? = some (.cells #[.int .u8 a, .int .u8 b, .int .u8 c] 5 (0, 0))
theorem Out3.lt {q : Nat} {a b c : Int} {w : World} (h : Out3 q a b c w) : q < w.heap.size := (Array.getElem?_eq_some_iff.1 h.at_).1
theorem Out3.below {q : Nat} {a b c : Int} {w w' : World} (h : Out3 q a b c w) (hb : Below w.heap.size w w') : Out3 q a b c w' := ⟨(hb.5 _ h.lt).trans h.at_⟩
theorem Out3.cell {q : Nat} {a b c : Int} {w : World} (h : Out3 q a b c w) (k : Nat) (v : Value) (hv : (#[.int .u8 a, .int .u8 b, .int .u8 c] : Array Value)[k]? = some v) : w.cell? ⟨q, k, none⟩ = some v := by
  simp only [World.cell?, h.at_]
  simpa using hv
theorem Out3.free {q : Nat} {a b c : Int} {w : World} (h : Out3 q a b c w) (k : Nat) : w.frozen? ⟨q, k, none⟩ = false := by
  simp only [World.frozen?, h.at_]
  simp
theorem Out3.set0 {q : Nat} {a b c : Int} {w : World} (h : Out3 q a b c w) (x : Int) : Out3 q x b c (w.setCell ⟨q, 0, none⟩ (.int .u8 x)) := ⟨by
  rw [heap_setCell_same w q 0 _ _ _ h.at_]; rfl⟩
theorem Out3.set1 {q : Nat} {a b c : Int} {w : World} (h : Out3 q a b c w) (x : Int) : Out3 q a x c (w.setCell ⟨q, 1, none⟩ (.int .u8 x)) := ⟨by
  rw [heap_setCell_same w q 1 _ _ _ h.at_]; rfl⟩
theorem Out3.set2 {q : Nat} {a b c : Int} {w : World} (h : Out3 q a b c w) (x : Int) : Out3 q a b x (w.setCell ⟨q, 2, none⟩ (.int .u8 x)) := ⟨by
  rw [heap_setCell_same w q 2 _ _ _ h.at_]; rfl⟩
theorem Out3.C {q : Nat} {a b c : Int} {w : World} (h : Out3 q a b c w) : Kd.C (Kd.int .u8) w (some ⟨q, 0, none⟩) 3 [a, b, c] := by
  refine Kd.C_of_reads (enc := Value.int .u8) (d := 0) ⟨rfl, by decide, fun hn => ⟨_, rfl, fun j hj => ?_⟩⟩
  rw [add_plain]
  match j, hj with
  | 0, _ => exact h.cell 0 _ rfl
  | 1, _ => exact h.cell 1 _ rfl
  | 2, _ => exact h.cell 2 _ rfl
theorem Row3.set {g q : Nat} {x y z : Value} {w : World} (h : Row3 g x y z w) (hq : g ≠ q) (k : Nat) (v : Value) : Row3 g x y z (w.setCell ⟨q, k, none⟩ v) :=
  h.block (Below.heap_setCell _ _ _ _ hq)
theorem strs : strOfNums [63, 63, 49] = ⟨#[63, 63, 49]⟩ ∧ strOfNums [63, 48, 49] = ⟨#[63, 48, 49]⟩ ∧ strOfNums [49, 48, 49] = ⟨#[49, 48, 49]⟩ := by decide
theorem make3 (w : World) : (Instr.makeSlice 98 (.int .i64 3) (.int .i64 3)).run Tryz.prog w = .ok (.slice (some ⟨w.heap.size, 0, none⟩) 3 3) (w.alloc (.cells #[.int .u8 0, .int .u8 0, .int .u8 0] 5)) := by
  have h := run_make_row' (P := Tryz.prog) 98 5 (.int .u8 0) 1 Tryz.underlying98 (by kernel_rfl) rfl .i64 .i64 3 (by decide) (by decide) w
  have e : madeCells #[Value.int .u8 0] 3 = #[.int .u8 0, .int .u8 0, .int .u8 0] := by kernel_rfl
  rw [e] at h
  exact h
set_option maxHeartbeats 4000000 in
set_option maxRecDepth 100000 in
theorem next_0 (g cap : Nat) (w : World) (hR : Row3 g (fN 1) (fN 2) fC w) : Calls Tryz.prog 86 #[.slice (some ⟨g, 0, none⟩) 3 cap, .string ⟨#[63, 63, 63]⟩] w fun e w' => e = .returned (.string ⟨#[63, 63, 49]⟩) ∧ Below w.heap.size w w' := by
  have hm : ∀ w v, (method 429 270 v "pomade/truth.value").run Tryz.prog w = .ok (292, v) w := fun _ _ => by kernel_rfl
  have hm2 : ∀ w v, (method 429 267 v "pomade/truth.value").run Tryz.prog w = .ok (288, v) w := fun _ _ => by kernel_rfl
  have hmk := make3
  have HR := Aside0.mk (hR.below (below_alloc (Below.refl _ w) (.cells #[.int .u8 0, .int .u8 0, .int .u8 0] 5)))
  have HO := Aside0.mk (Out3.mk (q := w.heap.size) (w := w.alloc (.cells #[.int .u8 0, .int .u8 0, .int .u8 0] 5)) (by rw [heap_alloc_new]))
  have HB := Aside0.mk (below_alloc (Below.refl _ w) (.cells #[.int .u8 0, .int .u8 0, .int .u8 0] 5))
  have hgl := hR.lt
  have k0 := HR.out.c0
  have hql : w.heap.size < (w.alloc (.cells #[.int .u8 0, .int .u8 0, .int .u8 0] 5)).heap.size := by simp
  clear hR
  go_enter Tryz.func86, Tryz.ntmps86
  go_wp2
  clear hmk
  obtain ⟨w0, hw0⟩ : ∃ w0, w.alloc (.cells #[.int .u8 0, .int .u8 0, .int .u8 0] 5) = w0 := ⟨_, rfl⟩
  obtain ⟨q, hq⟩ : ∃ q, w.heap.size = q := ⟨_, rfl⟩
  rw [hw0] at HR HO HB k0 hql ⊢
  rw [hq] at HO hql hgl ⊢
  clear hw0
  refine wp_loop_rounds 4 ?_
  rw [rounds_succ]
  go_wp2_with fail
  refine (not_01 _).mono ?_
  rintro e w1 ⟨rfl, hb⟩
  have HR1 := Aside0.mk (HR.out.below hb)
  have HO1 := Aside0.mk (HO.out.below hb)
  have HB1 := Aside0.mk (HB.out.trans (hb.mono HB.out.size))
  clear hb HR HO HB k0
  have kc := HO1.out.cell 0 _ rfl
  have kf := HO1.out.free 0
  have HRs := Aside0.mk (HR1.out.set (q := q) (by omega) 0 (.int .u8 63))
  have HOs := Aside0.mk (HO1.out.set0 63)
  have HBs := Aside0.mk (HB1.out.setCell (p := ⟨q, 0, none⟩) (by show w.heap.size ≤ q; omega) (.int .u8 63))
  have k1 := HRs.out.c1
  go_wp2
  clear kc kf HR1 HO1 HB1
  obtain ⟨w1s, hws⟩ : ∃ ws, w1.setCell ⟨q, 0, none⟩ (.int .u8 63) = ws := ⟨_, rfl⟩
  rw [hws] at HRs HOs HBs k1 ⊢
  clear hws
  have HR1 := HRs
  have HO1 := HOs
  have HB1 := HBs
  clear HRs HOs HBs
  rw [rounds_succ]
  go_wp2_with fail
  refine (not_02 _).mono ?_
  rintro e w2 ⟨rfl, hb⟩
  have HR2 := Aside0.mk (HR1.out.below hb)
  have HO2 := Aside0.mk (HO1.out.below hb)
  have HB2 := Aside0.mk (HB1.out.trans (hb.mono HB1.out.size))
  clear hb HR1 HO1 HB1 k1
  have kc := HO2.out.cell 1 _ rfl
  have kf := HO2.out.free 1
  have HRs := Aside0.mk (HR2.out.set (q := q) (by omega) 1 (.int .u8 63))
  have HOs := Aside0.mk (HO2.out.set1 63)
  have HBs := Aside0.mk (HB2.out.setCell (p := ⟨q, 1, none⟩) (by show w.heap.size ≤ q; omega) (.int .u8 63))
  have k2 := HRs.out.c2
  go_wp2
  clear kc kf HR2 HO2 HB2
  obtain ⟨w2s, hws⟩ : ∃ ws, w2.setCell ⟨q, 1, none⟩ (.int .u8 63) = ws := ⟨_, rfl⟩
  rw [hws] at HRs HOs HBs k2 ⊢
  clear hws
  have HR2 := HRs
  have HO2 := HOs
  have HB2 := HBs
  clear HRs HOs HBs
  rw [rounds_succ]
  go_wp2_with fail
  refine (const_val _ _).mono ?_
  rintro e w3 ⟨rfl, rfl⟩
  clear k2
  have kc := HO2.out.cell 2 _ rfl
  have kf := HO2.out.free 2
  have HOs := Aside0.mk (HO2.out.set2 49)
  have HBs := Aside0.mk (HB2.out.setCell (p := ⟨q, 2, none⟩) (by show w.heap.size ≤ q; omega) (.int .u8 49))
  clear HO2 HB2 HR2
  go_wp2
  clear kc kf
  obtain ⟨w3s, hws⟩ : ∃ ws, w2s.setCell ⟨q, 2, none⟩ (.int .u8 49) = ws := ⟨_, rfl⟩
  rw [hws] at HOs HBs ⊢
  clear hws
  rw [rounds_succ]
  have hcb := Kd.C_string (P := Tryz.prog) (c := 3) Tryz.underlying98 Tryz.underlying5 Tryz.underlying9 HOs.out.C
  rw [strs.1] at hcb
  go_wp2
  go_ret
  exact ⟨rfl, HBs.out⟩
set_option maxHeartbeats 4000000 in
set_option maxRecDepth 100000 in
theorem next_1 (g cap : Nat) (w : World) (hR : Row3 g (fN 1) (fN 2) fC w) : Calls Tryz.prog 86 #[.slice (some ⟨g, 0, none⟩) 3 cap, .string ⟨#[63, 63, 49]⟩] w fun e w' => e = .returned (.string ⟨#[63, 48, 49]⟩) ∧ Below w.heap.size w w' := by
  have hm : ∀ w v, (method 429 270 v "pomade/truth.value").run Tryz.prog w = .ok (292, v) w := fun _ _ => by kernel_rfl
  have hm2 : ∀ w v, (method 429 267 v "pomade/truth.value").run Tryz.prog w = .ok (288, v) w := fun _ _ => by kernel_rfl
  have hmk := make3
  have HR := Aside0.mk (hR.below (below_alloc (Below.refl _ w) (.cells #[.int .u8 0, .int .u8 0, .int .u8 0] 5)))
  have HO := Aside0.mk (Out3.mk (q := w.heap.size) (w := w.alloc (.cells #[.int .u8 0, .int .u8 0, .int .u8 0] 5)) (by rw [heap_alloc_new]))
  have HB := Aside0.mk (below_alloc (Below.refl _ w) (.cells #[.int .u8 0, .int .u8 0, .int .u8 0] 5))
  have hgl := hR.lt
  have k0 := HR.out.c0
  have hql : w.heap.size < (w.alloc (.cells #[.int .u8 0, .int .u8 0, .int .u8 0] 5)).heap.size := by simp
  clear hR
  go_enter Tryz.func86, Tryz.ntmps86
  go_wp2
  clear hmk
  obtain ⟨w0, hw0⟩ : ∃ w0, w.alloc (.cells #[.int .u8 0, .int .u8 0, .int .u8 0] 5) = w0 := ⟨_, rfl⟩
  obtain ⟨q, hq⟩ : ∃ q, w.heap.size = q := ⟨_, rfl⟩
  rw [hw0] at HR HO HB k0 hql ⊢
  rw [hq] at HO hql hgl ⊢
  clear hw0
  refine wp_loop_rounds 4 ?_
  rw [rounds_succ]
  go_wp2_with fail
  refine (not_11 _).mono ?_
  rintro e w1 ⟨rfl, hb⟩
  have HR1 := Aside0.mk (HR.out.below hb)
  have HO1 := Aside0.mk (HO.out.below hb)
  have HB1 := Aside0.mk (HB.out.trans (hb.mono HB.out.size))
  clear hb HR HO HB k0
  have kc := HO1.out.cell 0 _ rfl
  have kf := HO1.out.free 0
  have HRs := Aside0.mk (HR1.out.set (q := q) (by omega) 0 (.int .u8 63))
  have HOs := Aside0.mk (HO1.out.set0 63)
  have HBs := Aside0.mk (HB1.out.setCell (p := ⟨q, 0, none⟩) (by show w.heap.size ≤ q; omega) (.int .u8 63))
  have k1 := HRs.out.c1
  go_wp2
  clear kc kf HR1 HO1 HB1
  obtain ⟨w1s, hws⟩ : ∃ ws, w1.setCell ⟨q, 0, none⟩ (.int .u8 63) = ws := ⟨_, rfl⟩
  rw [hws] at HRs HOs HBs k1 ⊢
  clear hws
  have HR1 := HRs
  have HO1 := HOs
  have HB1 := HBs
  clear HRs HOs HBs
  rw [rounds_succ]
  go_wp2_with fail
  refine (not_12 _).mono ?_
  rintro e w2 ⟨rfl, hb⟩
  have HR2 := Aside0.mk (HR1.out.below hb)
  have HO2 := Aside0.mk (HO1.out.below hb)
  have HB2 := Aside0.mk (HB1.out.trans (hb.mono HB1.out.size))
  clear hb HR1 HO1 HB1 k1
  have kc := HO2.out.cell 1 _ rfl
  have kf := HO2.out.free 1
  have HRs := Aside0.mk (HR2.out.set (q := q) (by omega) 1 (.int .u8 48))
  have HOs := Aside0.mk (HO2.out.set1 48)
  have HBs := Aside0.mk (HB2.out.setCell (p := ⟨q, 1, none⟩) (by show w.heap.size ≤ q; omega) (.int .u8 48))
  have k2 := HRs.out.c2
  go_wp2
  clear kc kf HR2 HO2 HB2
  obtain ⟨w2s, hws⟩ : ∃ ws, w2.setCell ⟨q, 1, none⟩ (.int .u8 48) = ws := ⟨_, rfl⟩
  rw [hws] at HRs HOs HBs k2 ⊢
  clear hws
  have HR2 := HRs
  have HO2 := HOs
  have HB2 := HBs
  clear HRs HOs HBs
  rw [rounds_succ]
  go_wp2_with fail
  refine (const_val _ _).mono ?_
  rintro e w3 ⟨rfl, rfl⟩
  clear k2
  have kc := HO2.out.cell 2 _ rfl
  have kf := HO2.out.free 2
  have HOs := Aside0.mk (HO2.out.set2 49)
  have HBs := Aside0.mk (HB2.out.setCell (p := ⟨q, 2, none⟩) (by show w.heap.size ≤ q; omega) (.int .u8 49))
  clear HO2 HB2 HR2
  go_wp2
  clear kc kf
  obtain ⟨w3s, hws⟩ : ∃ ws, w2s.setCell ⟨q, 2, none⟩ (.int .u8 49) = ws := ⟨_, rfl⟩
  rw [hws] at HOs HBs ⊢
  clear hws
  rw [rounds_succ]
  have hcb := Kd.C_string (P := Tryz.prog) (c := 3) Tryz.underlying98 Tryz.underlying5 Tryz.underlying9 HOs.out.C
  rw [strs.2.1] at hcb
  go_wp2
  go_ret
  exact ⟨rfl, HBs.out⟩
set_option maxHeartbeats 4000000 in
set_option maxRecDepth 100000 in
theorem next_2 (g cap : Nat) (w : World) (hR : Row3 g (fN 1) (fN 2) fC w) : Calls Tryz.prog 86 #[.slice (some ⟨g, 0, none⟩) 3 cap, .string ⟨#[63, 48, 49]⟩] w fun e w' => e = .returned (.string ⟨#[49, 48, 49]⟩) ∧ Below w.heap.size w w' := by
  have hm : ∀ w v, (method 429 270 v "pomade/truth.value").run Tryz.prog w = .ok (292, v) w := fun _ _ => by kernel_rfl
  have hm2 : ∀ w v, (method 429 267 v "pomade/truth.value").run Tryz.prog w = .ok (288, v) w := fun _ _ => by kernel_rfl
  have hmk := make3
  have HR := Aside0.mk (hR.below (below_alloc (Below.refl _ w) (.cells #[.int .u8 0, .int .u8 0, .int .u8 0] 5)))
  have HO := Aside0.mk (Out3.mk (q := w.heap.size) (w := w.alloc (.cells #[.int .u8 0, .int .u8 0, .int .u8 0] 5)) (by rw [heap_alloc_new]))
  have HB := Aside0.mk (below_alloc (Below.refl _ w) (.cells #[.int .u8 0, .int .u8 0, .int .u8 0] 5))
  have hgl := hR.lt
  have k0 := HR.out.c0
  have hql : w.heap.size < (w.alloc (.cells #[.int .u8 0, .int .u8 0, .int .u8 0] 5)).heap.size := by simp
  clear hR
  go_enter Tryz.func86, Tryz.ntmps86
  go_wp2
  clear hmk
  obtain ⟨w0, hw0⟩ : ∃ w0, w.alloc (.cells #[.int .u8 0, .int .u8 0, .int .u8 0] 5) = w0 := ⟨_, rfl⟩
  obtain ⟨q, hq⟩ : ∃ q, w.heap.size = q := ⟨_, rfl⟩
  rw [hw0] at HR HO HB k0 hql ⊢
  rw [hq] at HO hql hgl ⊢
  clear hw0
  refine wp_loop_rounds 4 ?_
  rw [rounds_succ]
  go_wp2_with fail
  refine (not_21 _).mono ?_
  rintro e w1 ⟨rfl, hb⟩
  have HR1 := Aside0.mk (HR.out.below hb)
  have HO1 := Aside0.mk (HO.out.below hb)
  have HB1 := Aside0.mk (HB.out.trans (hb.mono HB.out.size))
  clear hb HR HO HB k0
  have kc := HO1.out.cell 0 _ rfl
  have kf := HO1.out.free 0
  have HRs := Aside0.mk (HR1.out.set (q := q) (by omega) 0 (.int .u8 49))
  have HOs := Aside0.mk (HO1.out.set0 49)
  have HBs := Aside0.mk (HB1.out.setCell (p := ⟨q, 0, none⟩) (by show w.heap.size ≤ q; omega) (.int .u8 49))
  have k1 := HRs.out.c1
  go_wp2
  clear kc kf HR1 HO1 HB1
  obtain ⟨w1s, hws⟩ : ∃ ws, w1.setCell ⟨q, 0, none⟩ (.int .u8 49) = ws := ⟨_, rfl⟩
  rw [hws] at HRs HOs HBs k1 ⊢
  clear hws
  have HR1 := HRs
  have HO1 := HOs
  have HB1 := HBs
  clear HRs HOs HBs
  rw [rounds_succ]
  go_wp2_with fail
  refine (not_22 _).mono ?_
  rintro e w2 ⟨rfl, hb⟩
  have HR2 := Aside0.mk (HR1.out.below hb)
  have HO2 := Aside0.mk (HO1.out.below hb)
  have HB2 := Aside0.mk (HB1.out.trans (hb.mono HB1.out.size))
  clear hb HR1 HO1 HB1 k1
  have kc := HO2.out.cell 1 _ rfl
  have kf := HO2.out.free 1
  have HRs := Aside0.mk (HR2.out.set (q := q) (by omega) 1 (.int .u8 48))
  have HOs := Aside0.mk (HO2.out.set1 48)
  have HBs := Aside0.mk (HB2.out.setCell (p := ⟨q, 1, none⟩) (by show w.heap.size ≤ q; omega) (.int .u8 48))
  have k2 := HRs.out.c2
  go_wp2
  clear kc kf HR2 HO2 HB2
  obtain ⟨w2s, hws⟩ : ∃ ws, w2.setCell ⟨q, 1, none⟩ (.int .u8 48) = ws := ⟨_, rfl⟩
  rw [hws] at HRs HOs HBs k2 ⊢
  clear hws
  have HR2 := HRs
  have HO2 := HOs
  have HB2 := HBs
  clear HRs HOs HBs
  rw [rounds_succ]
  go_wp2_with fail
  refine (const_val _ _).mono ?_
  rintro e w3 ⟨rfl, rfl⟩
  clear k2
  have kc := HO2.out.cell 2 _ rfl
  have kf := HO2.out.free 2
  have HOs := Aside0.mk (HO2.out.set2 49)
  have HBs := Aside0.mk (HB2.out.setCell (p := ⟨q, 2, none⟩) (by show w.heap.size ≤ q; omega) (.int .u8 49))
  clear HO2 HB2 HR2
  go_wp2
  clear kc kf
  obtain ⟨w3s, hws⟩ : ∃ ws, w2s.setCell ⟨q, 2, none⟩ (.int .u8 49) = ws := ⟨_, rfl⟩
  rw [hws] at HOs HBs ⊢
  clear hws
  rw [rounds_succ]
  have hcb := Kd.C_string (P := Tryz.prog) (c := 3) Tryz.underlying98 Tryz.underlying5 Tryz.underlying9 HOs.out.C
  rw [strs.2.2] at hcb
  go_wp2
  go_ret
  exact ⟨rfl, HBs.out⟩
theorem rep3 (w : World) : Calls Tryz.prog 85 #[.string ⟨#[63]⟩, .int .i64 3] w fun e w' => e = .returned (.string ⟨#[63, 63, 63]⟩) ∧ Below w.heap.size w w' :=
  (Tryz.strings_Repeat ⟨#[63]⟩ 3 w (by decide) (by decide)).mono fun e w' ⟨he, hb⟩ => ⟨he.trans (by rfl), hb⟩
set_option maxHeartbeats 4000000 in
set_option maxRecDepth 100000 in
theorem least_calls (g cap : Nat) (w : World) (hR : Row3 g (.string sen1) (.string sen2) (.string sen3) w) :
    Calls Tryz.prog 46 #[.slice (some ⟨g, 0, none⟩) 3 cap] w fun e w' => e = .returned (.tuple #[.string ⟨#[49, 48, 49]⟩, .int .i64 0]) ∧ Below w.heap.size w w' := by
  have HR := Aside0.mk hR
  clear hR
  go_enter Tryz.func46, Tryz.ntmps46
  go_wp2_with fail
  refine (sys_calls g cap _ HR.out).mono ?_
  rintro e w1 ⟨v, rfl, ho, hb1⟩
  obtain ⟨g2, c2, rfl, hg2, hr2⟩ := own_row3 ho
  have HR2 := Aside0.mk hr2
  have HB1 := Aside0.mk hb1
  clear ho hb1 hr2 HR
  go_wp2_with fail
  refine (rep3 _).mono ?_
  rintro e w2 ⟨rfl, hb2⟩
  have HR3 := Aside0.mk (HR2.out.below hb2)
  have HB2 := Aside0.mk (HB1.out.trans (hb2.mono HB1.out.size))
  clear hb2 HR2 HB1
  go_wp2
  refine wp_loop_rounds 4 ?_
  rw [rounds_succ]
  go_wp2_with fail
  refine (next_0 g2 c2 _ HR3.out).mono ?_
  rintro e w3 ⟨rfl, hb3⟩
  have HR4 := Aside0.mk (HR3.out.below hb3)
  have HB3 := Aside0.mk (HB2.out.trans (hb3.mono HB2.out.size))
  clear hb3 HR3 HB2
  go_wp2
  rw [rounds_succ]
  go_wp2_with fail
  refine (next_1 g2 c2 _ HR4.out).mono ?_
  rintro e w4 ⟨rfl, hb4⟩
  have HR5 := Aside0.mk (HR4.out.below hb4)
  have HB4 := Aside0.mk (HB3.out.trans (hb4.mono HB3.out.size))
  clear hb4 HR4 HB3
  go_wp2
  rw [rounds_succ]
  go_wp2_with fail
  refine (next_2 g2 c2 _ HR5.out).mono ?_
  rintro e w5 ⟨rfl, hb5⟩
  have HB5 := Aside0.mk (HB4.out.trans (hb5.mono HB4.out.size))
  clear hb5 HR5 HB4
  go_wp2
  rw [rounds_succ]
  go_wp2
  go_ret2
  exact ⟨rfl, HB5.out⟩
end Go.Proofs.YtldohjlcckbfaaaGreatDoor.Hand
