/- A part of the proof that pomadetop.TopTold returns true for every input: HandVi. No condition beyond those that each theorem states. -/
import Derived.Outline
import Derived.RangeFuncBound
import Derived.Shelf.Abstract
import Derived.Shelf.RegionOpen
import Derived.OwnWalkIn
import Derived.TacticsInMore
import Derived.LoopNIn
import Derived.LoopIn
import Derived.Test.YtldohjlcckbfaaaGreatDoorK05
import Derived.Test.YtldohjlcckbfaaaGreatDoorK15
namespace Go.Proofs.YtldohjlcckbfaaaGreatDoor.Hand
open Go.RowKit Go.Proofs.YtldohjlcckbfaaaGreatDoorW.PrintWords Go.Proofs.YtldohjlcckbfaaaGreatDoorW.PrintLast Go.Proofs.YtldohjlcckbfaaaGreatDoorW.PrintMore
set_option linter.unusedVariables false
set_option linter.unusedSimpArgs false
open Go.Proofs.YtldohjlcckbfaaaGreatDoor.Pre
open TopSeq Go.Shelf
attribute [local go_sem] Oper.semAt_some
set_option maxHeartbeats 4000000 in
set_option maxRecDepth 100000 in
theorem valid_one (g c : Nat) (w : World) (h : w.cell? ⟨g, 0, none⟩ = some (.int .i64 1)) :
    Calls Tryz.prog 186 #[.slice (some ⟨g, 0, none⟩) 1 c] w fun e w' => e = .returned (.bool true) ∧ w' = w := by
  go_enter Tryz.func186, Tryz.ntmps186
  go_wp2
  refine wp_loop_rounds 2 ?_
  rw [rounds_succ]
  go_wp2
  rw [rounds_succ]
  go_wp2
  go_ret
  exact ⟨rfl, rfl⟩
set_option maxHeartbeats 4000000 in
set_option maxRecDepth 100000 in
theorem looked_one (g c : Nat) (w : World) (h : w.cell? ⟨g, 0, none⟩ = some (.int .i64 1)) :
    Calls Tryz.prog 188 #[.slice (some ⟨g, 0, none⟩) 1 c, .int .i64 0, .int .i64 1152921504606846976] w fun e w' => e = .returned (.int .i64 0) ∧ w' = w := by
  have HV := Aside0.mk (valid_one g c w h)
  clear h
  go_enter Tryz.func188, Tryz.ntmps188
  go_wp2_with (go_at_call 186; refine HV.out.mono ?_; rintro e w1 ⟨rfl, rfl⟩)
  go_ret
  exact ⟨rfl, rfl⟩
set_option maxHeartbeats 4000000 in
set_option maxRecDepth 100000 in
theorem backward_calls (A : Option Addr) (n c : Nat) (w : World) :
    Calls Tryz.prog 229 #[.slice A n c] w fun e w' => e = .returned (.func (.func 252) #[] #[.pointer (some ⟨w.heap.size, 0, none⟩)]) ∧ w' = w.alloc (.cells #[.slice A n c] 22) := by
  have hmf : ∀ (fn : Fn) (first cap : Array Value) (w : World), (Instr.makeFunc fn first cap).run Tryz.prog w = .ok (.func fn first cap) w := fun _ _ _ _ => rfl
  go_enter Tryz.func229, Tryz.ntmps229
  go_wp2
  go_ret
  exact ⟨rfl, rfl⟩
set_option maxHeartbeats 4000000 in
set_option maxRecDepth 100000 in
theorem backward_box (g c Bn : Nat) (n : Nat) (hn : 1 ≤ n) (w : World) (hB : w.heap[Bn]? = some (.cells #[.slice (some ⟨g, 0, none⟩) 1 c] 22 (0, 0))) (hg : w.cell? ⟨g, 0, none⟩ = some (.int .i64 1)) :
    SeqBox Fence.wide n Tryz.prog 252 #[.pointer (some ⟨Bn, 0, none⟩)] (fun _ => #[.int .i64 0, .int .i64 1]) 1 Bn (fun _ => False) (fun _ _ => False) w := by
  intro l J W hW hgr _ hY h0
  have x0 := cellAt (blk_below hB hW)
  have x1 := pw_cell_below hW hg
  obtain ⟨fn, tmps, assign, body, hy, hR⟩ := hY 0 W (by decide) h0
  have HR := Aside0.mk hR
  clear hB hg hgr hY h0 hW hR
  refine callsIn_of_wp Tryz.func252 rfl trivial ?_ rfl
  simp only [Tryz.ntmps252, List.size_toArray, List.length_cons, List.length_nil, Nat.reduceAdd, Nat.reduceSub, Array.replicate_succ, Array.replicate_zero, List.push_toArray, List.append_toArray, List.nil_append, List.cons_append]
  gi_wp2
  refine wpIn_loop_rounds 2 ?_
  rw [roundsIn_succ]
  gi_wp2
  refine HR.out.mono ?_
  rintro e W3 ⟨rfl, hJ3, hk3⟩
  have HJ3 := Aside0.mk hJ3
  clear hJ3 hk3
  gi_wp2
  rw [roundsIn_succ]
  gi_wp2
  go_end0
  exact ⟨⟨_, rfl⟩, HJ3.out⟩
theorem make_one (w : World) : (Instr.makeSlice 22 (.int .i64 1) (.int .i64 1)).run Tryz.prog w = .ok (.slice (some ⟨w.heap.size, 0, none⟩) 1 1) (w.alloc (.cells #[.int .i64 0] 3)) := by
  kernel_rfl
structure GEnv (w0 : World) (b : Nat) (w : World) : Prop where
  am : w.heap[b]? = some (.cells #[.int .i64 0] 3 (0, 0))
  out : w.heap[b + 1]? = some (.cells #[.int .i64 0] 3 (0, 0))
  box : w.heap[b + 1 + 1]? = some (.cells #[.slice (some ⟨b + 1, 0, none⟩) 1 1] 22 (0, 0))
  below : Below w0.heap.size w0 w
theorem grown_cells {W W' : World} {row : Option Nat} {k : Nat} {cs : Array Value} {t : TypeId} {f : Nat × Nat} (h : W.heap[k]? = some (.cells cs t f)) (hg : W.grownBy W' row) (hr : ∀ r, row = some r → ∃ o : Obj, W.heap[r]? = some o ∧ o.isCells = false) : W'.heap[k]? = some (.cells cs t f) :=
  (hg.block k (blk_lt h) (fun e => by
    obtain ⟨o, ho, hc⟩ := hr k e.symm
    rw [h] at ho
    cases ho
    cases hc)).trans h
theorem GEnv.own {w0 : World} {b B : Nat} (hB : w0.heap.size ≤ B) : OwnFrom B (fun (_ : Nat) W => GEnv w0 b W) := fun _ A C row hs hg hr =>
  ⟨grown_cells hs.am hg (fun r e => (hr r e).2), grown_cells hs.out hg (fun r e => (hr r e).2), grown_cells hs.box hg (fun r e => (hr r e).2), hs.below.grown hg hs.below.size (fun k e => Nat.le_trans hB (hr k e).1)⟩
theorem set_same {w : World} {b : Nat} {x : Value} {t : TypeId} (h : w.heap[b]? = some (.cells #[x] t (0, 0))) : (w.setCell ⟨b, 0, none⟩ x).heap[b]? = some (.cells #[x] t (0, 0)) := by
  rw [heap_setCell_same _ _ _ _ _ _ h]; rfl
theorem GEnv.stores {w0 w : World} {b : Nat} (h : GEnv w0 b w) (hb : w0.heap.size ≤ b) : GEnv w0 b ((w.setCell ⟨b + 1, 0, none⟩ (.int .i64 0)).setCell ⟨b, 0, none⟩ (.int .i64 0)).drew := by
  have k1 : ∀ k, k ≠ b + 1 → k ≠ b → ((w.setCell ⟨b + 1, 0, none⟩ (.int .i64 0)).setCell ⟨b, 0, none⟩ (.int .i64 0)).heap[k]? = w.heap[k]? := fun k h1 h2 => by
    rw [Below.heap_setCell _ _ _ _ h2, Below.heap_setCell _ _ _ _ h1]
  refine ⟨?_, ?_, (k1 _ (by omega) (by omega)).trans h.box, ((h.below.setCell (p := ⟨b + 1, 0, none⟩) (by show w0.heap.size ≤ b + 1; omega) _).setCell (p := ⟨b, 0, none⟩) hb _).drew⟩
  · refine set_same (w := w.setCell ⟨b + 1, 0, none⟩ (.int .i64 0)) ?_
    rw [Below.heap_setCell _ _ _ _ (by show b ≠ b + 1; omega)]
    exact h.am
  · show ((w.setCell ⟨b + 1, 0, none⟩ (.int .i64 0)).setCell ⟨b, 0, none⟩ (.int .i64 0)).heap[b + 1]? = _
    rw [Below.heap_setCell _ _ _ _ (by show b + 1 ≠ b; omega)]
    exact set_same h.out
set_option maxHeartbeats 4000000 in
set_option maxRecDepth 100000 in
theorem greedy_calls (g c : Nat) (w : World) (h : w.cell? ⟨g, 0, none⟩ = some (.int .i64 1)) :
    Calls Tryz.prog 189 #[.slice (some ⟨g, 0, none⟩) 1 c, .int .i64 0] w fun e w' => e = .returned (.slice (some ⟨w.heap.size + 1, 0, none⟩) 1 1) ∧ w'.cell? ⟨w.heap.size + 1, 0, none⟩ = some (.int .i64 0) ∧ Below w.heap.size w w' := by
  have hmk := make_one
  obtain ⟨b, hb⟩ : ∃ b, w.heap.size = b := ⟨_, rfl⟩
  have B1 := below_alloc (Below.refl _ w) (.cells #[.int .i64 0] 3)
  have p1 := heap_new w (.cells #[.int .i64 0] 3)
  have z1 : (w.alloc (.cells #[.int .i64 0] 3)).heap.size = b + 1 := by simp [hb]
  have q1 := heap_new (w.alloc (.cells #[.int .i64 0] 3)) (.cells #[.int .i64 0] 3)
  have B2 := below_alloc (Below.refl _ (w.alloc (.cells #[.int .i64 0] 3))) (.cells #[.int .i64 0] 3)
  have z2 : ((w.alloc (.cells #[.int .i64 0] 3)).alloc (.cells #[.int .i64 0] 3)).heap.size = b + 1 + 1 := by simp [hb]
  have q2 := heap_new ((w.alloc (.cells #[.int .i64 0] 3)).alloc (.cells #[.int .i64 0] 3)) (.cells #[.slice (some ⟨b + 1, 0, none⟩) 1 1] 22)
  have B3 := below_alloc (Below.refl _ ((w.alloc (.cells #[.int .i64 0] 3)).alloc (.cells #[.int .i64 0] 3))) (.cells #[.slice (some ⟨b + 1, 0, none⟩) 1 1] 22)
  have z3 : (((w.alloc (.cells #[.int .i64 0] 3)).alloc (.cells #[.int .i64 0] 3)).alloc (.cells #[.slice (some ⟨b + 1, 0, none⟩) 1 1] 22)).heap.size = b + 1 + 1 + 1 := by simp [hb]
  have q3 := heap_new (((w.alloc (.cells #[.int .i64 0] 3)).alloc (.cells #[.int .i64 0] 3)).alloc (.cells #[.slice (some ⟨b + 1, 0, none⟩) 1 1] 22)) (.cells #[.slice (some ⟨g, 0, none⟩) 1 c] 22)
  have B4 := below_alloc (Below.refl _ (((w.alloc (.cells #[.int .i64 0] 3)).alloc (.cells #[.int .i64 0] 3)).alloc (.cells #[.slice (some ⟨b + 1, 0, none⟩) 1 1] 22))) (.cells #[.slice (some ⟨g, 0, none⟩) 1 c] 22)
  rw [z1] at q1
  rw [z2] at q2
  rw [z3] at q3
  rw [hb] at p1
  have t3 := B3.trans (B4.mono B3.size)
  have t2 := B2.trans (t3.mono B2.size)
  have t1 := B1.trans (t2.mono B1.size)
  have HG0 := Aside0.mk (GEnv.mk (w0 := w) (b := b) (blk_below p1 t2) (blk_below q1 t3) (blk_below q2 B4) t1)
  have HX := Aside0.mk (And.intro q3 (pw_cell_below t1 h))
  have z4 : ((((w.alloc (.cells #[.int .i64 0] 3)).alloc (.cells #[.int .i64 0] 3)).alloc (.cells #[.slice (some ⟨b + 1, 0, none⟩) 1 1] 22)).alloc (.cells #[.slice (some ⟨g, 0, none⟩) 1 c] 22)).heap.size = b + 1 + 1 + 1 + 1 := by simp [hb]
  have HZ := Aside0.mk (And.intro hb z4)
  clear B1 B2 B3 B4 p1 q1 q2 q3 t1 t2 t3 h z1 z2 z3 z4
  refine (callsIn_wide (n := 9)).1 ?_
  refine callsIn_of_wp_marks Tryz.func189 rfl trivial ?_ rfl
  simp only [Tryz.ntmps189, List.size_toArray, List.length_cons, List.length_nil, Nat.reduceAdd, Nat.reduceSub, Array.replicate_succ, Array.replicate_zero, List.push_toArray, List.append_toArray, List.nil_append, List.cons_append]
  gi_wp2_with (refine ⟨trivial, ?_⟩; gi_at_call 229; refine (callsIn_wide.2 (backward_calls _ _ _ _)).mono ?_; rintro e w4 ⟨rfl, rfl⟩)
  refine range_box (n := 9) rfl (by decide) (gf := 252) (lb := #[.pointer (some ⟨b + 1 + 1 + 1, 0, none⟩)]) ?hg trivial (enters_of Tryz.func252 (by kernel_rfl) rfl) (N := 1) (Bn := b + 1 + 1 + 1) (Kb := fun _ => False) (St := fun _ _ => False) (by have := HZ.out.2; omega) (fun _ h => h.elim)
    (backward_box g c _ 8 (by decide) _ HX.out.1 HX.out.2) ?hps (fun _ W => GEnv w b W) (GEnv.own (by have := HZ.out; omega)) (fun _ _ _ _ h => h.elim) HG0.out
    (fun _ => { tmps := #[.slice (some ⟨g, 0, none⟩) 1 c, .int .i64 0, undef, .pointer (some ⟨b, 0, none⟩), .slice none 0 0, .pointer (some ⟨b + 1 + 1, 0, none⟩), .int .i64 0, .int .i64 1, .slice (some ⟨g, 0, none⟩) 1 c, .int .i64 1, .slice (some ⟨b + 1, 0, none⟩) 1 1, .slice (some ⟨g, 0, none⟩) 1 c, .func (.func 252) #[] #[.pointer (some ⟨b + 1 + 1 + 1, 0, none⟩)], .int .i64 0, .int .i64 1, undef, undef, undef, undef, undef, undef, undef, undef, undef, undef], defers := [] }) ?assign ?body ?done
  case hg => rfl
  case hps => intro k; rfl
  case assign =>
    intro l k W K hK
    gi_wp2
    exact hK
  case body =>
    intro l k W hk hI
    have hd : 1 ≤ 9 - 1 - 1 := by decide
    have hmx : Tryz.prog.follows .mixedOrders = true := by kernel_rfl
    have x0 := cellAt hI.am
    have x1 := cellAt hI.out
    have x2 := cellAt hI.box
    have f0 := blk_frozen hI.am 0
    have f1 := blk_frozen hI.out 0
    have HI := Aside0.mk hI
    have hwb := HZ.out.1
    clear hI hb
    gi_wp2
    gi_region_with_o (fail)
    all_goals gi_wp2
    all_goals exact ⟨((((KeepsOthers.setCell _ _ _).trans (KeepsOthers.setCell _ _ _)).trans (KeepsOthers.drew _)).from _), (fun _ h => h.elim), HI.out.stores (by omega)⟩
  case done =>
    intro D W hD hI hK
    have x2 := cellAt hI.box
    gi_wp2
    refine ⟨by simp, .inl ⟨_, _, rfl, run_takeDeferred hK, ?_⟩⟩
    have hz := HZ.out
    have hh : W.grownBy (W.putObj D (.deferred none)) (some D) := grownBy_putObj' W D _
    have hi := GEnv.own (B := w.heap.size) (Nat.le_refl _) 0 W _ (some D) hI hh (fun r e => by cases e; exact ⟨by omega, _, hK, rfl⟩)
    refine ⟨.slice (some ⟨b + 1, 0, none⟩) 1 1, by simp [results, Tryz.results189, go_sem], ?_⟩
    have hc := cellAt hi.out
    rw [hz.1]
    exact ⟨rfl, hc, by rw [← hz.1]; exact hi.below⟩
end Go.Proofs.YtldohjlcckbfaaaGreatDoor.Hand
