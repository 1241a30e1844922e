/- A part of the proof that pomadetop.TopTold returns true for every input: HandTa, HandTb, HandTc. No condition beyond those that each theorem states. -/
import Derived.Defers
import Derived.Recover
import Derived.Lib.ItoaLen
import Derived.Laws.AppendOwnNone
import Derived.Test.YtldohjlcckbfaaaGreatDoorK21
namespace Go.Proofs.YtldohjlcckbfaaaGreatDoor.Hand
open Go.RowKit Go.Proofs.YtldohjlcckbfaaaGreatDoorW.PrintWords Go.Proofs.YtldohjlcckbfaaaGreatDoorW.PrintLast Go.Proofs.YtldohjlcckbfaaaGreatDoorW.PrintMore
set_option linter.unusedVariables false
set_option linter.unusedSimpArgs false
open Go.Proofs.YtldohjlcckbfaaaGreatDoor.Pre
structure Glob (w : World) : Prop where
  ops : Ops w
  steps : StepsAt w
  pow : Lib.TabIs Tryz.prog w "internal/strconv.uint64pow10" .u64 Lib.pow10Tab
  maxl : ∃ m, w.cell? ⟨4, 0, none⟩ = some (.int .i64 m)
theorem tab_below {w w' : World} {k : IntKind} {zs : List Int} (h : Lib.TabIs Tryz.prog w "internal/strconv.uint64pow10" k zs) (hb : Below w.heap.size w w') : Lib.TabIs Tryz.prog w' "internal/strconv.uint64pow10" k zs := by
  have hgn : Tryz.prog.globalNamed "internal/strconv.uint64pow10" = some 5 := by kernel_rfl
  unfold Lib.TabIs World.var? at h ⊢
  rw [hgn] at h ⊢
  simp only [Option.bind_some] at h ⊢
  have hlt : 5 < w.heap.size := by
    rcases Nat.lt_or_ge 5 w.heap.size with h' | h'
    · exact h'
    · rw [Array.getElem?_eq_none h'] at h; cases h
  rw [hb.block 5 hlt]
  exact h
theorem Glob.below {w w' : World} (h : Glob w) (hb : Below w.heap.size w w') : Glob w' :=
  ⟨h.ops.below hb, h.steps.below hb, tab_below h.pow hb, by obtain ⟨m, hm⟩ := h.maxl; exact ⟨m, pw_cell_below hb hm⟩⟩
def itoaB (n : Int) : ByteArray := ⟨(Lib.itoa n).toArray⟩
theorem itoa_calls (n : Int) (h0 : -9223372036854775808 ≤ n) (h1 : n ≤ 9223372036854775807) (w : World) (hG : Glob w) :
    Calls Tryz.prog 71 #[.int .i64 n] w fun e w' => e = .returned (.string (itoaB n)) ∧ Below w.heap.size w w' := by
  refine (Tryz.strconv_Itoa n h0 h1 w hG.pow).mono ?_
  rintro e w' ⟨rfl, k, os, rfl⟩
  exact ⟨rfl, below_grow os (pw_below_drewN (Below.refl _ _) k) (Nat.le_refl _)⟩
set_option maxHeartbeats 4000000 in
set_option maxRecDepth 100000 in
theorem catch_idle (b1 b2 : Nat) (w : World) :
    CallsD Tryz.prog 285 #[.pointer (some ⟨b1, 0, none⟩), .pointer (some ⟨b2, 0, none⟩)] .returning w fun e u' w' => e = .returned (.tuple #[]) ∧ u' = .returning ∧ w' = w := by
  have heq : ∀ (w : World), (binOp .eql 20 .nilIface .nilIface).run Tryz.prog w = .ok (.bool true) w := fun w => by kernel_rfl
  refine callsD_of_wpS Tryz.func285 rfl fun c₀ cs hu => ?_
  apply wpS_seq
  apply wpS_region
  simp [wpOpsS, go_sem, recoverD, hu, Tryz.ntmps285, Exit.thenS]
  refine wpS_of_wp ?_
  go_wp2
  cases c₀
  simp_all [bodyPostS, results, Tryz.results285]
theorem cell_set_ne {w : World} {b b' : Nat} {v : Value} (h : w.cell? ⟨b, 0, none⟩ = some v) (hne : b ≠ b') (x : Value) : (w.setCell ⟨b', 0, none⟩ x).cell? ⟨b, 0, none⟩ = some v := by
  simp only [World.cell?] at h ⊢
  rw [Below.heap_setCell _ _ _ _ hne]
  exact h
def bangB (k : Int) : ByteArray := ⟨#[33, 32]⟩ ++ itoaB k
set_option maxHeartbeats 4000000 in
set_option maxRecDepth 100000 in
theorem catch_panicking (b1 b2 : Nat) (k : Int) (k0 : 0 ≤ k) (k1 : k ≤ 100) (older : List PanicEntry) (w : World) (hG : Glob w) (x y : Value) (h1 : w.heap[b1]? = some (.cells #[x] 9 (0, 0))) (h2 : w.heap[b2]? = some (.cells #[y] 25 (0, 0))) (hne : b1 ≠ b2) :
    CallsD Tryz.prog 285 #[.pointer (some ⟨b1, 0, none⟩), .pointer (some ⟨b2, 0, none⟩)] (.panicking ({ v := .iface 240 (.agg #[.int .i64 k]), recovered := false } :: older)) w fun e u' w' =>
      e = .returned (.tuple #[]) ∧ u' = .panicking ({ v := .iface 240 (.agg #[.int .i64 k]), recovered := true } :: older) ∧ w'.heap[b1]? = some (.cells #[.string (bangB k)] 9 (0, 0)) ∧ w'.heap[b2]? = some (.cells #[.int .i64 k] 25 (0, 0)) ∧ ∀ B, B ≤ b1 → B ≤ b2 → B ≤ w.heap.size → Below B w w' := by
  refine callsD_of_wpS Tryz.func285 rfl fun c₀ cs hu => ?_
  apply wpS_seq
  apply wpS_region
  simp [wpOpsS, go_sem, recoverD, hu, Tryz.ntmps285, Exit.thenS]
  refine wpS_of_wp ?_
  have hta : ∀ w, (Instr.typeAssert (.iface 240 (.agg #[.int .i64 k])) 20 240 true).run Tryz.prog w = .ok (.tuple #[.agg #[.int .i64 k], .bool true]) w := fun w => by kernel_rfl
  have hne0 : ∀ w, (binOp .eql 20 (.iface 240 (.agg #[.int .i64 k])) .nilIface).run Tryz.prog w = .ok (.bool false) w := fun w => by kernel_rfl
  change Code.wp _ _ _ { tmps := #[.pointer (some ⟨b1, 0, none⟩), .pointer (some ⟨b2, 0, none⟩), undef, undef, undef, .iface 240 (.agg #[.int .i64 k]), undef, undef, undef, undef, undef, undef, undef, undef, undef, undef, undef], defers := [] } _
  go_wp2
  obtain ⟨b, hb⟩ : ∃ b, w.heap.size = b := ⟨_, rfl⟩
  have HZ := Aside0.mk hb
  have hlt1 := blk_lt h1
  have hlt2 := blk_lt h2
  rw [hb] at hlt1 hlt2 ⊢
  have hq := Aside0.mk (cellAt (heap_new w (Obj.cells #[Value.int .i64 k] 240)))
  have HB0 := Aside0.mk (below_alloc (Below.refl _ w) (Obj.cells #[Value.int .i64 k] 240))
  rw [hb] at hq HB0
  have H1 := Aside0.mk (blk_alloc h1 (Obj.cells #[Value.int .i64 k] 240))
  have H2 := Aside0.mk (blk_alloc h2 (Obj.cells #[Value.int .i64 k] 240))
  have hG2 := Aside0.mk (hG.below (below_drew (below_alloc (Below.refl _ w) (Obj.cells #[Value.int .i64 k] 240))))
  have hS := Aside0.mk (show bangB k = ⟨#[33, 32]⟩ ++ itoaB k from rfl)
  have hsz : ((itoaB k).size : Int) ≤ 21 := by have := Lib.itoa_length_le k (by omega) (by omega); show (((Lib.itoa k).toArray.size : Nat) : Int) ≤ 21; simp; omega
  obtain ⟨s, hs⟩ : ∃ s, itoaB k = s := ⟨_, rfl⟩
  have HI := Aside0.mk (fun W hg => itoa_calls k (by omega) (by omega) W hg)
  rw [hs] at hS hsz HI
  have hadd : ∀ (W : World), (Op.stringOp .add ⟨#[33, 32]⟩ s).run Tryz.prog W = .ok (.string (⟨#[33, 32]⟩ ++ s)) W := fun W => run_string_add_sum W _ _ (by show 2 + s.size ≤ 9223372036854775807; omega)
  clear h1 h2 hG hb hs hta hne0
  have HC := Aside0.mk (HI.out _ hG2.out)
  have hq2 := Aside0.mk (show (w.alloc (Obj.cells #[Value.int .i64 k] 240)).drew.cell? ⟨b, 0, none⟩ = some (.int .i64 k) from hq.out)
  have H1d := Aside0.mk (blk_drew H1.out)
  have H2d := Aside0.mk (blk_drew H2.out)
  go_region_held3 (fun w' => w'.cell? ⟨b, 0, none⟩ = some (.int .i64 k)) (first | (exact hq2.out) | (exact Q1.out) | (exact cell_set_ne Q1.out (by omega) _) | (exact cell_set_ne (cell_set_ne Q1.out (by omega) _) (by omega) _) | go_keep) ((go_at_call 71; refine HC.out.mono ?_; rintro e w3 ⟨rfl, hb3⟩; have HB3 := Aside0.mk hb3; have Q1 := Aside0.mk (pw_cell_below hb3 hq2.out); have X1 := Aside0.mk (blk_below H1d.out hb3); have X2 := Aside0.mk (blk_below H2d.out hb3); have x1 := cellAt X1.out; have x2 := cellAt X2.out; have x3 := blk_frozen X1.out 0; have x4 := blk_frozen X2.out 0; clear hb3))
  go_wp2
  have hb1 : b1 ≠ b := by omega
  have hb2 : b2 ≠ b := by omega
  have X3 := Aside0.mk (show (w3.setCell ⟨b1, 0, none⟩ (.string (⟨#[33, 32]⟩ ++ s))).heap[b1]? = some (.cells #[.string (⟨#[33, 32]⟩ ++ s)] 9 (0, 0)) by rw [heap_setCell_same _ _ _ _ _ _ X1.out]; rfl)
  have X4 := Aside0.mk (show (w3.setCell ⟨b1, 0, none⟩ (.string (⟨#[33, 32]⟩ ++ s))).heap[b2]? = some (.cells #[y] 25 (0, 0)) by rw [Below.heap_setCell _ _ _ _ (Ne.symm hne)]; exact X2.out)
  refine ⟨rfl, _, rfl, .tuple #[], by simp [results, Tryz.results285], rfl, rfl, ?_, ?_, ?_⟩
  · rw [Below.heap_setCell _ _ _ _ hne, hS.out]
    exact X3.out
  · rw [heap_setCell_same _ _ _ _ _ _ X4.out]
    rfl
  · intro B hB1 hB2 hB3
    have hz := HZ.out
    have hz1 := size_alloc w (Obj.cells #[Value.int .i64 k] 240)
    refine ((((HB0.out.mono (by omega)).drew).trans (HB3.out.mono ?_)).setCell (p := ⟨b1, 0, none⟩) hB1 _).setCell (p := ⟨b2, 0, none⟩) hB2 _
    show B ≤ (w.alloc (Obj.cells #[Value.int .i64 k] 240)).heap.size
    omega
end Go.Proofs.YtldohjlcckbfaaaGreatDoor.Hand
namespace Go.Proofs.YtldohjlcckbfaaaGreatDoor.Hand
open Go.RowKit Go.Proofs.YtldohjlcckbfaaaGreatDoorW.PrintWords Go.Proofs.YtldohjlcckbfaaaGreatDoorW.PrintLast Go.Proofs.YtldohjlcckbfaaaGreatDoorW.PrintMore
set_option linter.unusedVariables false
set_option linter.unusedSimpArgs false
open Go.Proofs.YtldohjlcckbfaaaGreatDoor.Pre
def verbO (ks : ByteArray) (least most more step : Int) (ch : Bool) (F : Nat) : Obj := .cells #[.string ks, .int .i64 least, .int .i64 most, .int .u8 more, .int .i64 step, .bool ch, .func (.func F) #[] #[]] 127 (0, 0)
theorem cell_set_off {w : World} {b b' o : Nat} {v : Value} (h : w.cell? ⟨b, o, none⟩ = some v) (hne : b ≠ b') (x : Value) : (w.setCell ⟨b', 0, none⟩ x).cell? ⟨b, o, none⟩ = some v := by
  simp only [World.cell?] at h ⊢
  rw [Below.heap_setCell _ _ _ _ hne]
  exact h
set_option maxHeartbeats 4000000 in
set_option maxRecDepth 100000 in
theorem done_ok (vb p F : Nat) (ks : ByteArray) (least most more step : Int) (a0 a1 a2 a3 : Value) (r : ByteArray) (w : World) (hv : w.heap[vb]? = some (verbO ks least most more step false F))
    (eg : ∀ args w, (callFunc F args).run Tryz.prog w = .ok (.enter F args) w)
    (hF : ∀ W, Below w.heap.size w W → Calls Tryz.prog F #[.pointer (some ⟨p, 0, none⟩), .agg #[a0, a1, a2, a3]] W fun e W' => e = .returned (.string r) ∧ Below W.heap.size W W') :
    Calls Tryz.prog 284 #[.pointer (some ⟨vb, 0, none⟩), .pointer (some ⟨p, 0, none⟩), .agg #[a0, a1, a2, a3]] w fun e w' => e = .returned (.tuple #[.string r, .int .i64 0]) ∧ Below w.heap.size w w' := by
  have hmf : ∀ (fn : Fn) (first cap : Array Value) (w : World), (Instr.makeFunc fn first cap).run Tryz.prog w = .ok (.func fn first cap) w := fun _ _ _ _ => rfl
  have HV := Aside0.mk hv
  have HF := Aside0.mk hF
  clear hv hF
  go_enter_defers Tryz.func284, Tryz.ntmps284
  go_wp2
  have hvl := blk_lt HV.out
  have hA := heap_new w (Obj.cells #[a0, a1, a2, a3] 129)
  have B0 := below_alloc (Below.refl _ w) (Obj.cells #[a0, a1, a2, a3] 129)
  have z0 := size_alloc w (Obj.cells #[a0, a1, a2, a3] 129)
  obtain ⟨w1, e1⟩ : ∃ w1, w.alloc (Obj.cells #[a0, a1, a2, a3] 129) = w1 := ⟨_, rfl⟩
  rw [e1] at hA B0 z0 ⊢
  have hR := heap_new w1 (Obj.cells #[Value.string ⟨#[]⟩] 9)
  have hA := heap_old w1 (Obj.cells #[Value.string ⟨#[]⟩] 9) hA
  have B1 := below_alloc B0 (Obj.cells #[Value.string ⟨#[]⟩] 9)
  have z1 := size_alloc w1 (Obj.cells #[Value.string ⟨#[]⟩] 9)
  obtain ⟨w2, e2⟩ : ∃ w2, w1.alloc (Obj.cells #[Value.string ⟨#[]⟩] 9) = w2 := ⟨_, rfl⟩
  rw [e2] at hA hR B1 z1 ⊢
  have hE := heap_new w2 (Obj.cells #[Value.int .i64 0] 25)
  have hA := heap_old w2 (Obj.cells #[Value.int .i64 0] 25) hA
  have hR := heap_old w2 (Obj.cells #[Value.int .i64 0] 25) hR
  have B2 := below_alloc B1 (Obj.cells #[Value.int .i64 0] 25)
  have z2 := size_alloc w2 (Obj.cells #[Value.int .i64 0] 25)
  obtain ⟨w3, e3⟩ : ∃ w3, w2.alloc (Obj.cells #[Value.int .i64 0] 25) = w3 := ⟨_, rfl⟩
  rw [e3] at hA hR hE B2 z2 ⊢
  rw [z1, z0] at hE
  rw [z0] at hR
  obtain ⟨b, hb⟩ : ∃ b, w.heap.size = b := ⟨_, rfl⟩
  have HZ := Aside0.mk hb
  rw [hb] at hA hR hE hvl ⊢
  have HB3 := Aside0.mk B2
  have HR := Aside0.mk hR
  have HE := Aside0.mk hE
  have HV3 := Aside0.mk (blk_below HV.out B2)
  have HA := Aside0.mk hA
  have hsz3 : w3.heap.size = b + 3 := by omega
  have HC := Aside0.mk (HF.out w3.drew (below_drew HB3.out))
  have v6 : w3.cell? ⟨vb, 6, none⟩ = some (.func (.func F) #[] #[]) := by have := HV3.out; unfold verbO at this; rw [blk_cell this]; rfl
  have v5 : w3.cell? ⟨vb, 5, none⟩ = some (.bool false) := by have := HV3.out; unfold verbO at this; rw [blk_cell this]; rfl
  have c0 : w3.cell? ⟨b, 0, none⟩ = some a0 := by rw [blk_cell HA.out]; rfl
  have c1 : w3.cell? ⟨b, 1, none⟩ = some a1 := by rw [blk_cell HA.out]; rfl
  have c2 : w3.cell? ⟨b, 2, none⟩ = some a2 := by rw [blk_cell HA.out]; rfl
  have c3 : w3.cell? ⟨b, 3, none⟩ = some a3 := by rw [blk_cell HA.out]; rfl
  have HSZ := Aside0.mk hsz3
  clear e1 e2 e3 z0 z1 z2 B0 B1 B2 hA hR hE hb hsz3
  go_region_held3 (fun w' => w'.cell? ⟨vb, 6, none⟩ = some (.func (.func F) #[] #[]) ∧ w'.cell? ⟨b, 0, none⟩ = some a0 ∧ w'.cell? ⟨b, 1, none⟩ = some a1 ∧ w'.cell? ⟨b, 2, none⟩ = some a2 ∧ w'.cell? ⟨b, 3, none⟩ = some a3) (first | (exact ⟨v6, c0, c1, c2, c3⟩) | (exact ⟨k6, k0, k1, k2, k3⟩) | (exact ⟨cell_set_off k6 (by omega) _, cell_set_off k0 (by omega) _, cell_set_off k1 (by omega) _, cell_set_off k2 (by omega) _, cell_set_off k3 (by omega) _⟩)) (((with_reducible refine HC.out.mono ?_); rintro e w4 ⟨rfl, hb4⟩; have HB4 := Aside0.mk ((below_drew HB3.out).trans (hb4.mono (by have := HB3.out.size; exact this))); have HR4 := Aside0.mk (blk_below (blk_drew HR.out) hb4); have HE4 := Aside0.mk (blk_below (blk_drew HE.out) hb4); have HV4 := Aside0.mk (blk_below (blk_drew HV3.out) hb4); have k6 := pw_cell_below hb4 (show w3.drew.cell? ⟨vb, 6, none⟩ = _ from v6); have k0 := pw_cell_below hb4 (show w3.drew.cell? ⟨b, 0, none⟩ = _ from c0); have k1 := pw_cell_below hb4 (show w3.drew.cell? ⟨b, 1, none⟩ = _ from c1); have k2 := pw_cell_below hb4 (show w3.drew.cell? ⟨b, 2, none⟩ = _ from c2); have k3 := pw_cell_below hb4 (show w3.drew.cell? ⟨b, 3, none⟩ = _ from c3); have r1 := cellAt HR4.out; have r2 := blk_frozen HR4.out 0))
  have X1 := Aside0.mk (show (w4.setCell ⟨b + 1, 0, none⟩ (.string r)).heap[b + 1]? = some (.cells #[.string r] 9 (0, 0)) by rw [heap_setCell_same _ _ _ _ _ _ HR4.out]; rfl)
  have X2 := Aside0.mk (show (w4.setCell ⟨b + 1, 0, none⟩ (.string r)).heap[b + 1 + 1]? = some (.cells #[.int .i64 0] 25 (0, 0)) by rw [Below.heap_setCell _ _ _ _ (by show b + 1 + 1 ≠ b + 1; omega)]; exact HE4.out)
  have XV := Aside0.mk (show (w4.setCell ⟨b + 1, 0, none⟩ (.string r)).heap[vb]? = some (verbO ks least most more step false F) by rw [Below.heap_setCell _ _ _ _ (by show vb ≠ b + 1; omega)]; exact HV4.out)
  have HB5 := Aside0.mk (HB4.out.setCell (p := ⟨b + 1, 0, none⟩) (by rw [HZ.out]; show b ≤ b + 1; omega) (.string r))
  clear r1 r2 k6 k0 k1 k2 k3 v5 v6 c0 c1 c2 c3 HC
  obtain ⟨w5, h5⟩ : ∃ w5, w4.setCell ⟨b + 1, 0, none⟩ (.string r) = w5 := ⟨_, rfl⟩
  rw [h5] at X1 X2 XV HB5 ⊢
  clear h5
  have v5 : w5.cell? ⟨vb, 5, none⟩ = some (.bool false) := by have := XV.out; unfold verbO at this; rw [blk_cell this]; rfl
  have s1 := cellAt X1.out
  have s2 := blk_frozen X1.out 0
  have s3 := cellAt X2.out
  have s4 := blk_frozen X2.out 0
  have nn : ¬ b + 1 + 1 = b + 1 := by omega
  go_wp2
  refine leaves_cons (f := 285) (args := #[.pointer (some ⟨b + 1, 0, none⟩), .pointer (some ⟨b + 1 + 1, 0, none⟩)]) (by simp) (by simp [go_sem]) ?_
  refine (catch_idle _ _ _).mono ?_
  rintro e u' w'' ⟨rfl, rfl, rfl⟩
  have Y1 := Aside0.mk (show (w5.setCell ⟨b + 1, 0, none⟩ (.string r)).heap[b + 1]? = some (.cells #[.string r] 9 (0, 0)) by rw [heap_setCell_same _ _ _ _ _ _ X1.out]; rfl)
  have Y2 := Aside0.mk (show (w5.setCell ⟨b + 1, 0, none⟩ (.string r)).heap[b + 1 + 1]? = some (.cells #[.int .i64 0] 25 (0, 0)) by rw [Below.heap_setCell _ _ _ _ (by show b + 1 + 1 ≠ b + 1; omega)]; exact X2.out)
  have HB6 := Aside0.mk ((HB5.out.setCell (p := ⟨b + 1, 0, none⟩) (by rw [HZ.out]; show b ≤ b + 1; omega) (.string r)).setCell (p := ⟨b + 1 + 1, 0, none⟩) (by rw [HZ.out]; show b ≤ b + 1 + 1; omega) (.int .i64 0))
  obtain ⟨w6, h6⟩ : ∃ w6, w5.setCell ⟨b + 1, 0, none⟩ (.string r) = w6 := ⟨_, rfl⟩
  rw [h6] at Y1 Y2 HB6 ⊢
  have s1 := cellAt Y1.out
  have t1 := cell_set_off s1 (b' := b + 1 + 1) (by omega) (.int .i64 0)
  have X3 := Aside0.mk (show (w6.setCell ⟨b + 1 + 1, 0, none⟩ (.int .i64 0)).heap[b + 1 + 1]? = some (.cells #[.int .i64 0] 25 (0, 0)) by rw [heap_setCell_same _ _ _ _ _ _ Y2.out]; rfl)
  have t2 := cellAt X3.out
  simp [Leaves, settle, results, Tryz.results284, go_sem, t1, t2, HB6.out]
end Go.Proofs.YtldohjlcckbfaaaGreatDoor.Hand
namespace Go.Proofs.YtldohjlcckbfaaaGreatDoor.Hand
open Go.RowKit Go.Proofs.YtldohjlcckbfaaaGreatDoorW.PrintWords Go.Proofs.YtldohjlcckbfaaaGreatDoorW.PrintLast Go.Proofs.YtldohjlcckbfaaaGreatDoorW.PrintMore
set_option linter.unusedVariables false
set_option linter.unusedSimpArgs false
open Go.Proofs.YtldohjlcckbfaaaGreatDoor.Pre
structure LAt (w : World) (size : Nat) (v : Value) (xs : List Value) (n : Nat) : Prop where
  len : xs.length = n * size
  one : ∀ u ∈ xs, u.oneCell' = true
  lies : (v = .slice none 0 0 ∧ n = 0) ∨ ∃ g c, v = .slice (some ⟨g, 0, none⟩) n c ∧ n ≤ c ∧ c ≤ maxLen ∧ ∀ j u, xs[j]? = some u → w.cell? ⟨g, j, none⟩ = some u
structure TAt (w : World) (size : Nat) (v : Value) (xs : List Value) (n : Nat) : Prop where
  len : xs.length = n * size
  one : ∀ u ∈ xs, u.oneCell' = true
  lies : (v = .slice none 0 0 ∧ n = 0) ∨ ∃ g, v = .slice (some ⟨g, 0, none⟩) n n ∧ 0 < n ∧ n ≤ maxLen ∧ ∀ j u, xs[j]? = some u → w.cell? ⟨g, j, none⟩ = some u
theorem TAt.loose {w : World} {size n : Nat} {v : Value} {xs : List Value} (h : TAt w size v xs n) : LAt w size v xs n :=
  ⟨h.len, h.one, h.lies.imp id fun ⟨g, h1, h2, h3, h4⟩ => ⟨g, n, h1, Nat.le_refl _, h3, h4⟩⟩
theorem LAt.below {w w' : World} {size n : Nat} {v : Value} {xs : List Value} (h : LAt w size v xs n) (hb : Below w.heap.size w w') : LAt w' size v xs n :=
  ⟨h.len, h.one, h.lies.imp id fun ⟨g, c, h1, h3, h4, h5⟩ => ⟨g, c, h1, h3, h4, fun j u hj => pw_cell_below hb (h5 j u hj)⟩⟩
theorem TAt.below {w w' : World} {size n : Nat} {v : Value} {xs : List Value} (h : TAt w size v xs n) (hb : Below w.heap.size w w') : TAt w' size v xs n :=
  ⟨h.len, h.one, h.lies.imp id fun ⟨g, h1, h2, h4, h5⟩ => ⟨g, h1, h2, h4, fun j u hj => pw_cell_below hb (h5 j u hj)⟩⟩
theorem TAt.nil (w : World) (size : Nat) : TAt w size (.slice none 0 0) [] 0 := ⟨by simp, by simp, .inl ⟨rfl, rfl⟩⟩
theorem LAt.slice {w : World} {size n : Nat} {v : Value} {xs : List Value} (h : LAt w size v xs n) : ∃ A c, v = .slice A n c ∧ n ≤ c := by
  rcases h.lies with ⟨rfl, rfl⟩ | ⟨g, c, rfl, hc, _⟩
  · exact ⟨_, _, rfl, Nat.le_refl _⟩
  · exact ⟨_, _, rfl, hc⟩
theorem LAt.of_own {w : World} {base e size n : Nat} {v : Value} {xs : List Value} (hs : 0 < size) (h : w.ownsRow base e size v n xs) (h1 : ∀ u ∈ xs, u.oneCell' = true) : LAt w size v xs n := by
  refine ⟨h.1, h1, ?_⟩
  rcases h.2 with ⟨rfl, rfl⟩ | ⟨g, cap, cur, rfl, hb, hg, hn, hm, hc, ht⟩
  · exact .inl ⟨rfl, rfl⟩
  · exact .inr ⟨g, cap, rfl, hn, hm, fun j u hj => by have := h.cells (g := g) rfl j u hj; rwa [Addr.add_lit, Nat.zero_add] at this⟩
set_option maxHeartbeats 2000000 in
set_option maxRecDepth 100000 in
theorem own_strings (v : Value) (xs : List Value) (n : Nat) (hn : n ≤ 1000) (w : World) (h : LAt w 1 v xs n) :
    Calls Tryz.prog 190 #[v] w fun e w' => ∃ v', e = .returned v' ∧ TAt w' 1 v' xs n ∧ Below w.heap.size w w' := by
  have infoE : (Tryz.prog.info? 9).map (fun i => (i.zero, i.size, i.bytes)) = some (some (.string ByteArray.empty), 1, 16) := by kernel_rfl
  obtain ⟨i0, hi0, hz0, hz1, hz2⟩ := info_parts infoE
  obtain ⟨hl, h1, h⟩ := h
  rcases h with ⟨rfl, rfl⟩ | ⟨g, c, rfl, hc, hm, hx⟩
  · obtain rfl : xs = [] := List.eq_nil_of_length_eq_zero (by simpa using hl)
    go_enter Tryz.func190, Tryz.ntmps190
    go_wp2_with (at_builtin; refine wpList_append_own_none rfl _ _ 61 rfl 0 9 i0 1 Tryz.underlying61 hi0 _ 0 [] rfl (World.ownsRow_nil w 0 9 1) rfl ?_)
    go_ret
    exact ⟨_, rfl, TAt.nil _ _, Below.refl _ _⟩
  · have hlt : c ≤ 9223372036854775807 := by simp only [maxLen] at hm; omega
    go_enter Tryz.func190, Tryz.ntmps190
    go_wp2_with (at_builtin; refine wpList_append_own _ rfl _ _ 61 rfl w.heap.size 9 i0 (.string ByteArray.empty) 1 16 Tryz.underlying61 hi0 hz0 hz1 hz2 rfl (by decide) _ 0 [] rfl (World.ownsRow_nil w _ 9 1) ⟨g, 0, none⟩ n c xs rfl hl ?c1 h1 ?c2 ?c3 (Nat.le_refl _) ?_)
    case c1 => intro j u hj; rw [Addr.add_lit, Nat.zero_add]; exact hx j u hj
    case c2 => simp only [maxLen]; omega
    case c3 => omega
    intro v' w' hown hgrow hiff
    by_cases h0 : 0 < n
    case neg =>
      obtain rfl : n = 0 := by omega
      obtain rfl := hiff.2 rfl
      obtain rfl : xs = [] := List.eq_nil_of_length_eq_zero (by simpa using hl)
      have HG := Aside0.mk hgrow
      clear hgrow hown hiff hx hi0 hz0 hz1 hz2
      go_wp2
      go_ret
      refine ⟨_, rfl, TAt.nil _ _, ?_⟩
      exact (Below.refl _ _).grown HG.out (Nat.le_refl _) (by simp [Value.ownBlock])
    obtain ⟨g', cap, rfl, hg1, hg2⟩ := hown.form h0
    rcases hown.2 with ⟨hcon, _⟩ | ⟨g2, cap2, cur, he, _, _, hcn, hcm, _⟩
    · exact absurd hcon (by simp)
    cases he
    have HG := Aside0.mk hgrow
    have HO := Aside0.mk hown
    have hcl : cap ≤ 9223372036854775807 := by simp only [maxLen] at hcm; omega
    clear hgrow hown hiff hx hi0 hz0 hz1 hz2
    go_wp2
    go_ret
    refine ⟨_, rfl, ⟨hl, h1, .inr ⟨g', rfl, h0, by simp only [maxLen]; omega, fun j u hj => by have := HO.out.cells (g := g') rfl j u hj; rwa [Addr.add_lit, Nat.zero_add] at this⟩⟩, ?_⟩
    exact (Below.refl _ _).grown HG.out (Nat.le_refl _) (by simp [Value.ownBlock])
set_option maxHeartbeats 2000000 in
set_option maxRecDepth 100000 in
theorem own_pairs (v : Value) (xs : List Value) (n : Nat) (hn : n ≤ 1000) (w : World) (h : LAt w 2 v xs n) :
    Calls Tryz.prog 281 #[v] w fun e w' => ∃ v', e = .returned v' ∧ TAt w' 2 v' xs n ∧ Below w.heap.size w w' := by
  have infoE : (Tryz.prog.info? 84).map (fun i => (i.zero, i.size, i.bytes)) = some (some (.agg #[.int .i64 0, .int .i64 0]), 2, 16) := by kernel_rfl
  obtain ⟨i0, hi0, hz0, hz1, hz2⟩ := info_parts infoE
  obtain ⟨hl, h1, h⟩ := h
  rcases h with ⟨rfl, rfl⟩ | ⟨g, c, rfl, hc, hm, hx⟩
  · obtain rfl : xs = [] := List.eq_nil_of_length_eq_zero (by simpa using hl)
    go_enter Tryz.func281, Tryz.ntmps281
    go_wp2_with (at_builtin; refine wpList_append_own_none rfl _ _ 62 rfl 0 84 i0 2 Tryz.underlying62 hi0 _ 0 [] rfl (World.ownsRow_nil w 0 84 2) rfl ?_)
    go_ret
    exact ⟨_, rfl, TAt.nil _ _, Below.refl _ _⟩
  · have hlt : c ≤ 9223372036854775807 := by simp only [maxLen] at hm; omega
    go_enter Tryz.func281, Tryz.ntmps281
    go_wp2_with (at_builtin; refine wpList_append_own _ rfl _ _ 62 rfl w.heap.size 84 i0 (.agg #[.int .i64 0, .int .i64 0]) 2 16 Tryz.underlying62 hi0 hz0 hz1 hz2 rfl (by decide) _ 0 [] rfl (World.ownsRow_nil w _ 84 2) ⟨g, 0, none⟩ n c xs rfl hl ?c1 h1 ?c2 ?c3 (Nat.le_refl _) ?_)
    case c1 => intro j u hj; rw [Addr.add_lit, Nat.zero_add]; exact hx j u hj
    case c2 => simp only [maxLen]; omega
    case c3 => omega
    intro v' w' hown hgrow hiff
    by_cases h0 : 0 < n
    case neg =>
      obtain rfl : n = 0 := by omega
      obtain rfl := hiff.2 rfl
      obtain rfl : xs = [] := List.eq_nil_of_length_eq_zero (by simpa using hl)
      have HG := Aside0.mk hgrow
      clear hgrow hown hiff hx hi0 hz0 hz1 hz2
      go_wp2
      go_ret
      refine ⟨_, rfl, TAt.nil _ _, ?_⟩
      exact (Below.refl _ _).grown HG.out (Nat.le_refl _) (by simp [Value.ownBlock])
    obtain ⟨g', cap, rfl, hg1, hg2⟩ := hown.form h0
    rcases hown.2 with ⟨hcon, _⟩ | ⟨g2, cap2, cur, he, _, _, hcn, hcm, _⟩
    · exact absurd hcon (by simp)
    cases he
    have HG := Aside0.mk hgrow
    have HO := Aside0.mk hown
    have hcl : cap ≤ 9223372036854775807 := by simp only [maxLen] at hcm; omega
    clear hgrow hown hiff hx hi0 hz0 hz1 hz2
    go_wp2
    go_ret
    refine ⟨_, rfl, ⟨hl, h1, .inr ⟨g', rfl, h0, by simp only [maxLen]; omega, fun j u hj => by have := HO.out.cells (g := g') rfl j u hj; rwa [Addr.add_lit, Nat.zero_add] at this⟩⟩, ?_⟩
    exact (Below.refl _ _).grown HG.out (Nat.le_refl _) (by simp [Value.ownBlock])
set_option maxHeartbeats 2000000 in
set_option maxRecDepth 100000 in
theorem own_ints (v : Value) (xs : List Value) (n : Nat) (hn : n ≤ 1000) (w : World) (h : LAt w 1 v xs n) :
    Calls Tryz.prog 282 #[v] w fun e w' => ∃ v', e = .returned v' ∧ TAt w' 1 v' xs n ∧ Below w.heap.size w w' := by
  have infoE : (Tryz.prog.info? 3).map (fun i => (i.zero, i.size, i.bytes)) = some (some (.int .i64 0), 1, 8) := by kernel_rfl
  obtain ⟨i0, hi0, hz0, hz1, hz2⟩ := info_parts infoE
  obtain ⟨hl, h1, h⟩ := h
  rcases h with ⟨rfl, rfl⟩ | ⟨g, c, rfl, hc, hm, hx⟩
  · obtain rfl : xs = [] := List.eq_nil_of_length_eq_zero (by simpa using hl)
    go_enter Tryz.func282, Tryz.ntmps282
    go_wp2_with (at_builtin; refine wpList_append_own_none rfl _ _ 22 rfl 0 3 i0 1 Tryz.underlying22 hi0 _ 0 [] rfl (World.ownsRow_nil w 0 3 1) rfl ?_)
    go_ret
    exact ⟨_, rfl, TAt.nil _ _, Below.refl _ _⟩
  · have hlt : c ≤ 9223372036854775807 := by simp only [maxLen] at hm; omega
    go_enter Tryz.func282, Tryz.ntmps282
    go_wp2_with (at_builtin; refine wpList_append_own _ rfl _ _ 22 rfl w.heap.size 3 i0 (.int .i64 0) 1 8 Tryz.underlying22 hi0 hz0 hz1 hz2 rfl (by decide) _ 0 [] rfl (World.ownsRow_nil w _ 3 1) ⟨g, 0, none⟩ n c xs rfl hl ?c1 h1 ?c2 ?c3 (Nat.le_refl _) ?_)
    case c1 => intro j u hj; rw [Addr.add_lit, Nat.zero_add]; exact hx j u hj
    case c2 => simp only [maxLen]; omega
    case c3 => omega
    intro v' w' hown hgrow hiff
    by_cases h0 : 0 < n
    case neg =>
      obtain rfl : n = 0 := by omega
      obtain rfl := hiff.2 rfl
      obtain rfl : xs = [] := List.eq_nil_of_length_eq_zero (by simpa using hl)
      have HG := Aside0.mk hgrow
      clear hgrow hown hiff hx hi0 hz0 hz1 hz2
      go_wp2
      go_ret
      refine ⟨_, rfl, TAt.nil _ _, ?_⟩
      exact (Below.refl _ _).grown HG.out (Nat.le_refl _) (by simp [Value.ownBlock])
    obtain ⟨g', cap, rfl, hg1, hg2⟩ := hown.form h0
    rcases hown.2 with ⟨hcon, _⟩ | ⟨g2, cap2, cur, he, _, _, hcn, hcm, _⟩
    · exact absurd hcon (by simp)
    cases he
    have HG := Aside0.mk hgrow
    have HO := Aside0.mk hown
    have hcl : cap ≤ 9223372036854775807 := by simp only [maxLen] at hcm; omega
    clear hgrow hown hiff hx hi0 hz0 hz1 hz2
    go_wp2
    go_ret
    refine ⟨_, rfl, ⟨hl, h1, .inr ⟨g', rfl, h0, by simp only [maxLen]; omega, fun j u hj => by have := HO.out.cells (g := g') rfl j u hj; rwa [Addr.add_lit, Nat.zero_add] at this⟩⟩, ?_⟩
    exact (Below.refl _ _).grown HG.out (Nat.le_refl _) (by simp [Value.ownBlock])
end Go.Proofs.YtldohjlcckbfaaaGreatDoor.Hand
