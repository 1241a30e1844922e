/- A part of the proof that pomadetop.TopTold returns true for every input: HandVf, HandVg. No condition beyond those that each theorem states. -/
import Derived.Test.YtldohjlcckbfaaaGreatDoorK38
namespace Go.Proofs.YtldohjlcckbfaaaGreatDoor.Hand
open Go.RowKit Go.Proofs.YtldohjlcckbfaaaGreatDoorW.PrintWords Go.Proofs.YtldohjlcckbfaaaGreatDoorW.PrintLast Go.Proofs.YtldohjlcckbfaaaGreatDoorW.PrintMore
set_option linter.unusedVariables false
set_option linter.unusedSimpArgs false
open Go.Proofs.YtldohjlcckbfaaaGreatDoor.Pre
open TopWords
def outC (G : Nat → Nat) (k : Nat) : Array Value := ((List.range 10).map fun i => if i < k then Value.slice (some ⟨G i, 0, none⟩) 10 10 else Value.slice none 0 0).toArray
theorem outC_succ (G : Nat → Nat) (k ga : Nat) (hk : k < 10) : (outC G k).set! k (.slice (some ⟨ga, 0, none⟩) 10 10) = outC (fun i => if i = k then ga else G i) (k + 1) := by
  unfold outC
  apply Array.ext'
  simp only [Array.set!_eq_setIfInBounds, Array.toList_setIfInBounds, List.toList_toArray]
  apply List.ext_getElem
  · simp
  · intro i h1 h2
    rw [List.getElem_set]
    simp only [List.getElem_map, List.getElem_range]
    by_cases h : k = i
    · subst h
      rw [if_pos rfl, if_pos (by omega), if_pos rfl]
    · rw [if_neg h]
      by_cases h3 : i < k
      · rw [if_pos h3, if_pos (by omega), if_neg (by omega)]
      · rw [if_neg h3, if_neg (by omega)]
theorem outC_at (G : Nat → Nat) (k i : Nat) (hi : i < 10) : (outC G k)[i]? = some (if i < k then Value.slice (some ⟨G i, 0, none⟩) 10 10 else Value.slice none 0 0) := by
  unfold outC
  rw [List.getElem?_toArray, List.getElem?_map, List.getElem?_range hi]
  rfl
structure AEnv (w0 : World) (g go bo : Nat) (G : Nat → Nat) (k : Nat) (w : World) : Prop where
  lo : go = w0.heap.size ∧ bo = w0.heap.size + 1 ∧ g < w0.heap.size
  out : w.heap[go]? = some (.cells (outC G k) 249 (0, 0))
  box : w.heap[bo]? = some (.cells #[.slice (some ⟨go, 0, none⟩) 10 10] 246 (0, 0))
  rows : ∀ i, i < k → w.heap[G i]? = some (.cells (signC (decide (i = 0))) 283 (0, 0))
  frm : FrmRow w g
  below : Below w0.heap.size w0 w
theorem AEnv.step {w0 w w' : World} {g go bo k : Nat} {G : Nat → Nat} (e : AEnv w0 g go bo G k w) (hb : Below w.heap.size w w') : AEnv w0 g go bo G k w' :=
  ⟨e.lo, blk_below e.out hb, blk_below e.box hb, fun i hi => blk_below (e.rows i hi) hb, fun j hj => pw_cell_below hb (e.frm j hj), e.below.trans (hb.mono e.below.size)⟩
theorem AEnv.next {w0 w W3 : World} {g go bo k : Nat} {G : Nat → Nat} (e : AEnv w0 g go bo G k w) (hk : k < 10) (hT : Turn w.heap.size (((w.alloc (Obj.cells (signC false) 283)).setCell ⟨go, k, none⟩ (.slice (some ⟨w.heap.size, 0, none⟩) 10 10)).drew) W3)
    (hm : W3.heap[w.heap.size]? = some (.cells (signC (decide (k = 0))) 283 (0, 0))) : AEnv w0 g go bo (fun i => if i = k then w.heap.size else G i) (k + 1) W3 := by
  have hb := below_alloc (Below.refl _ w) (Obj.cells (signC false) 283)
  have hz := e.below.size
  obtain ⟨hg, hbo, hgg⟩ := e.lo
  have hgo : go < w.heap.size := blk_lt e.out
  have hbo2 : bo < w.heap.size := blk_lt e.box
  have k1 : (((w.alloc (Obj.cells (signC false) 283)).setCell ⟨go, k, none⟩ (.slice (some ⟨w.heap.size, 0, none⟩) 10 10)).drew).heap[go]? = some (.cells (outC (fun i => if i = k then w.heap.size else G i) (k + 1)) 249 (0, 0)) := by
    show ((w.alloc (Obj.cells (signC false) 283)).setCell ⟨go, k, none⟩ (.slice (some ⟨w.heap.size, 0, none⟩) 10 10)).heap[go]? = _
    rw [heap_setCell_same _ _ _ _ _ _ (blk_below e.out hb), ← outC_succ G k w.heap.size hk, Array.set!_eq_setIfInBounds]
  have kO : ∀ b o, b ≠ go → w.heap[b]? = some o → (((w.alloc (Obj.cells (signC false) 283)).setCell ⟨go, k, none⟩ (.slice (some ⟨w.heap.size, 0, none⟩) 10 10)).drew).heap[b]? = some o := by
    intro b o hne ho
    show ((w.alloc (Obj.cells (signC false) 283)).setCell ⟨go, k, none⟩ (.slice (some ⟨w.heap.size, 0, none⟩) 10 10)).heap[b]? = _
    rw [Below.heap_setCell _ _ _ _ hne]
    exact blk_below ho hb
  have hTT : Turn go w (((w.alloc (Obj.cells (signC false) 283)).setCell ⟨go, k, none⟩ (.slice (some ⟨w.heap.size, 0, none⟩) 10 10)).drew) := ((Turn.of_below (p := go) hb).set ⟨go, k, none⟩ (.inl rfl) _).drew
  have hT2 := hTT.below (B := w0.heap.size) (by omega) hz
  have hsz := hTT.size
  refine ⟨e.lo, hT.blk k1 (by omega), hT.blk (kO _ _ (by omega) e.box) (by omega), ?_, ?_, ?_⟩
  · intro i hi
    by_cases hik : i = k
    · subst hik
      rw [if_pos rfl]
      exact hm
    · rw [if_neg hik]
      have h1 := e.rows i (by omega)
      have h2 : G i < w.heap.size := blk_lt h1
      refine hT.blk (kO _ _ ?_ h1) (by omega)
      intro hh
      rw [hh, e.out] at h1
      injection h1 with h1
      injection h1 with h1 h2
      exact absurd h2 (by decide)
  · intro j hj
    have hb3 : Below w0.heap.size w W3 := hT2.trans (hT.below (by omega) (by omega))
    exact (hb3.cell (p := ⟨g, j, none⟩) hgg).trans (e.frm j hj)
  · exact e.below.trans (hT2.trans (hT.below (by omega) (by omega)))
theorem make_outs (w : World) : (Instr.makeSlice 246 (.int .i64 10) (.int .i64 10)).run Tryz.prog w = .ok (.slice (some ⟨w.heap.size, 0, none⟩) 10 10) (w.alloc (.cells (outC (fun _ => 0) 0) 249)) := by
  kernel_rfl
set_option maxHeartbeats 4000000 in
set_option maxRecDepth 100000 in
theorem arcs_calls (g c : Nat) (w : World) (hf : FrmRow w g) :
    Calls Tryz.prog 194 #[.slice (some ⟨g, 0, none⟩) 10 c] w fun e w' => ∃ go G, e = .returned (.slice (some ⟨go, 0, none⟩) 10 10) ∧ w'.heap[go]? = some (.cells (outC G 10) 249 (0, 0)) ∧ (∀ i, i < 10 → w'.heap[G i]? = some (.cells (signC (decide (i = 0))) 283 (0, 0))) ∧ Below w.heap.size w w' := by
  have hm : ∀ w v, (method 429 270 v "pomade/truth.letters").run Tryz.prog w = .ok (291, v) w := fun _ _ => by kernel_rfl
  have hm2 : ∀ w v, (method 429 267 v "pomade/truth.letters").run Tryz.prog w = .ok (287, v) w := fun _ _ => by kernel_rfl
  have hmf : ∀ (fn : Fn) (first cap : Array Value) (w : World), (Instr.makeFunc fn first cap).run Tryz.prog w = .ok (.func fn first cap) w := fun _ _ _ _ => rfl
  have hmk := make_outs
  have hmk2 := make_signs
  have h0 := heap_new w (Obj.cells (outC (fun _ => 0) 0) 249)
  have z0 := size_alloc w (Obj.cells (outC (fun _ => 0) 0) 249)
  have h1 := heap_new (w.alloc (Obj.cells (outC (fun _ => 0) 0) 249)) (Obj.cells #[Value.slice (some ⟨w.heap.size, 0, none⟩) 10 10] 246)
  have hbb := below_alloc (below_alloc (Below.refl _ w) (Obj.cells (outC (fun _ => 0) 0) 249)) (Obj.cells #[Value.slice (some ⟨w.heap.size, 0, none⟩) 10 10] 246)
  have h0' := blk_below h0 (below_alloc (Below.refl _ (w.alloc (Obj.cells (outC (fun _ => 0) 0) 249))) (Obj.cells #[Value.slice (some ⟨w.heap.size, 0, none⟩) 10 10] 246))
  rw [z0] at h1
  have HE := Aside0.mk (AEnv.mk (w0 := w) (g := g) (go := w.heap.size) (bo := w.heap.size + 1) (G := fun _ => 0) (k := 0) ⟨rfl, rfl, World.block_lt_of_cell? w _ (hf 0 (by decide))⟩ h0' h1 (fun i hi => absurd hi (Nat.not_lt_zero i)) (fun j hj => pw_cell_below hbb (hf j hj)) hbb)
  clear h0 h0' h1 z0 hbb hf
  go_enter Tryz.func194, Tryz.ntmps194
  go_wp2
  clear hmk
  obtain ⟨w1, e1⟩ : ∃ w1, (w.alloc (Obj.cells (outC (fun _ => 0) 0) 249)).alloc (Obj.cells #[Value.slice (some ⟨w.heap.size, 0, none⟩) 10 10] 246) = w1 := ⟨_, rfl⟩
  obtain ⟨go, hgo⟩ : ∃ go, w.heap.size = go := ⟨_, rfl⟩
  rw [e1] at HE ⊢
  rw [hgo] at HE ⊢
  have HG := Aside0.mk hgo
  clear e1 hgo
  go_loopg [11] 10 (fun q v11 wr => ∃ (k : Nat) (G : Nat → Nat), v11 = .int .i64 k ∧ k + q = 10 ∧ Aside0 (AEnv w g go (go + 1) G k wr))
  case atStart => exact ⟨0, _, rfl, rfl, HE⟩
  case round =>
    obtain ⟨k, G, rfl, hkq, HEr⟩ := hrel
    by_cases hlt : k < 10
    · obtain ⟨q, rfl⟩ : ∃ q, gk = q + 1 := ⟨gk - 1, by omega⟩
      have hd : decide ((k : Int) < 10) = true := decide_eq_true (by omega)
      have hc := HEr.out.frm k hlt
      have HF := Aside0.mk (show frm k = if k = 0 then gN else gC from rfl)
      have hbA := below_alloc (Below.refl _ wr) (Obj.cells #[Value.int .i64 (k : Int)] 3)
      have HE1 := Aside0.mk (HEr.out.step hbA)
      have HI1 := Aside0.mk (heap_new wr (Obj.cells #[Value.int .i64 (k : Int)] 3))
      have hcA := pw_cell_below hbA hc
      clear hbA
      go_wp2_with (fail)
      obtain ⟨b, hb⟩ : ∃ b, wr.heap.size = b := ⟨_, rfl⟩
      have HBb := Aside0.mk hb
      obtain ⟨W1, e1⟩ : ∃ W1, wr.alloc (Obj.cells #[Value.int .i64 (k : Int)] 3) = W1 := ⟨_, rfl⟩
      rw [e1] at HE1 HI1 ⊢
      rw [hb] at HI1 ⊢
      clear hb e1 hc hcA
      have x0 := cellAt HE1.out.box
      have x1 := cellAt HI1.out
      have x2 : W1.cell? ⟨go, k, none⟩ = some (.slice none 0 0) := by rw [blk_cell HE1.out.out, outC_at G k k hlt, if_neg (by omega)]
      have f2 := blk_frozen HE1.out.out k
      have x0d : W1.drew.cell? ⟨go + 1, 0, none⟩ = some (.slice (some ⟨go, 0, none⟩) 10 10) := x0
      have x1d : W1.drew.cell? ⟨b, 0, none⟩ = some (.int .i64 k) := x1
      have x2d : W1.drew.cell? ⟨go, k, none⟩ = some (.slice none 0 0) := x2
      have f2d : W1.drew.frozen? ⟨go, k, none⟩ = false := f2
      have hbB := below_drew (below_alloc (Below.refl _ W1) (Obj.cells (signC false) 283))
      have x0a := pw_cell_below hbB x0
      have x1a := pw_cell_below hbB x1
      have x2a := pw_cell_below hbB x2
      have f2a := blk_frozen (blk_below HE1.out.out hbB) k
      clear hbB
      go_region
      clear x0 x1 x2 f2 x0d x1d x2d f2d x0a x1a x2a f2a
      have HN := Aside0.mk (fun W3 => HE1.out.next (W3 := W3) hlt)
      have hgo := blk_lt HE1.out.out
      have hbo := blk_lt HE1.out.box
      have hbi := blk_lt HI1.out
      have hb := below_alloc (Below.refl _ W1) (Obj.cells (signC false) 283)
      have hne : b ≠ go := by
        have := HE1.out.lo
        have hz := HEr.out.below.size
        have := HBb.out
        have := blk_lt HEr.out.out
        omega
      have X1 : (((W1.alloc (Obj.cells (signC false) 283)).setCell ⟨go, k, none⟩ (.slice (some ⟨W1.heap.size, 0, none⟩) 10 10)).drew).cell? ⟨go + 1, 0, none⟩ = some (.slice (some ⟨go, 0, none⟩) 10 10) := by
        refine (blk_cell (cs := #[.slice (some ⟨go, 0, none⟩) 10 10]) (t := 246) ?_ 0).trans rfl
        show ((W1.alloc (Obj.cells (signC false) 283)).setCell ⟨go, k, none⟩ (.slice (some ⟨W1.heap.size, 0, none⟩) 10 10)).heap[go + 1]? = _
        rw [Below.heap_setCell _ _ _ _ (by show go + 1 ≠ go; omega)]
        exact blk_below HE1.out.box hb
      have X2 : (((W1.alloc (Obj.cells (signC false) 283)).setCell ⟨go, k, none⟩ (.slice (some ⟨W1.heap.size, 0, none⟩) 10 10)).drew).cell? ⟨b, 0, none⟩ = some (.int .i64 k) := by
        refine (blk_cell (cs := #[.int .i64 k]) (t := 3) ?_ 0).trans rfl
        show ((W1.alloc (Obj.cells (signC false) 283)).setCell ⟨go, k, none⟩ (.slice (some ⟨W1.heap.size, 0, none⟩) 10 10)).heap[b]? = _
        rw [Below.heap_setCell _ _ _ _ hne]
        exact blk_below HI1.out hb
      have X3 : (((W1.alloc (Obj.cells (signC false) 283)).setCell ⟨go, k, none⟩ (.slice (some ⟨W1.heap.size, 0, none⟩) 10 10)).drew).cell? ⟨go, k, none⟩ = some (.slice (some ⟨W1.heap.size, 0, none⟩) 10 10) := by
        have hh : ((W1.alloc (Obj.cells (signC false) 283)).setCell ⟨go, k, none⟩ (.slice (some ⟨W1.heap.size, 0, none⟩) 10 10)).heap[go]? = some (.cells (outC (fun i => if i = k then W1.heap.size else G i) (k + 1)) 249 (0, 0)) := by
          rw [heap_setCell_same _ _ _ _ _ _ (blk_below HE1.out.out hb), ← outC_succ G k W1.heap.size hlt, Array.set!_eq_setIfInBounds]
        show ((W1.alloc (Obj.cells (signC false) 283)).setCell ⟨go, k, none⟩ (.slice (some ⟨W1.heap.size, 0, none⟩) 10 10)).cell? ⟨go, k, none⟩ = _
        rw [blk_cell hh, outC_at _ _ _ hlt, if_pos (by omega), if_pos rfl]
      have X4 : (((W1.alloc (Obj.cells (signC false) 283)).setCell ⟨go, k, none⟩ (.slice (some ⟨W1.heap.size, 0, none⟩) 10 10)).drew).heap[W1.heap.size]? = some (.cells (signC false) 283 (0, 0)) := by
        show ((W1.alloc (Obj.cells (signC false) 283)).setCell ⟨go, k, none⟩ (.slice (some ⟨W1.heap.size, 0, none⟩) 10 10)).heap[W1.heap.size]? = _
        rw [Below.heap_setCell _ _ _ _ (by show W1.heap.size ≠ go; omega)]
        exact heap_new W1 _
      obtain ⟨W2, e2⟩ : ∃ W2, (((W1.alloc (Obj.cells (signC false) 283)).setCell ⟨go, k, none⟩ (.slice (some ⟨W1.heap.size, 0, none⟩) 10 10)).drew) = W2 := ⟨_, rfl⟩
      obtain ⟨m, em⟩ : ∃ m, W1.heap.size = m := ⟨_, rfl⟩
      rw [em] at e2 X1 X2 X3 X4 HN ⊢
      rw [e2] at X1 X2 X3 X4 HN ⊢
      clear hb hgo hbo hbi em e2 hne
      by_cases hk0 : k = 0
      · subst hk0
        have HX := Aside0.mk (not_letters (go + 1) b go m W2 X1 X2 X3 X4)
        have hfr : frm 0 = gN := rfl
        rw [hfr]
        clear hfr X1 X2 X3 X4 HF
        go_wp2_with (go_at_call 291; (with_reducible refine HX.out.mono ?_); rintro e w5 ⟨rfl, h1, h2⟩; have H1 := Aside0.mk (HN.out w5 h2 h1); clear h1 h2)
        go_roundg q
        case measure => omega
        case rel => exact ⟨1, _, by go_num, by omega, H1⟩
      · have hfr : frm k = gC := by rw [HF.out, if_neg hk0]
        have HC := Aside0.mk (fun v => const_letters v W2)
        have hm0 : W2.heap[m]? = some (.cells (signC (decide (k = 0))) 283 (0, 0)) := by rw [X4, decide_eq_false hk0]
        have H1 := Aside0.mk (HN.out W2 (Turn.of_below (Below.refl _ W2)) hm0)
        rw [hfr]
        clear hfr X1 X2 X3 X4 HF hm0 hk0
        go_wp2_with (go_at_call 287; (with_reducible refine (HC.out _).mono ?_); rintro e w5 ⟨rfl, hw⟩; rw [hw]; clear hw w5)
        go_roundg q
        case measure => omega
        case rel => exact ⟨k + 1, _, by go_num, by omega, H1⟩
    · obtain rfl : k = 10 := by omega
      have x0 := cellAt HEr.out.box
      go_wp2
      go_ret
      exact ⟨go, G, rfl, HEr.out.out, HEr.out.rows, HEr.out.below⟩
end Go.Proofs.YtldohjlcckbfaaaGreatDoor.Hand
namespace Go.Proofs.YtldohjlcckbfaaaGreatDoor.Hand
open Go.RowKit Go.Proofs.YtldohjlcckbfaaaGreatDoorW.PrintWords Go.Proofs.YtldohjlcckbfaaaGreatDoorW.PrintLast Go.Proofs.YtldohjlcckbfaaaGreatDoorW.PrintMore
set_option linter.unusedVariables false
set_option linter.unusedSimpArgs false
open Go.Proofs.YtldohjlcckbfaaaGreatDoor.Pre
open TopWords
theorem andNot_one : ∀ s : Fin 1024, s.val % 2 = 1 → bits .andNot .i64 1 (s.val : Int) = 0 := by decide +kernel
set_option maxHeartbeats 4000000 in
set_option maxRecDepth 100000 in
theorem core2_calls (bset : Nat) (s : Int) (hs : bits .andNot .i64 1 s = 0) (w : World) (h : w.cell? ⟨bset, 0, none⟩ = some (.int .i64 s)) :
    Calls Tryz.prog 199 #[.int .i64 1, .pointer (some ⟨bset, 0, none⟩)] w fun e w' => e = .returned (.bool true) ∧ w' = w := by
  go_enter Tryz.func199, Tryz.ntmps199
  go_wp2
  go_ret
  exact ⟨rfl, rfl⟩
set_option maxHeartbeats 4000000 in
set_option maxRecDepth 100000 in
theorem core1_calls (bs ba bset g c go : Nat) (G : Nat → Nat) (i s : Nat) (hi : i < 10) (hs : s < 1024) (hbit : i = 0 → bitOf s 0 = true) (w : World)
    (h1 : w.cell? ⟨bs, 0, none⟩ = some (.slice (some ⟨g, 0, none⟩) 10 c)) (h2 : w.cell? ⟨ba, 0, none⟩ = some (.slice (some ⟨go, 0, none⟩) 10 10)) (h3 : w.cell? ⟨bset, 0, none⟩ = some (.int .i64 s))
    (h4 : w.heap[go]? = some (.cells (outC G 10) 249 (0, 0))) (h5 : w.heap[G i]? = some (.cells (signC (decide (i = 0))) 283 (0, 0))) :
    Calls Tryz.prog 196 #[.int .i64 i, .pointer (some ⟨bs, 0, none⟩), .pointer (some ⟨ba, 0, none⟩), .pointer (some ⟨bset, 0, none⟩)] w fun e w' => e = .returned (.bool false) ∧ Below w.heap.size w w' := by
  have s1 : w.drew.cell? ⟨bs, 0, none⟩ = some (.slice (some ⟨g, 0, none⟩) 10 c) := h1
  have s2 : w.drew.cell? ⟨ba, 0, none⟩ = some (.slice (some ⟨go, 0, none⟩) 10 10) := h2
  have s3 : w.drew.cell? ⟨bset, 0, none⟩ = some (.int .i64 s) := h3
  have s4 : w.drew.cell? ⟨go, i, none⟩ = some (.slice (some ⟨G i, 0, none⟩) 10 10) := by
    show w.cell? ⟨go, i, none⟩ = _
    rw [blk_cell h4, outC_at G 10 i hi, if_pos hi]
  have hlt1 : (0 : Int) ≤ (i : Int) := by omega
  have hlt2 : (i : Int) < 10 := by omega
  have HL := Aside0.mk (leaves_calls (.slice (some ⟨g, 0, none⟩) 10 c) (G i) 10 (decide (i = 0)) s hs (fun h => hbit (of_decide_eq_true h)) w.drew (signC_row h5))
  have HB0 := Aside0.mk (below_drew (Below.refl w.heap.size w))
  clear h1 h2 h3 h4 h5 hbit hi hs
  go_enter Tryz.func196, Tryz.ntmps196
  go_wp2
  go_region_held3 (fun w' => w'.cell? ⟨bs, 0, none⟩ = some (.slice (some ⟨g, 0, none⟩) 10 c) ∧ w'.cell? ⟨ba, 0, none⟩ = some (.slice (some ⟨go, 0, none⟩) 10 10) ∧ w'.cell? ⟨bset, 0, none⟩ = some (.int .i64 s) ∧ w'.cell? ⟨go, i, none⟩ = some (.slice (some ⟨G i, 0, none⟩) 10 10)) (first | (exact ⟨s1, s2, s3, s4⟩) | (exact ⟨z1, z2, z3, z4⟩)) (((with_reducible refine HL.out.mono ?_); rintro e w1 ⟨rfl, hb1⟩; have HB1 := Aside0.mk (HB0.out.trans hb1); have z1 := pw_cell_below hb1 s1; have z2 := pw_cell_below hb1 s2; have z3 := pw_cell_below hb1 s3; have z4 := pw_cell_below hb1 s4; clear hb1))
  go_wp2
  go_ret
  exact ⟨rfl, HB1.out⟩
theorem mem1 : memL 1 10 = [0] := by decide +kernel
theorem mem_one (w : World) : Calls Tryz.prog 195 #[.int .i64 1] w fun e w' => ∃ v, e = .returned v ∧ w'.ownsRow w.heap.size 3 1 v 1 [.int .i64 0] ∧ Below w.heap.size w w' := by
  have h := truth_members 1 (by decide) w
  rw [mem1] at h
  exact h
set_option maxHeartbeats 4000000 in
set_option maxRecDepth 100000 in
theorem lists_one (g c : Nat) (w : World) (h : w.cell? ⟨g, 0, none⟩ = some (.int .i64 1)) :
    Calls Tryz.prog 201 #[.slice (some ⟨g, 0, none⟩) 1 c] w fun e w' => ∃ g' c' q d, e = .returned (.slice (some ⟨g', 0, none⟩) 1 c') ∧ w'.cell? ⟨g', 0, none⟩ = some (.slice (some ⟨q, 0, none⟩) 1 d) ∧ w'.cell? ⟨q, 0, none⟩ = some (.int .i64 0) ∧ Below w.heap.size w w' := by
  have info22 : (Tryz.prog.info? 22).map (fun i => (i.zero, i.size, i.bytes)) = some (some (.slice none 0 0), 1, 24) := by kernel_rfl
  obtain ⟨i0, hi0, hz0, hz1, hz2⟩ := info_parts info22
  have hut : Tryz.prog.underlying 251 = some (.slice 22) := by kernel_rfl
  clear info22
  have HM := Aside0.mk (mem_one w)
  go_enter Tryz.func201, Tryz.ntmps201
  go_wp2
  refine wp_loop_rounds 2 ?_
  rw [rounds_succ]
  go_wp2_with (first | (go_at_call 195; (with_reducible refine HM.out.mono ?_); rintro e w1 ⟨v, rfl, ho, hb1⟩; obtain ⟨q, d, rfl, hq1, hq2⟩ := ho.form (by decide); have HQ := Aside0.mk (ho.cells rfl 0 (.int .i64 0) rfl); have HB1 := Aside0.mk hb1; clear ho hb1) | (at_builtin; refine wpList_append_own _ rfl _ _ 251 rfl w.heap.size 22 i0 (.slice none 0 0) 1 24 hut hi0 hz0 hz1 hz2 rfl (by decide) (.slice none 0 0) 0 [] rfl (own_nil _ _ _ _) ⟨w1.heap.size, 0, none⟩ 1 1 [.slice (some ⟨q, 0, none⟩) 1 d] rfl rfl ?c1 ?c2 ?c3 ?c4 ?c5 ?_))
  case c1 => intro j u hj; rw [Addr.add_lit, Nat.zero_add, blk_cell (heap_new w1 _)]; simpa using hj
  case c2 => intro u hu; rw [List.mem_singleton] at hu; subst hu; rfl
  case c3 => decide
  case c4 => decide
  case c5 => have q := HB1.out.size; simp only [size_alloc]; omega
  intro v' w2 hown hgrow hiff
  obtain ⟨g', c', rfl, hg1, hg2⟩ := hown.form (by decide)
  have hb2 : Below w1.heap.size w1 w2 := (below_alloc (Below.refl _ w1) (Obj.cells #[Value.slice (some ⟨q, 0, none⟩) 1 d] 22)).grown hgrow (by simp only [size_alloc]; omega) (fun k hk => by simp [Value.ownBlock] at hk)
  have HB2 := Aside0.mk (HB1.out.trans (hb2.mono HB1.out.size))
  have hq0 := HQ.out
  rw [Addr.add_lit, Nat.zero_add] at hq0
  have HQ2 := Aside0.mk (pw_cell_below hb2 hq0)
  have HC := Aside0.mk (hown.cells rfl 0 (.slice (some ⟨q, 0, none⟩) 1 d) rfl)
  clear hown hgrow hiff hb2 hq0 h
  go_wp2
  rw [rounds_succ]
  go_wp2
  go_ret
  have hc := HC.out
  rw [Addr.add_lit, Nat.zero_add] at hc
  exact ⟨g', c', q, d, rfl, hc, HQ2.out, HB2.out⟩
set_option maxHeartbeats 4000000 in
set_option maxRecDepth 100000 in
theorem min_one (g c q d : Nat) (v : Value) (w : World) (h : w.cell? ⟨g, 0, none⟩ = some (.slice (some ⟨q, 0, none⟩) 1 d)) :
    Calls Tryz.prog 200 #[.slice (some ⟨g, 0, none⟩) 1 c, v] w fun e w' => e = .returned (.slice (some ⟨q, 0, none⟩) 1 d) ∧ w' = w := by
  go_enter Tryz.func200, Tryz.ntmps200
  go_wp2
  refine wp_loop_rounds 1 ?_
  rw [rounds_succ]
  go_wp2
  go_ret
  exact ⟨rfl, rfl⟩
end Go.Proofs.YtldohjlcckbfaaaGreatDoor.Hand
