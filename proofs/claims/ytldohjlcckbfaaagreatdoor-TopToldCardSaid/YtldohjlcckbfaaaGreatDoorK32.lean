/- A part of the proof that pomadetop.TopTold returns true for every input: HandUa, HandUb. No condition beyond those that each theorem states. -/
import Derived.Deep.RegionLawGrows
import Derived.Test.YtldohjlcckbfaaaGreatDoorK25
namespace Go.Proofs.YtldohjlcckbfaaaGreatDoor.Hand
open Go.RowKit Go.Proofs.YtldohjlcckbfaaaGreatDoorW.PrintWords Go.Proofs.YtldohjlcckbfaaaGreatDoorW.PrintLast Go.Proofs.YtldohjlcckbfaaaGreatDoorW.PrintMore
set_option linter.unusedVariables false
set_option linter.unusedSimpArgs false
open Go.Proofs.YtldohjlcckbfaaaGreatDoor.Pre
open TopWords
structure Turn (p : Nat) (w w' : World) : Prop where
  os : w'.os = w.os
  tape : w'.tape = w.tape
  output : w'.output = w.output
  size : w.heap.size ≤ w'.heap.size
  block : ∀ k, k < w.heap.size → k ≠ p → w'.heap[k]? = w.heap[k]?
theorem Turn.of_below {p : Nat} {w w' : World} (h : Below w.heap.size w w') : Turn p w w' := ⟨h.os, h.tape, h.output, h.size, fun k hk _ => h.block k hk⟩
theorem Turn.trans {p : Nat} {a b c : World} (h : Turn p a b) (k : Turn p b c) : Turn p a c :=
  ⟨k.os.trans h.os, k.tape.trans h.tape, k.output.trans h.output, Nat.le_trans h.size k.size, fun i hi hne => (k.block i (Nat.lt_of_lt_of_le hi h.size) hne).trans (h.block i hi hne)⟩
theorem Turn.below {p B : Nat} {w w' : World} (h : Turn p w w') (hp : B ≤ p) (hB : B ≤ w.heap.size) : Below B w w' :=
  ⟨h.os, h.tape, h.output, h.size, fun k hk => h.block k (by omega) (by omega)⟩
theorem Turn.blk {p b : Nat} {w w' : World} {o : Obj} (h : Turn p w w') (hb : w.heap[b]? = some o) (hne : b ≠ p) : w'.heap[b]? = some o := (h.block b (blk_lt hb) hne).trans hb
theorem Turn.set {p : Nat} {w w' : World} (h : Turn p w w') (a : Addr) (ha : a.block = p ∨ w.heap.size ≤ a.block) (v : Value) : Turn p w (w'.setCell a v) :=
  ⟨h.os, h.tape, h.output, by simp only [World.setCell, Array.size_modify]; exact h.size, fun k hk hne => by
    rw [Below.heap_setCell _ _ _ _ (by rcases ha with e | e <;> omega)]
    exact h.block k hk hne⟩
theorem Turn.drew {p : Nat} {w w' : World} (h : Turn p w w') : Turn p w w'.drew := ⟨h.os, h.tape, h.output, h.size, h.block⟩
structure LX (ok : Nat → Prop) (w : World) (size : Nat) (v : Value) (xs : List Value) (n : Nat) : Prop where
  lies : LAt w size v xs n
  ok : ∀ g, v.ownBlock = some g → ok g
structure TX (ok : Nat → Prop) (w : World) (size : Nat) (v : Value) (xs : List Value) (n : Nat) : Prop where
  lies : TAt w size v xs n
  ok : ∀ g, v.ownBlock = some g → ok g
theorem LX.below {ok : Nat → Prop} {w w' : World} {size n : Nat} {v : Value} {xs : List Value} (h : LX ok w size v xs n) (hb : Below w.heap.size w w') : LX ok w' size v xs n := ⟨h.lies.below hb, h.ok⟩
theorem TX.below {ok : Nat → Prop} {w w' : World} {size n : Nat} {v : Value} {xs : List Value} (h : TX ok w size v xs n) (hb : Below w.heap.size w w') : TX ok w' size v xs n := ⟨h.lies.below hb, h.ok⟩
theorem LX.imp {ok ok' : Nat → Prop} {w : World} {size n : Nat} {v : Value} {xs : List Value} (h : LX ok w size v xs n) (hi : ∀ g, ok g → ok' g) : LX ok' w size v xs n := ⟨h.lies, fun g hg => hi g (h.ok g hg)⟩
theorem TX.imp {ok ok' : Nat → Prop} {w : World} {size n : Nat} {v : Value} {xs : List Value} (h : TX ok w size v xs n) (hi : ∀ g, ok g → ok' g) : TX ok' w size v xs n := ⟨h.lies, fun g hg => hi g (h.ok g hg)⟩
theorem TX.loose {ok : Nat → Prop} {w : World} {size n : Nat} {v : Value} {xs : List Value} (h : TX ok w size v xs n) : LX ok w size v xs n := ⟨h.lies.loose, h.ok⟩
theorem LX.kept {ok : Nat → Prop} {w w' : World} {size n : Nat} {v : Value} {xs : List Value} (h : LX ok w size v xs n) (hk : ∀ g, ok g → g < w.heap.size → w'.heap[g]? = w.heap[g]?) : LX ok w' size v xs n := by
  refine ⟨⟨h.lies.len, h.lies.one, h.lies.lies.imp id fun ⟨g, c, h1, h2, h3, h4⟩ => ⟨g, c, h1, h2, h3, fun j u hj => ?_⟩⟩, h.ok⟩
  have hc := h4 j u hj
  have hlt : g < w.heap.size := World.block_lt_of_cell? w _ hc
  have hg : ok g := h.ok g (by rw [h1]; rfl)
  unfold World.cell? at hc ⊢
  rw [show w'.heap[(⟨g, j, none⟩ : Addr).block]? = w.heap[(⟨g, j, none⟩ : Addr).block]? from hk g hg hlt]
  exact hc
theorem TX.kept {ok : Nat → Prop} {w w' : World} {size n : Nat} {v : Value} {xs : List Value} (h : TX ok w size v xs n) (hk : ∀ g, ok g → g < w.heap.size → w'.heap[g]? = w.heap[g]?) : TX ok w' size v xs n := by
  refine ⟨⟨h.lies.len, h.lies.one, h.lies.lies.imp id fun ⟨g, h1, h2, h3, h4⟩ => ⟨g, h1, h2, h3, fun j u hj => ?_⟩⟩, h.ok⟩
  have hc := h4 j u hj
  have hlt : g < w.heap.size := World.block_lt_of_cell? w _ hc
  have hg : ok g := h.ok g (by rw [h1]; rfl)
  unfold World.cell? at hc ⊢
  rw [show w'.heap[(⟨g, j, none⟩ : Addr).block]? = w.heap[(⟨g, j, none⟩ : Addr).block]? from hk g hg hlt]
  exact hc
theorem TAt.lt {w : World} {size n : Nat} {v : Value} {xs : List Value} (hs : 0 < size) (h : TAt w size v xs n) : ∀ g, v.ownBlock = some g → g < w.heap.size := by
  intro g hg
  rcases h.lies with ⟨rfl, _⟩ | ⟨g', rfl, h2, _, h4⟩
  · simp [Value.ownBlock] at hg
  · simp only [Value.ownBlock, Option.some.injEq] at hg
    subst hg
    have hl : 0 < xs.length := by rw [h.len]; exact Nat.mul_pos h2 hs
    exact World.block_lt_of_cell? w _ (h4 0 xs[0] (List.getElem?_eq_getElem hl))
structure ShopTX (ok : Nat → Prop) (w : World) (p : Nat) (S : Sh) : Prop where
  good : S.Ok
  at_ : ∃ vs va vc vm vb, w.heap[p]? = some (.cells (shopC S.b vs va vc vm vb) 64 (0, 0)) ∧ TX ok w 1 vs S.sents S.sents.length ∧ TX ok w 2 va S.arcs S.narcs ∧ TX ok w 1 vc S.coins S.coins.length ∧ TX ok w 1 vm S.amts S.amts.length ∧ TX ok w 1 vb S.book S.book.length
structure ShopX (ok : Nat → Prop) (w : World) (p : Nat) (S : Sh) : Prop where
  good : S.Ok
  at_ : ∃ vs va vc vm vb, w.heap[p]? = some (.cells (shopC S.b vs va vc vm vb) 64 (0, 0)) ∧ LX ok w 1 vs S.sents S.sents.length ∧ LX ok w 2 va S.arcs S.narcs ∧ LX ok w 1 vc S.coins S.coins.length ∧ LX ok w 1 vm S.amts S.amts.length ∧ TX ok w 1 vb S.book S.book.length
theorem ShopTX.below {ok : Nat → Prop} {w w' : World} {p : Nat} {S : Sh} (h : ShopTX ok w p S) (hb : Below w.heap.size w w') : ShopTX ok w' p S := by
  obtain ⟨vs, va, vc, vm, vb, h0, h1, h2, h3, h4, h5⟩ := h.at_
  exact ⟨h.good, vs, va, vc, vm, vb, blk_below h0 hb, h1.below hb, h2.below hb, h3.below hb, h4.below hb, h5.below hb⟩
theorem ShopX.below {ok : Nat → Prop} {w w' : World} {p : Nat} {S : Sh} (h : ShopX ok w p S) (hb : Below w.heap.size w w') : ShopX ok w' p S := by
  obtain ⟨vs, va, vc, vm, vb, h0, h1, h2, h3, h4, h5⟩ := h.at_
  exact ⟨h.good, vs, va, vc, vm, vb, blk_below h0 hb, h1.below hb, h2.below hb, h3.below hb, h4.below hb, h5.below hb⟩
theorem ShopX.kept {ok : Nat → Prop} {w w' : World} {p : Nat} {S : Sh} (h : ShopX ok w p S) (hp : w'.heap[p]? = w.heap[p]?) (hk : ∀ g, ok g → g < w.heap.size → w'.heap[g]? = w.heap[g]?) : ShopX ok w' p S := by
  obtain ⟨vs, va, vc, vm, vb, h0, h1, h2, h3, h4, h5⟩ := h.at_
  exact ⟨h.good, vs, va, vc, vm, vb, hp.trans h0, h1.kept hk, h2.kept hk, h3.kept hk, h4.kept hk, h5.kept hk⟩
theorem ShopX.imp {ok ok' : Nat → Prop} {w : World} {p : Nat} {S : Sh} (h : ShopX ok w p S) (hi : ∀ g, ok g → ok' g) : ShopX ok' w p S := by
  obtain ⟨vs, va, vc, vm, vb, h0, h1, h2, h3, h4, h5⟩ := h.at_
  exact ⟨h.good, vs, va, vc, vm, vb, h0, h1.imp hi, h2.imp hi, h3.imp hi, h4.imp hi, h5.imp hi⟩
def Sh.add (S : Sh) (line : ByteArray) : Sh := { S with book := S.book ++ [.string line] }
theorem cells_eq {w w' : World} {p o : Nat} (h : w'.heap[p]? = w.heap[p]?) : w'.cell? ⟨p, o, none⟩ = w.cell? ⟨p, o, none⟩ := by
  unfold World.cell?
  rw [show w'.heap[(⟨p, o, none⟩ : Addr).block]? = w.heap[(⟨p, o, none⟩ : Addr).block]? from h]
theorem shop_cell36 {w : World} {p : Nat} {b : Bool} {vs va vc vm vb : Value} (h : w.heap[p]? = some (.cells (shopC b vs va vc vm vb) 64 (0, 0))) : w.cell? ⟨p, 36, none⟩ = some vb := by
  rw [blk_cell h]; cases b <;> rfl
theorem verb_cell6 {w : World} {vb : Nat} {ks : ByteArray} {l m mo st : Int} {ch : Bool} {F : Nat} (h : w.heap[vb]? = some (verbO ks l m mo st ch F)) : w.cell? ⟨vb, 6, none⟩ = some (.func (.func F) #[] #[]) := by unfold verbO at h; rw [blk_cell h]; rfl
theorem args_cell0 {w : World} {b t : Nat} {a0 a1 a2 a3 : Value} (h : w.heap[b]? = some (.cells #[a0, a1, a2, a3] t (0, 0))) : w.cell? ⟨b, 0, none⟩ = some a0 := by rw [blk_cell h]; rfl
theorem args_cell1 {w : World} {b t : Nat} {a0 a1 a2 a3 : Value} (h : w.heap[b]? = some (.cells #[a0, a1, a2, a3] t (0, 0))) : w.cell? ⟨b, 1, none⟩ = some a1 := by rw [blk_cell h]; rfl
theorem args_cell2 {w : World} {b t : Nat} {a0 a1 a2 a3 : Value} (h : w.heap[b]? = some (.cells #[a0, a1, a2, a3] t (0, 0))) : w.cell? ⟨b, 2, none⟩ = some a2 := by rw [blk_cell h]; rfl
theorem args_cell3 {w : World} {b t : Nat} {a0 a1 a2 a3 : Value} (h : w.heap[b]? = some (.cells #[a0, a1, a2, a3] t (0, 0))) : w.cell? ⟨b, 3, none⟩ = some a3 := by rw [blk_cell h]; rfl
theorem cell_set_off36 {w : World} {b b' o : Nat} {v : Value} {o' : Nat} (h : w.cell? ⟨b, o, none⟩ = some v) (hne : b ≠ b') (x : Value) : (w.setCell ⟨b', o', none⟩ x).cell? ⟨b, o, none⟩ = some v := by
  simp only [World.cell?] at h ⊢
  rw [Below.heap_setCell _ _ _ _ hne]
  exact h
set_option maxHeartbeats 4000000 in
set_option maxRecDepth 100000 in
theorem done_ch (vb p F : Nat) (ks : ByteArray) (least most more step : Int) (a0 a1 a2 : Value) (line r : ByteArray) (S S' : Sh) (hl : S'.book.length ≤ 9) (w : World) (hv : w.heap[vb]? = some (verbO ks least most more step true F)) (hp : p < w.heap.size) (hvp : vb ≠ p) (hs : ShopTX (· < p) w p S)
    (eg : ∀ args w, (callFunc F args).run Tryz.prog w = .ok (.enter F args) w)
    (hF : ∀ W, Below w.heap.size w W → ShopTX (· < p) W p S → Calls Tryz.prog F #[.pointer (some ⟨p, 0, none⟩), .agg #[a0, a1, a2, .string line]] W fun e W' => e = .returned (.string r) ∧ ShopX (fun g => g < p ∨ W.heap.size ≤ g) W' p S' ∧ Turn p W W') :
    Calls Tryz.prog 284 #[.pointer (some ⟨vb, 0, none⟩), .pointer (some ⟨p, 0, none⟩), .agg #[a0, a1, a2, .string line]] w fun e w' => e = .returned (.tuple #[.string r, .int .i64 0]) ∧ ShopAt w' p (S'.add line) ∧ Turn p w w' := by
  have hmf : ∀ (fn : Fn) (first cap : Array Value) (w : World), (Instr.makeFunc fn first cap).run Tryz.prog w = .ok (.func fn first cap) w := fun _ _ _ _ => rfl
  have HV := Aside0.mk hv
  have HF := Aside0.mk hF
  have HS := Aside0.mk hs
  clear hv hF hs
  go_enter_defers Tryz.func284, Tryz.ntmps284
  go_wp2
  have hvl := blk_lt HV.out
  have hA := heap_new w (Obj.cells #[a0, a1, a2, (.string line)] 129)
  have B0 := below_alloc (Below.refl _ w) (Obj.cells #[a0, a1, a2, (.string line)] 129)
  have z0 := size_alloc w (Obj.cells #[a0, a1, a2, (.string line)] 129)
  obtain ⟨w1, e1⟩ : ∃ w1, w.alloc (Obj.cells #[a0, a1, a2, (.string line)] 129) = w1 := ⟨_, rfl⟩
  rw [e1] at hA B0 z0 ⊢
  have hR := heap_new w1 (Obj.cells #[Value.string ⟨#[]⟩] 9)
  have hA := heap_old w1 (Obj.cells #[Value.string ⟨#[]⟩] 9) hA
  have B1 := below_alloc B0 (Obj.cells #[Value.string ⟨#[]⟩] 9)
  have z1 := size_alloc w1 (Obj.cells #[Value.string ⟨#[]⟩] 9)
  obtain ⟨w2, e2⟩ : ∃ w2, w1.alloc (Obj.cells #[Value.string ⟨#[]⟩] 9) = w2 := ⟨_, rfl⟩
  rw [e2] at hA hR B1 z1 ⊢
  have hE := heap_new w2 (Obj.cells #[Value.int .i64 0] 25)
  have hA := heap_old w2 (Obj.cells #[Value.int .i64 0] 25) hA
  have hR := heap_old w2 (Obj.cells #[Value.int .i64 0] 25) hR
  have B2 := below_alloc B1 (Obj.cells #[Value.int .i64 0] 25)
  have z2 := size_alloc w2 (Obj.cells #[Value.int .i64 0] 25)
  obtain ⟨w3, e3⟩ : ∃ w3, w2.alloc (Obj.cells #[Value.int .i64 0] 25) = w3 := ⟨_, rfl⟩
  rw [e3] at hA hR hE B2 z2 ⊢
  rw [z1, z0] at hE
  rw [z0] at hR
  obtain ⟨b, hb⟩ : ∃ b, w.heap.size = b := ⟨_, rfl⟩
  have HZ := Aside0.mk hb
  rw [hb] at hA hR hE hvl hp ⊢
  have HB3 := Aside0.mk B2
  have HR := Aside0.mk hR
  have HE := Aside0.mk hE
  have HV3 := Aside0.mk (blk_below HV.out B2)
  have HA := Aside0.mk hA
  have hsz3 : w3.heap.size = b + 3 := by omega
  have HC := Aside0.mk (HF.out w3.drew (below_drew HB3.out) (HS.out.below (below_drew HB3.out)))
  have v6 : w3.cell? ⟨vb, 6, none⟩ = some (.func (.func F) #[] #[]) := by have := HV3.out; unfold verbO at this; rw [blk_cell this]; rfl
  have v5 : w3.cell? ⟨vb, 5, none⟩ = some (.bool true) := by have := HV3.out; unfold verbO at this; rw [blk_cell this]; rfl
  have c0 : w3.cell? ⟨b, 0, none⟩ = some a0 := by rw [blk_cell HA.out]; rfl
  have c1 : w3.cell? ⟨b, 1, none⟩ = some a1 := by rw [blk_cell HA.out]; rfl
  have c2 : w3.cell? ⟨b, 2, none⟩ = some a2 := by rw [blk_cell HA.out]; rfl
  have c3 : w3.cell? ⟨b, 3, none⟩ = some (.string line) := by rw [blk_cell HA.out]; rfl
  have HSZ := Aside0.mk hsz3
  clear e1 e2 e3 z0 z1 z2 B0 B1 B2 hA hR hE hb hsz3
  go_region_held3 (fun w' => w'.cell? ⟨vb, 6, none⟩ = some (.func (.func F) #[] #[]) ∧ w'.cell? ⟨b, 0, none⟩ = some a0 ∧ w'.cell? ⟨b, 1, none⟩ = some a1 ∧ w'.cell? ⟨b, 2, none⟩ = some a2 ∧ w'.cell? ⟨b, 3, none⟩ = some (.string line)) (first | (exact ⟨v6, c0, c1, c2, c3⟩) | (exact ⟨k6, k0, k1, k2, k3⟩) | (exact ⟨cell_set_off k6 (by omega) _, cell_set_off k0 (by omega) _, cell_set_off k1 (by omega) _, cell_set_off k2 (by omega) _, cell_set_off k3 (by omega) _⟩)) (((with_reducible refine HC.out.mono ?_); rintro e w4 ⟨rfl, hs4, ht4⟩; have HS4 := Aside0.mk hs4; have HT4 := Aside0.mk ht4; have HR4 := Aside0.mk (ht4.blk (blk_drew HR.out) (by omega)); have HE4 := Aside0.mk (ht4.blk (blk_drew HE.out) (by omega)); have HV4 := Aside0.mk (ht4.blk (blk_drew HV3.out) hvp); have HA4 := Aside0.mk (ht4.blk (blk_drew HA.out) (by omega)); have k6 := verb_cell6 HV4.out; have k0 := args_cell0 HA4.out; have k1 := args_cell1 HA4.out; have k2 := args_cell2 HA4.out; have k3 := args_cell3 HA4.out; clear hs4 ht4; have r1 := cellAt HR4.out; have r2 := blk_frozen HR4.out 0))
  have hz := HZ.out
  have hz3 := HSZ.out
  have X1 := Aside0.mk (show (w4.setCell ⟨b + 1, 0, none⟩ (.string r)).heap[b + 1]? = some (.cells #[.string r] 9 (0, 0)) by rw [heap_setCell_same _ _ _ _ _ _ HR4.out]; rfl)
  have X2 := Aside0.mk (show (w4.setCell ⟨b + 1, 0, none⟩ (.string r)).heap[b + 1 + 1]? = some (.cells #[.int .i64 0] 25 (0, 0)) by rw [Below.heap_setCell _ _ _ _ (by show b + 1 + 1 ≠ b + 1; omega)]; exact HE4.out)
  have XV := Aside0.mk (show (w4.setCell ⟨b + 1, 0, none⟩ (.string r)).heap[vb]? = some (verbO ks least most more step true F) by rw [Below.heap_setCell _ _ _ _ (by show vb ≠ b + 1; omega)]; exact HV4.out)
  have XA := Aside0.mk (show (w4.setCell ⟨b + 1, 0, none⟩ (.string r)).heap[b]? = some (.cells #[a0, a1, a2, .string line] 129 (0, 0)) by rw [Below.heap_setCell _ _ _ _ (by show b ≠ b + 1; omega)]; exact HA4.out)
  have XS := Aside0.mk (HS4.out.kept (w' := w4.setCell ⟨b + 1, 0, none⟩ (.string r)) (Below.heap_setCell _ _ _ _ (by show p ≠ b + 1; omega)) (fun g hg _ => Below.heap_setCell _ _ _ _ (by
    show g ≠ b + 1
    rcases hg with h | h
    · omega
    · have : w3.drew.heap.size = w3.heap.size := rfl
      omega)))
  have HT5 := Aside0.mk (((Turn.of_below (p := p) (below_drew HB3.out)).trans HT4.out).set ⟨b + 1, 0, none⟩ (.inr (by show w.heap.size ≤ b + 1; omega)) (.string r))
  clear r1 r2 k6 k0 k1 k2 k3 v6 c0 c1 c2 c3 HC
  obtain ⟨w5, h5⟩ : ∃ w5, w4.setCell ⟨b + 1, 0, none⟩ (.string r) = w5 := ⟨_, rfl⟩
  rw [h5] at X1 X2 XV XA XS HT5 ⊢
  clear h5
  have v5 : w5.cell? ⟨vb, 5, none⟩ = some (.bool true) := by have := XV.out; unfold verbO at this; rw [blk_cell this]; rfl
  obtain ⟨vs, va, vc, vm, vbk, p0, l1, l2, l3, l4, l5⟩ := XS.out.at_
  obtain ⟨A, rfl⟩ := l5.lies.slice
  have y36 := shop_cell36 p0
  obtain ⟨n, hn⟩ : ∃ n, S'.book.length = n := ⟨_, rfl⟩
  have HN := Aside0.mk hn
  rw [hn] at y36 l5 hl
  have dn : decide ((n : Int) < 2000) = true := decide_eq_true (by omega)
  have P0 := Aside0.mk p0
  have L1 := Aside0.mk l1
  have L2 := Aside0.mk l2
  have L3 := Aside0.mk l3
  have L4 := Aside0.mk l4
  have L5 := Aside0.mk l5
  clear p0 l1 l2 l3 l4 l5
  go_wp2_with (go_at_call 153; refine (ensure_ok _ _).mono ?_; rintro e w6 ⟨rfl, hw⟩; rw [hw]; clear hw w6)
  have y3 := args_cell3 XA.out
  have q36 : w5.drew.cell? ⟨p, 36, none⟩ = some (.slice A n n) := y36
  have q3 : w5.drew.cell? ⟨b, 3, none⟩ = some (.string line) := y3
  have info9 : (Tryz.prog.info? 9).map (fun i => (i.zero, i.size, i.bytes)) = some (some (.string ByteArray.empty), 1, 16) := by kernel_rfl
  obtain ⟨i0, hi0, hz0, hz1, hz2⟩ := info_parts info9
  have hl5 := L5.out.lies.len
  have hnone : A = none → n = 0 ∧ n = 0 := by
    rcases L5.out.lies.lies with ⟨_, h0⟩ | ⟨g, he, _⟩
    · exact fun _ => ⟨h0, h0⟩
    · intro hA; rw [hA] at he; cases he
  have holds : ∀ a, A = some a → ∀ (j : Nat) u, S'.book[j]? = some u → (w5.alloc (Obj.cells #[.string line] 9)).drew.cell? (a.add j) = some u := by
    intro a ha j u hj
    rcases L5.out.lies.lies with ⟨he, _⟩ | ⟨g, he, _, _, hc⟩
    · rw [ha] at he; cases he
    · rw [ha] at he
      cases he
      rw [Addr.add_lit, Nat.zero_add]
      exact pw_cell_below (below_drew (below_alloc (Below.refl _ w5) _)) (hc j u hj)
  have hnews : ∀ (j : Nat) u, [Value.string line][j]? = some u → (w5.alloc (Obj.cells #[.string line] 9)).drew.cell? ((⟨w5.heap.size, 0, none⟩ : Addr).add j) = some u := by
    intro j u hj
    rw [Addr.add_lit, Nat.zero_add]
    show (w5.alloc (Obj.cells #[Value.string line] 9)).cell? ⟨w5.heap.size, j, none⟩ = some u
    rw [blk_cell (heap_new w5 _)]
    simpa using hj
  have hone : ∀ u ∈ [Value.string line], u.oneCell' = true := fun u hu => by rw [List.mem_singleton] at hu; subst hu; rfl
  have hb1 : n + 1 ≤ maxLen := by simp only [maxLen]; omega
  have hb2 : (n + 1) * 16 ≤ 140737488355328 := by omega
  have hfull : n < n + 1 := by omega
  have HBA := Aside0.mk (show Below w5.heap.size w5 (w5.alloc (Obj.cells #[.string line] 9)).drew from below_drew (below_alloc (Below.refl _ _) _))
  have qa36 : (w5.alloc (Obj.cells #[.string line] 9)).drew.cell? ⟨p, 36, none⟩ = some (.slice A n n) := pw_cell_below (below_drew (below_alloc (Below.refl _ w5) _)) (show w5.cell? ⟨p, 36, none⟩ = some (.slice A n n) from q36)
  have hbp : b ≠ p := by omega
  clear y36 y3 v5
  refine wp_region_noPanic ?_
  go_region_law ((refine step_append_grows rfl (.tmp 31) (.tmp 34) 61 rfl 9 i0 (.string ByteArray.empty) 1 16 Tryz.underlying61 hi0 hz0 hz1 hz2 rfl (by decide) A n n S'.book (by simp [Act.eval, Act.put]) hnone hl5 holds ⟨w5.heap.size, 0, none⟩ 1 1 [.string line] (by simp [Act.eval, Act.put]) rfl hnews hone hfull hb1 hb2 ?_; intro v' w6 hown hgrow; obtain ⟨g, cap, rfl, hg1, hg2⟩ := hown.form (by omega); have HO := Aside0.mk hown; have HB6 := Aside0.mk (show Below w5.heap.size w5 w6 from HBA.out.grown hgrow (by show w5.heap.size ≤ (w5.alloc (Obj.cells #[.string line] 9)).heap.size; rw [size_alloc]; omega) (fun k hk => by cases hk)); have P6 := Aside0.mk (blk_below P0.out HB6.out); have z36 := shop_cell36 P6.out; have z3 := pw_cell_below HB6.out (show w5.cell? ⟨b, 3, none⟩ = some (.string line) from q3); have zf := blk_frozen P6.out 36; clear hown hgrow))
  all_goals
    refine NoPanic.normal ?_
    have hz5 := HT5.out.size
    have hz6 := HB6.out.size
    have hlt1 := blk_lt X1.out
    have hlt2 := blk_lt X2.out
    have R1 := Aside0.mk (show (w6.setCell ⟨p, 36, none⟩ (.slice (some ⟨g, 0, none⟩) (n + 1) cap)).heap[b + 1]? = some (.cells #[.string r] 9 (0, 0)) by rw [Below.heap_setCell _ _ _ _ (by show b + 1 ≠ p; omega)]; exact blk_below X1.out HB6.out)
    have R2 := Aside0.mk (show (w6.setCell ⟨p, 36, none⟩ (.slice (some ⟨g, 0, none⟩) (n + 1) cap)).heap[b + 1 + 1]? = some (.cells #[.int .i64 0] 25 (0, 0)) by rw [Below.heap_setCell _ _ _ _ (by show b + 1 + 1 ≠ p; omega)]; exact blk_below X2.out HB6.out)
    have RP := Aside0.mk (show (w6.setCell ⟨p, 36, none⟩ (.slice (some ⟨g, 0, none⟩) (n + 1) cap)).heap[p]? = some (.cells (shopC S'.b vs va vc vm (.slice (some ⟨g, 0, none⟩) (n + 1) cap)) 64 (0, 0)) by rw [heap_setCell_same _ _ _ _ _ _ P6.out]; exact congrArg some (congrArg (fun c => Obj.cells c 64 (0, 0)) (by cases S'.b <;> rfl)))
    have HT7 := Aside0.mk ((HT5.out.trans (Turn.of_below HB6.out)).set ⟨p, 36, none⟩ (.inl rfl) (.slice (some ⟨g, 0, none⟩) (n + 1) cap))
    have hsw : (w5.alloc (Obj.cells #[.string line] 9)).drew.heap.size = w5.heap.size + 1 := size_alloc w5 _
    have hgp : p < g := by omega
    have okk : ∀ x, (x < p ∨ w3.drew.heap.size ≤ x) → x ≠ p ∧ x ≠ b + 1 ∧ x ≠ b + 1 + 1 := fun x hx => by
      have : w3.drew.heap.size = w3.heap.size := rfl
      omega
    have hkk : ∀ x, (x < p ∨ w3.drew.heap.size ≤ x) → x < w5.heap.size → (w6.setCell ⟨p, 36, none⟩ (.slice (some ⟨g, 0, none⟩) (n + 1) cap)).heap[x]? = w5.heap[x]? := fun x hx hlt => by
      rw [Below.heap_setCell _ _ _ _ (okk x hx).1]
      exact HB6.out.block x hlt
    have M1 := Aside0.mk (L1.out.kept hkk)
    have M2 := Aside0.mk (L2.out.kept hkk)
    have M3 := Aside0.mk (L3.out.kept hkk)
    have M4 := Aside0.mk (L4.out.kept hkk)
    have HOK := Aside0.mk okk
    have MB := Aside0.mk (show LAt (w6.setCell ⟨p, 36, none⟩ (.slice (some ⟨g, 0, none⟩) (n + 1) cap)) 1 (.slice (some ⟨g, 0, none⟩) (n + 1) cap) (S'.book ++ [.string line]) (n + 1) from by
      have h1 : ∀ u ∈ S'.book ++ [.string line], u.oneCell' = true := fun u hu => by
        rcases List.mem_append.1 hu with h | h
        · exact L5.out.lies.one u h
        · exact hone u h
      have h2 := LAt.of_own (by decide) HO.out h1
      refine ⟨h2.len, h2.one, .inr ⟨g, cap, rfl, ?_⟩⟩
      rcases h2.lies with ⟨he, _⟩ | ⟨g', c', he, q1, q2, q3⟩
      · cases he
      · cases he
        exact ⟨q1, q2, fun j u hj => cell_set_off36 (q3 j u hj) (by omega) _⟩)
    clear hkk okk hnews holds qa36 q36 q3 z36 zf z3 hone hb1 hb2 hfull
    obtain ⟨w7, h7⟩ : ∃ w7, w6.setCell ⟨p, 36, none⟩ (.slice (some ⟨g, 0, none⟩) (n + 1) cap) = w7 := ⟨_, rfl⟩
    rw [h7] at R1 R2 RP HT7 M1 M2 M3 M4 MB ⊢
    clear h7
    have s1 := cellAt R1.out
    have s2 := blk_frozen R1.out 0
    have s3 := cellAt R2.out
    have s4 := blk_frozen R2.out 0
    have nn : ¬ b + 1 + 1 = b + 1 := by omega
    go_wp2
    refine leaves_cons (f := 285) (args := #[.pointer (some ⟨b + 1, 0, none⟩), .pointer (some ⟨b + 1 + 1, 0, none⟩)]) (by simp) (by simp [go_sem]) ?_
    refine (catch_idle _ _ _).mono ?_
    rintro e u' w'' ⟨rfl, rfl, rfl⟩
    have Y1 := Aside0.mk (show (w7.setCell ⟨b + 1, 0, none⟩ (.string r)).heap[b + 1]? = some (.cells #[.string r] 9 (0, 0)) by rw [heap_setCell_same _ _ _ _ _ _ R1.out]; rfl)
    have Y2 := Aside0.mk (show (w7.setCell ⟨b + 1, 0, none⟩ (.string r)).heap[b + 1 + 1]? = some (.cells #[.int .i64 0] 25 (0, 0)) by rw [Below.heap_setCell _ _ _ _ (by show b + 1 + 1 ≠ b + 1; omega)]; exact R2.out)
    have HT8 := Aside0.mk ((HT7.out.set ⟨b + 1, 0, none⟩ (.inr (by show w.heap.size ≤ b + 1; omega)) (.string r)).set ⟨b + 1 + 1, 0, none⟩ (.inr (by show w.heap.size ≤ b + 1 + 1; omega)) (.int .i64 0))
    have hkk2 : ∀ x, x ≠ b + 1 ∧ x ≠ b + 1 + 1 → ((w7.setCell ⟨b + 1, 0, none⟩ (.string r)).setCell ⟨b + 1 + 1, 0, none⟩ (.int .i64 0)).heap[x]? = w7.heap[x]? := fun x hx => by
      rw [Below.heap_setCell _ _ _ _ hx.2, Below.heap_setCell _ _ _ _ hx.1]
    have HSF := Aside0.mk (show ShopAt ((w7.setCell ⟨b + 1, 0, none⟩ (.string r)).setCell ⟨b + 1 + 1, 0, none⟩ (.int .i64 0)) p (S'.add line) from by
      have ho := XS.out.good
      refine ⟨⟨ho.sents, ho.narcs, ho.coins, ho.coin, ho.amts, ?_⟩, vs, va, vc, vm, .slice (some ⟨g, 0, none⟩) (n + 1) cap, (hkk2 p ⟨by omega, by omega⟩).trans RP.out, ?_, ?_, ?_, ?_, ?_⟩
      · show (S'.book ++ [Value.string line]).length ≤ 10
        rw [List.length_append, HN.out]
        show n + 1 ≤ 10
        omega
      · exact (M1.out.kept (fun x hx _ => hkk2 x (HOK.out x hx).2)).lies
      · exact (M2.out.kept (fun x hx _ => hkk2 x (HOK.out x hx).2)).lies
      · exact (M3.out.kept (fun x hx _ => hkk2 x (HOK.out x hx).2)).lies
      · exact (M4.out.kept (fun x hx _ => hkk2 x (HOK.out x hx).2)).lies
      · show LAt _ 1 _ (S'.book ++ [Value.string line]) (S'.book ++ [Value.string line]).length
        rw [List.length_append, HN.out]
        have hMB := MB.out
        refine ⟨hMB.len, hMB.one, hMB.lies.imp id fun ⟨g', c', he, q1, q2, q3⟩ => ⟨g', c', he, q1, q2, fun j u hj => ?_⟩⟩
        cases he
        exact cell_set_off36 (cell_set_off36 (q3 j u hj) (by omega) _) (by omega) _)
    obtain ⟨w8, h8⟩ : ∃ w8, w7.setCell ⟨b + 1, 0, none⟩ (.string r) = w8 := ⟨_, rfl⟩
    rw [h8] at Y1 Y2 HT8 HSF ⊢
    have s1 := cellAt Y1.out
    have t1 := cell_set_off s1 (b' := b + 1 + 1) (by omega) (.int .i64 0)
    have X3 := Aside0.mk (show (w8.setCell ⟨b + 1 + 1, 0, none⟩ (.int .i64 0)).heap[b + 1 + 1]? = some (.cells #[.int .i64 0] 25 (0, 0)) by rw [heap_setCell_same _ _ _ _ _ _ Y2.out]; rfl)
    have t2 := cellAt X3.out
    simp [Leaves, settle, results, Tryz.results284, go_sem, t1, t2, HT8.out, HSF.out]
end Go.Proofs.YtldohjlcckbfaaaGreatDoor.Hand
namespace Go.Proofs.YtldohjlcckbfaaaGreatDoor.Hand
open Go.RowKit Go.Proofs.YtldohjlcckbfaaaGreatDoorW.PrintWords Go.Proofs.YtldohjlcckbfaaaGreatDoorW.PrintLast Go.Proofs.YtldohjlcckbfaaaGreatDoorW.PrintMore
set_option linter.unusedVariables false
set_option linter.unusedSimpArgs false
open Go.Proofs.YtldohjlcckbfaaaGreatDoor.Pre
open TopWords
def noE (xs : List Value) : Prop := xs[0]? ≠ some (.string ⟨#[]⟩)
structure Sh.First (S : Sh) : Prop where
  sents : noE S.sents
  arcs : noE S.arcs
  coins : noE S.coins
  amts : noE S.amts
  book : noE S.book
theorem LAt.store {w w' : World} {size n p : Nat} {v : Value} {xs : List Value} {b : Bool} {vs va vc vm vb : Value} (h : LAt w size v xs n) (hp : w.heap[p]? = some (.cells (shopC b vs va vc vm vb) 64 (0, 0))) (h0 : noE xs) (hk : ∀ g, g ≠ p → g < w.heap.size → w'.heap[g]? = w.heap[g]?) : LAt w' size v xs n := by
  refine ⟨h.len, h.one, h.lies.imp id fun ⟨g, c, h1, h2, h3, h4⟩ => ⟨g, c, h1, h2, h3, fun j u hj => ?_⟩⟩
  have hc := h4 j u hj
  have hlt : g < w.heap.size := World.block_lt_of_cell? w _ hc
  have hne : g ≠ p := by
    rintro rfl
    have hl : 0 < xs.length := by
      have := (List.getElem?_eq_some_iff.1 hj).1
      omega
    have h5 := h4 0 xs[0] (List.getElem?_eq_getElem hl)
    rw [blk_cell hp] at h5
    refine h0 ?_
    rw [List.getElem?_eq_getElem hl, ← h5]
    cases b <;> rfl
  rw [show w'.cell? ⟨g, j, none⟩ = w.cell? ⟨g, j, none⟩ from cells_eq (hk g hne hlt)]
  exact hc
attribute [local go_sem ↓] built64_eq   -- for this text's walks alone
set_option maxHeartbeats 4000000 in
set_option maxRecDepth 100000 in
theorem copy_tx (p : Nat) (S : Sh) (w : World) (h : ShopAt w p S) :
    Calls Tryz.prog 280 #[.pointer (some ⟨p, 0, none⟩)] w fun e w' => ∃ q, e = .returned (.pointer (some ⟨q, 0, none⟩)) ∧ w.heap.size ≤ q ∧ ShopTX (· < q) w' q S ∧ q < w'.heap.size ∧ Below w.heap.size w w' := by
  have HOK := Aside0.mk (ok_calls p S w h)
  have HSO := Aside0.mk h.ok
  obtain ⟨vs, va, vc, vm, vb, h0, h1, h2, h3, h4, h5⟩ := h.at_
  have H1 := Aside0.mk (fun W hb => own_strings vs S.sents S.sents.length (by have := HSO.out.sents; omega) W (h1.below hb))
  have H2 := Aside0.mk (fun W hb => own_pairs va S.arcs S.narcs (by have := HSO.out.narcs; omega) W (h2.below hb))
  have H3 := Aside0.mk (fun W hb => own_ints vc S.coins S.coins.length (by have := HSO.out.coins; omega) W (h3.below hb))
  have H4 := Aside0.mk (fun W hb => own_ints vm S.amts S.amts.length (by have := HSO.out.amts; omega) W (h4.below hb))
  have H5 := Aside0.mk (fun W hb => own_strings vb S.book S.book.length (by have := HSO.out.book; omega) W (h5.below hb))
  have hu : Tryz.prog.underlying 60 = some (.array 10 59) := by kernel_rfl
  have hi : (Tryz.prog.info? 60).map (·.size) = some (chairsL S.b).length := by rw [chairs_len]; kernel_rfl
  have x0 : w.drew.rangeAt p 0 (chairsL S.b) := by
    intro j v hj
    rw [Nat.zero_add, show w.drew.cell? ⟨p, j, none⟩ = w.cell? ⟨p, j, none⟩ from rfl, blk_cell h0]
    unfold shopC
    have hlt : j < (chairsL S.b).length := by rw [List.getElem?_eq_some_iff] at hj; exact hj.1
    rw [List.getElem?_toArray, List.getElem?_append_left hlt]
    exact hj
  have x1 : w.drew.cell? ⟨p, 30, none⟩ = some (.int .i64 (-1)) := by show w.cell? _ = _; rw [blk_cell h0]; cases S.b <;> rfl
  have x2 : w.drew.cell? ⟨p, 31, none⟩ = some (.int .i64 0) := by show w.cell? _ = _; rw [blk_cell h0]; cases S.b <;> rfl
  have x3 : w.drew.cell? ⟨p, 32, none⟩ = some vs := by show w.cell? _ = _; rw [blk_cell h0]; cases S.b <;> rfl
  have x4 : w.drew.cell? ⟨p, 33, none⟩ = some va := by show w.cell? _ = _; rw [blk_cell h0]; cases S.b <;> rfl
  have x5 : w.drew.cell? ⟨p, 34, none⟩ = some vc := by show w.cell? _ = _; rw [blk_cell h0]; cases S.b <;> rfl
  have x6 : w.drew.cell? ⟨p, 35, none⟩ = some vm := by show w.cell? _ = _; rw [blk_cell h0]; cases S.b <;> rfl
  have x7 : w.drew.cell? ⟨p, 36, none⟩ = some vb := by show w.cell? _ = _; rw [blk_cell h0]; cases S.b <;> rfl
  have HB0 := Aside0.mk (below_drew (Below.refl w.heap.size w))
  obtain ⟨A1, c1, rfl, _⟩ := h1.slice
  obtain ⟨A2, c2, rfl, _⟩ := h2.slice
  obtain ⟨A3, c3, rfl, _⟩ := h3.slice
  obtain ⟨A4, c4, rfl, _⟩ := h4.slice
  obtain ⟨A5, c5, rfl, _⟩ := h5.slice
  have rr : ∀ {W W' : World}, Below W.heap.size W W' → W.rangeAt p 0 (chairsL S.b) → W'.rangeAt p 0 (chairsL S.b) := fun hb hr j v hj => pw_cell_below hb (hr j v hj)
  have RR := Aside0.mk @rr
  have hbd := build_shop S.b
  clear h h0 h1 h2 h3 h4 h5 rr
  go_enter Tryz.func280, Tryz.ntmps280
  go_wp2_with (go_at_call 32; refine HOK.out.mono ?_; rintro e w0 ⟨rfl, rfl⟩)
  go_region_held3 (fun w' => w'.rangeAt p 0 (chairsL S.b) ∧ w'.cell? ⟨p, 30, none⟩ = some (.int .i64 (-1)) ∧ w'.cell? ⟨p, 31, none⟩ = some (.int .i64 0) ∧ w'.cell? ⟨p, 32, none⟩ = some (.slice A1 S.sents.length c1) ∧ w'.cell? ⟨p, 33, none⟩ = some (.slice A2 S.narcs c2) ∧ w'.cell? ⟨p, 34, none⟩ = some (.slice A3 S.coins.length c3) ∧ w'.cell? ⟨p, 35, none⟩ = some (.slice A4 S.amts.length c4) ∧ w'.cell? ⟨p, 36, none⟩ = some (.slice A5 S.book.length c5)) (first | (exact ⟨x0, x1, x2, x3, x4, x5, x6, x7⟩) | (exact ⟨y0, y1, y2, y3, y4, y5, y6, y7⟩) | (exact ⟨RR.out (below_alloc (Below.refl _ _) _) y0, pw_cell_below (below_alloc (Below.refl _ _) _) y1, pw_cell_below (below_alloc (Below.refl _ _) _) y2, pw_cell_below (below_alloc (Below.refl _ _) _) y3, pw_cell_below (below_alloc (Below.refl _ _) _) y4, pw_cell_below (below_alloc (Below.refl _ _) _) y5, pw_cell_below (below_alloc (Below.refl _ _) _) y6, pw_cell_below (below_alloc (Below.refl _ _) _) y7⟩)) (first | ((with_reducible refine (H1.out _ HB0.out).mono ?_); rintro e W1 ⟨v1, rfl, ht, hb⟩; obtain ⟨B1, rfl⟩ := ht.slice; have HB1 := Aside0.mk (HB0.out.trans (hb.mono HB0.out.size)); have T1 := Aside0.mk ht; have hB1 := Aside0.mk hb; have y0 := RR.out hb (by first | exact x0 | exact y0); have y1 := pw_cell_below hb (by first | exact y1 | exact x1); have y2 := pw_cell_below hb (by first | exact y2 | exact x2); have y3 := pw_cell_below hb (by first | exact y3 | exact x3); have y4 := pw_cell_below hb (by first | exact y4 | exact x4); have y5 := pw_cell_below hb (by first | exact y5 | exact x5); have y6 := pw_cell_below hb (by first | exact y6 | exact x6); have y7 := pw_cell_below hb (by first | exact y7 | exact x7); clear ht hb) | ((with_reducible refine (H2.out _ HB1.out).mono ?_); rintro e W2 ⟨v2, rfl, ht, hb⟩; obtain ⟨B2, rfl⟩ := ht.slice; have HB2 := Aside0.mk (HB1.out.trans (hb.mono HB1.out.size)); have T2 := Aside0.mk ht; have hB2 := Aside0.mk hb; have y0 := RR.out hb (by first | exact x0 | exact y0); have y1 := pw_cell_below hb (by first | exact y1 | exact x1); have y2 := pw_cell_below hb (by first | exact y2 | exact x2); have y3 := pw_cell_below hb (by first | exact y3 | exact x3); have y4 := pw_cell_below hb (by first | exact y4 | exact x4); have y5 := pw_cell_below hb (by first | exact y5 | exact x5); have y6 := pw_cell_below hb (by first | exact y6 | exact x6); have y7 := pw_cell_below hb (by first | exact y7 | exact x7); clear ht hb) | ((with_reducible refine (H3.out _ HB2.out).mono ?_); rintro e W3 ⟨v3, rfl, ht, hb⟩; obtain ⟨B3, rfl⟩ := ht.slice; have HB3 := Aside0.mk (HB2.out.trans (hb.mono HB2.out.size)); have T3 := Aside0.mk ht; have hB3 := Aside0.mk hb; have y0 := RR.out hb (by first | exact x0 | exact y0); have y1 := pw_cell_below hb (by first | exact y1 | exact x1); have y2 := pw_cell_below hb (by first | exact y2 | exact x2); have y3 := pw_cell_below hb (by first | exact y3 | exact x3); have y4 := pw_cell_below hb (by first | exact y4 | exact x4); have y5 := pw_cell_below hb (by first | exact y5 | exact x5); have y6 := pw_cell_below hb (by first | exact y6 | exact x6); have y7 := pw_cell_below hb (by first | exact y7 | exact x7); clear ht hb) | ((with_reducible refine (H4.out _ HB3.out).mono ?_); rintro e W4 ⟨v4, rfl, ht, hb⟩; obtain ⟨B4, rfl⟩ := ht.slice; have HB4 := Aside0.mk (HB3.out.trans (hb.mono HB3.out.size)); have T4 := Aside0.mk ht; have hB4 := Aside0.mk hb; have y0 := RR.out hb (by first | exact x0 | exact y0); have y1 := pw_cell_below hb (by first | exact y1 | exact x1); have y2 := pw_cell_below hb (by first | exact y2 | exact x2); have y3 := pw_cell_below hb (by first | exact y3 | exact x3); have y4 := pw_cell_below hb (by first | exact y4 | exact x4); have y5 := pw_cell_below hb (by first | exact y5 | exact x5); have y6 := pw_cell_below hb (by first | exact y6 | exact x6); have y7 := pw_cell_below hb (by first | exact y7 | exact x7); clear ht hb) | ((with_reducible refine (H5.out _ HB4.out).mono ?_); rintro e W5 ⟨v5, rfl, ht, hb⟩; obtain ⟨B5, rfl⟩ := ht.slice; have HB5 := Aside0.mk (HB4.out.trans (hb.mono HB4.out.size)); have T5 := Aside0.mk ht; have hB5 := Aside0.mk hb; have y0 := RR.out hb (by first | exact x0 | exact y0); have y1 := pw_cell_below hb (by first | exact y1 | exact x1); have y2 := pw_cell_below hb (by first | exact y2 | exact x2); have y3 := pw_cell_below hb (by first | exact y3 | exact x3); have y4 := pw_cell_below hb (by first | exact y4 | exact x4); have y5 := pw_cell_below hb (by first | exact y5 | exact x5); have y6 := pw_cell_below hb (by first | exact y6 | exact x6); have y7 := pw_cell_below hb (by first | exact y7 | exact x7); clear ht hb))
  clear hbd
  go_wp2
  go_ret
  have s1 := (((T1.out.below hB2.out).below hB3.out).below hB4.out).below hB5.out
  have s2 := ((T2.out.below hB3.out).below hB4.out).below hB5.out
  have s3 := (T3.out.below hB4.out).below hB5.out
  have s4 := T4.out.below hB5.out
  have s5 := T5.out
  have bA : ∀ o, Below W5.heap.size W5 (W5.alloc o) := fun o => below_alloc (Below.refl _ _) o
  refine ⟨_, rfl, HB5.out.size, ⟨HSO.out, _, _, _, _, _, heap_new _ _, ⟨s1.below (bA _), s1.lt (by decide)⟩, ⟨s2.below (bA _), s2.lt (by decide)⟩, ⟨s3.below (bA _), s3.lt (by decide)⟩, ⟨s4.below (bA _), s4.lt (by decide)⟩, ⟨s5.below (bA _), s5.lt (by decide)⟩⟩, by rw [size_alloc]; omega, below_alloc HB5.out _⟩
end Go.Proofs.YtldohjlcckbfaaaGreatDoor.Hand
