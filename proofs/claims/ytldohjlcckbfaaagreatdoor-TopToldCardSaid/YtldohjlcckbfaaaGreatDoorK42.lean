/- A part of the proof that pomadetop.TopTold returns true for every input: HandVn. No condition beyond those that each theorem states. -/
import Derived.Test.YtldohjlcckbfaaaGreatDoorK41
namespace Go.Proofs.YtldohjlcckbfaaaGreatDoor.Hand
open Go.RowKit Go.Proofs.YtldohjlcckbfaaaGreatDoorW.PrintWords Go.Proofs.YtldohjlcckbfaaaGreatDoorW.PrintLast Go.Proofs.YtldohjlcckbfaaaGreatDoorW.PrintMore
set_option linter.unusedVariables false
set_option linter.unusedSimpArgs false
open Go.Proofs.YtldohjlcckbfaaaGreatDoor.Pre
open TopWords TopSeq Go.Shelf
attribute [local go_sem] Oper.semAt_some
structure RunEnv (w : World) (p b : Nat) (k : Nat) (W : World) : Prop where
  lo : p < w.heap.size ∧ w.heap.size < b
  shop : ShopAt W p (shK k)
  bld : Bld w.heap.size b (outL k) W
  turn : Turn p w W
  sbox : W.heap[w.heap.size]? = some (.cells #[.pointer (some ⟨p, 0, none⟩)] 32 (0, 0))
  text : ∃ s, W.heap[b + 1]? = some (.cells #[.string s] 9 (0, 0))
  sep : W.heap[b + 1 + 1]? = some (.cells #[.string ⟨#[10]⟩] 9 (0, 0))
  save : W.heap[b + 1 + 1 + 1]? = some (.cells #[.int .i64 0] 3 (0, 0))
theorem own_other {w w' : World} {B e n : Nat} {v : Value} {xs : List Value} (h : w.ownsRow B e 1 v n xs) (hk : ∀ (g : Nat) (cur : Array Value), v.ownBlock = some g → w.heap[g]? = some (Obj.cells cur e (0, 0)) → w'.heap[g]? = w.heap[g]?) : w'.ownsRow B e 1 v n xs := by
  refine ⟨h.1, ?_⟩
  rcases h.2 with h2 | ⟨g, cap, cur, h1, h2, h3, h4⟩
  · exact .inl h2
  · exact .inr ⟨g, cap, cur, h1, h2, (hk g cur (by rw [h1]; rfl) h3).trans h3, h4⟩
theorem Bld.other {B b : Nat} {l : List UInt8} {w w' : World} (h : Bld B b l w) (hb : w'.heap[b]? = w.heap[b]?) (hk : ∀ (g : Nat) (cur : Array Value), w.heap[g]? = some (Obj.cells cur 5 (0, 0)) → w'.heap[g]? = w.heap[g]?) : Bld B b l w' := by
  obtain ⟨p, v, h1, h2, h3, h4⟩ := h.at_
  exact ⟨h.lo, p, v, hb.trans h1, h2, own_other h3 (fun g cur _ hg => hk g cur hg), h4⟩
theorem plain_ne_string {s : ByteArray} (h : plainV (.string s)) : s = ⟨#[33, 97]⟩ ∨ s = lSit := by
  rcases h with ⟨i, h⟩ | h | h
  · cases h
  · injection h with h; exact .inl h
  · injection h with h; exact .inr h
theorem RunEnv.grown {w W W' : World} {p b k : Nat} {row : Option Nat} (h : RunEnv w p b k W) (hg : W.grownBy W' row) (hr : ∀ r, row = some r → w.heap.size ≤ r ∧ ∃ o : Obj, W.heap[r]? = some o ∧ o.isCells = false) : RunEnv w p b k W' := by
  have hc : ∀ (g : Nat) (cs : Array Value) (t : TypeId) (f : Nat × Nat), W.heap[g]? = some (Obj.cells cs t f) → W'.heap[g]? = W.heap[g]? := fun g cs t f hg' => (grown_cells hg' hg (fun r e => (hr r e).2)).trans hg'.symm
  obtain ⟨vs, va, vc, vm, vb, h0, _⟩ := h.shop.at_
  obtain ⟨q, v, h1, _⟩ := h.bld.at_
  obtain ⟨s, hs⟩ := h.text
  refine ⟨h.lo, h.shop.keepP (shK_plain k) (hc _ _ _ _ h0) (fun g x hx _ => ?_), h.bld.other (hc _ _ _ _ h1) (fun g cur hg' => hc _ _ _ _ hg'), ⟨hg.os.trans h.turn.os, hg.tape.trans h.turn.tape, hg.output.trans h.turn.output, Nat.le_trans h.turn.size hg.size, fun j hj hne => (hg.block j (Nat.lt_of_lt_of_le hj h.turn.size) (fun e => by have := (hr j e.symm).1; omega)).trans (h.turn.block j hj hne)⟩, (hc _ _ _ _ h.sbox).trans h.sbox, ⟨s, (hc _ _ _ _ hs).trans hs⟩, (hc _ _ _ _ h.sep).trans h.sep, (hc _ _ _ _ h.save).trans h.save⟩
  obtain ⟨o, ho, hoc⟩ := cells_of_cell hx
  exact grownBy_keeps_cells hg (fun r e => (hr r e).2) ho hoc
theorem RunEnv.store {w A : World} {p b k : Nat} {v : Value} (h : RunEnv w p b k A) (hst : SplitSt (b + 1) A v) : RunEnv w p b k (A.setCell ⟨b + 1, 0, none⟩ v) := by
  obtain ⟨j, hj, hb1, rfl⟩ := hst
  obtain ⟨l1, l2⟩ := h.lo
  have ho : ∀ g, g ≠ b + 1 → (A.setCell ⟨b + 1, 0, none⟩ (.string (restB (j + 1)))).heap[g]? = A.heap[g]? := fun g hg => Below.heap_setCell _ _ _ _ hg
  refine ⟨h.lo, h.shop.keepP (shK_plain k) (ho _ (by omega)) (fun g x hx hp => ho g ?_), h.bld.other (ho _ (by omega)) (fun g cur hg => ho g ?_), h.turn.set ⟨b + 1, 0, none⟩ (.inr (by show w.heap.size ≤ b + 1; omega)) _, (ho _ (by omega)).trans h.sbox, ⟨restB (j + 1), ?_⟩, (ho _ (by omega)).trans h.sep, (ho _ (by omega)).trans h.save⟩
  · rintro rfl
    rw [blk_cell hb1] at hx
    have hx' : Value.string (restB j) = x := by simpa using hx
    rw [← hx'] at hp
    rcases plain_ne_string hp with e | e
    · exact (lSit_ne j hj).2 e
    · exact (lSit_ne j hj).1 e
  · rintro rfl
    rw [hb1] at hg
    injection hg with hg
    injection hg with _ hg
    exact absurd hg (by decide)
  · rw [heap_setCell_same _ _ _ _ _ _ hb1]; rfl
theorem outL_succ (k : Nat) (hk : k < 8) : outL (k + 1) = outL k ++ (repB k ++ ⟨#[10]⟩).data.toList := by
  have : ∀ k : Fin 8, outL (k.val + 1) = outL k.val ++ (repB k.val ++ ⟨#[10]⟩).data.toList := by decide +kernel
  exact this ⟨k, hk⟩
theorem outL_len (k : Nat) (hk : k < 9) : (outL k).length ≤ 100 := by
  have : ∀ k : Fin 9, (outL k.val).length ≤ 100 := by decide +kernel
  exact this ⟨k, hk⟩
theorem rep_size (k : Nat) (hk : k < 8) : 0 < (repB k).size ∧ (repB k).size ≤ 10 ∧ (repB k).toList.isEmpty = false := by
  have : ∀ k : Fin 8, 0 < (repB k.val).size ∧ (repB k.val).size ≤ 10 ∧ (repB k.val).toList.isEmpty = false := by decide +kernel
  exact this ⟨k, hk⟩
theorem outL_end : outL 9 = outL 8 ∧ repB 8 = ⟨#[]⟩ ∧ lineB 8 = ⟨#[]⟩ := by decide +kernel
theorem RunEnv.exec {w W W' : World} {p b k : Nat} (h : RunEnv w p b k W) (hs : ShopAt W' p (shK (k + 1))) (ht : Turn p W W') (hk : outL (k + 1) = outL k) : RunEnv w p b (k + 1) W' := by
  obtain ⟨l1, l2⟩ := h.lo
  obtain ⟨q, v, h1, _⟩ := h.bld.at_
  obtain ⟨s, h2⟩ := h.text
  refine ⟨h.lo, hs, ?_, h.turn.trans ht, ht.blk h.sbox (by omega), ⟨s, ht.blk h2 (by omega)⟩, ht.blk h.sep (by omega), ht.blk h.save (by omega)⟩
  rw [hk]
  refine h.bld.other (ht.block b (blk_lt h1) (by omega)) (fun g cur hg => ht.block g (blk_lt hg) ?_)
  rintro rfl
  obtain ⟨vs, va, vc, vm, vb, h0, _⟩ := h.shop.at_
  rw [hg] at h0
  injection h0 with h0
  injection h0 with _ h0
  exact absurd h0 (by decide)
theorem RunEnv.exec2 {w W W' : World} {p b k : Nat} (h : RunEnv w p b k W) (ht : Turn p W W') : Bld w.heap.size b (outL k) W' := by
  obtain ⟨l1, l2⟩ := h.lo
  obtain ⟨q, v, h1, _⟩ := h.bld.at_
  refine h.bld.other (ht.block b (blk_lt h1) (by omega)) (fun g cur hg => ht.block g (blk_lt hg) ?_)
  rintro rfl
  obtain ⟨vs, va, vc, vm, vb, h0, _⟩ := h.shop.at_
  rw [hg] at h0
  injection h0 with h0
  injection h0 with _ h0
  exact absurd h0 (by decide)
theorem apart_of {w : World} {b k : Nat} {x : Value} {cs : Array Value} {t : TypeId} (h : w.heap[k]? = some (Obj.cells cs t (0, 0))) (hne : k ≠ b) (hx : cs[0]? = some x) (hb : ∀ n, x ≠ .int .u8 n) : Apart b w k :=
  ⟨blk_lt h, hne, fun n e => by rw [blk_cell h, hx] at e; exact hb n (by injection e)⟩
theorem shop_first {b : Bool} {vs va vc vm vb : Value} : (shopC b vs va vc vm vb)[0]? = some (.string ⟨#[]⟩) := by cases b <;> rfl
theorem RunEnv.write {w W W' W2 : World} {p b k : Nat} (h : RunEnv w p b k W) (hs : ShopAt W' p (shK (k + 1))) (ht : Turn p W W') (hb2 : Bld w.heap.size b (outL (k + 1)) W2) (hB : Below w.heap.size W' W2) (ha : ∀ k, Apart b W' k → W2.heap[k]? = W'.heap[k]?) : RunEnv w p b (k + 1) W2 ∧ ∀ c, c = b + 1 ∨ c = b + 1 + 1 ∨ c = b + 1 + 1 + 1 → W2.heap[c]? = W.heap[c]? := by
  obtain ⟨l1, l2⟩ := h.lo
  obtain ⟨s, h2⟩ := h.text
  have k0 := ht.blk h.sbox (by omega)
  have k1 := ht.blk h2 (by omega)
  have k2 := ht.blk h.sep (by omega)
  have k3 := ht.blk h.save (by omega)
  have j0 := ha _ (apart_of k0 (by omega) rfl (fun n e => by cases e))
  have j1 := ha _ (apart_of k1 (by omega) rfl (fun n e => by cases e))
  have j2 := ha _ (apart_of k2 (by omega) rfl (fun n e => by cases e))
  have j3 := ha _ (apart_of k3 (by omega) rfl (fun n e => by cases e))
  obtain ⟨vs, va, vc, vm, vb, h0, _⟩ := hs.at_
  obtain ⟨q, v, hb1, _⟩ := hb2.at_
  refine ⟨⟨h.lo, hs.keepP (shK_plain (k + 1)) (ha _ (apart_of h0 (by omega) shop_first (fun n e => by cases e))) (fun g x hx hp => ha g ⟨World.block_lt_of_cell? _ _ hx, ?_, ?_⟩), hb2, ⟨hB.os.trans (ht.os.trans h.turn.os), hB.tape.trans (ht.tape.trans h.turn.tape), hB.output.trans (ht.output.trans h.turn.output), Nat.le_trans h.turn.size (Nat.le_trans ht.size hB.size), fun j hj hne => (hB.block j hj).trans (((ht.block j (Nat.lt_of_lt_of_le hj h.turn.size) hne)).trans (h.turn.block j hj hne))⟩, j0.trans k0, ⟨s, j1.trans k1⟩, j2.trans k2, j3.trans k3⟩, ?_⟩
  · rintro rfl
    obtain ⟨q', v', hb', hq', _⟩ := (h.exec2 ht).at_
    rw [blk_cell hb'] at hx
    have hx' : q' = x := by simpa using hx
    rw [← hx'] at hp
    rcases hq' with rfl | rfl <;> rcases hp with ⟨i, e⟩ | e | e <;> cases e
  · intro n e
    rw [hx] at e
    injection e with e
    rw [e] at hp
    rcases hp with ⟨i, e⟩ | e | e
    · injection e with e1; cases e1
    · cases e
    · cases e
  · rintro c (rfl | rfl | rfl)
    · rw [j1, k1, h2]
    · rw [j2, k2, h.sep]
    · rw [j3, k3, h.save]
theorem RunEnv.below {w W W' : World} {p b k : Nat} (h : RunEnv w p b k W) (hb : Below W.heap.size W W') : RunEnv w p b k W' := by
  obtain ⟨q, v, h1, _⟩ := h.bld.at_
  obtain ⟨s, h2⟩ := h.text
  exact ⟨h.lo, h.shop.below hb, h.bld.other (hb.block _ (blk_lt h1)) (fun g cur hg => hb.block _ (blk_lt hg)), h.turn.trans (Turn.of_below hb), blk_below h.sbox hb, ⟨s, blk_below h2 hb⟩, blk_below h.sep hb, blk_below h.save hb⟩
theorem turn_keeps {W W' : World} {p B : Nat} {cs : Array Value} {t : TypeId} {f : Nat × Nat} (h : Turn p W W') (hp : W.heap[p]? = some (.cells cs t f)) : KeepsFrom B W W' :=
  ⟨h.size, fun k o _ hk ho => h.blk hk (by rintro rfl; rw [hp] at hk; cases hk; cases ho)⟩
theorem below_keeps {W W' : World} {B : Nat} (h : Below W.heap.size W W') : KeepsFrom B W W' := ⟨h.size, fun k o _ hk _ => blk_below hk h⟩
theorem run_start (w : World) (p : Nat) (hp : p < w.heap.size) (hs : ShopAt w p sh0) :
    RunEnv w p (w.heap.size + 1) 0 (((((w.alloc (.cells #[.pointer (some ⟨p, 0, none⟩)] 32)).alloc (.cells #[.pointer none, .slice none 0 0] 100)).alloc (.cells #[.string (restB 0)] 9)).alloc (.cells #[.string ⟨#[10]⟩] 9)).alloc (.cells #[.int .i64 0] 3)) ∧
      (((((w.alloc (.cells #[.pointer (some ⟨p, 0, none⟩)] 32)).alloc (.cells #[.pointer none, .slice none 0 0] 100)).alloc (.cells #[.string (restB 0)] 9)).alloc (.cells #[.string ⟨#[10]⟩] 9)).alloc (.cells #[.int .i64 0] 3)).heap[w.heap.size + 1 + 1]? = some (.cells #[.string (restB 0)] 9 (0, 0)) ∧
      (((((w.alloc (.cells #[.pointer (some ⟨p, 0, none⟩)] 32)).alloc (.cells #[.pointer none, .slice none 0 0] 100)).alloc (.cells #[.string (restB 0)] 9)).alloc (.cells #[.string ⟨#[10]⟩] 9)).alloc (.cells #[.int .i64 0] 3)).heap.size = w.heap.size + 1 + 1 + 1 + 1 + 1 := by
  have B1 := below_alloc (Below.refl _ w) (.cells #[.pointer (some ⟨p, 0, none⟩)] 32)
  have q1 := heap_new w (.cells #[.pointer (some ⟨p, 0, none⟩)] 32)
  have z1 := size_alloc w (.cells #[.pointer (some ⟨p, 0, none⟩)] 32)
  obtain ⟨w1, e1⟩ : ∃ w1, w.alloc (.cells #[.pointer (some ⟨p, 0, none⟩)] 32) = w1 := ⟨_, rfl⟩
  rw [e1] at B1 q1 z1 ⊢
  have B2 := below_alloc (Below.refl _ w1) (.cells #[.pointer none, .slice none 0 0] 100)
  have q2 := heap_new w1 (.cells #[.pointer none, .slice none 0 0] 100)
  have z2 := size_alloc w1 (.cells #[.pointer none, .slice none 0 0] 100)
  obtain ⟨w2, e2⟩ : ∃ w2, w1.alloc (.cells #[.pointer none, .slice none 0 0] 100) = w2 := ⟨_, rfl⟩
  rw [e2] at B2 q2 z2 ⊢
  have B3 := below_alloc (Below.refl _ w2) (.cells #[.string (restB 0)] 9)
  have q3 := heap_new w2 (.cells #[.string (restB 0)] 9)
  have z3 := size_alloc w2 (.cells #[.string (restB 0)] 9)
  obtain ⟨w3, e3⟩ : ∃ w3, w2.alloc (.cells #[.string (restB 0)] 9) = w3 := ⟨_, rfl⟩
  rw [e3] at B3 q3 z3 ⊢
  have B4 := below_alloc (Below.refl _ w3) (.cells #[.string ⟨#[10]⟩] 9)
  have q4 := heap_new w3 (.cells #[.string ⟨#[10]⟩] 9)
  have z4 := size_alloc w3 (.cells #[.string ⟨#[10]⟩] 9)
  obtain ⟨w4, e4⟩ : ∃ w4, w3.alloc (.cells #[.string ⟨#[10]⟩] 9) = w4 := ⟨_, rfl⟩
  rw [e4] at B4 q4 z4 ⊢
  have B5 := below_alloc (Below.refl _ w4) (.cells #[.int .i64 0] 3)
  have q5 := heap_new w4 (.cells #[.int .i64 0] 3)
  have z5 := size_alloc w4 (.cells #[.int .i64 0] 3)
  obtain ⟨w5, e5⟩ : ∃ w5, w4.alloc (.cells #[.int .i64 0] 3) = w5 := ⟨_, rfl⟩
  rw [e5] at B5 q5 z5 ⊢
  have t4 := B4.trans (B5.mono B4.size)
  have t3 := B3.trans (t4.mono B3.size)
  have t2 := B2.trans (t3.mono B2.size)
  have t1 := B1.trans (t2.mono B1.size)
  rw [z1] at q2 z2
  rw [z2] at q3 z3
  rw [z3] at q4 z4
  rw [z4] at q5 z5
  have hq2 := blk_below q2 t3
  exact ⟨⟨⟨hp, by omega⟩, hs.below t1, ⟨by omega, _, _, hq2, .inl rfl, own_nil _ _ _ _, fun _ => rfl⟩, Turn.of_below t1, blk_below q1 t2, ⟨_, blk_below q3 t4⟩, blk_below q4 B5, q5⟩, blk_below q3 t4, z5⟩
def outRun : ByteArray := ⟨(outL 9).toArray⟩
set_option maxHeartbeats 4000000 in
set_option maxRecDepth 100000 in
theorem run_calls (w0 w : World) (hG : Glob w0) (hB0 : Below w0.heap.size w0 w) (p : Nat) (hp0 : w0.heap.size ≤ p) (hp : p < w.heap.size) (hs : ShopAt w p sh0) :
    Calls Tryz.prog 29 #[.pointer (some ⟨p, 0, none⟩), .string (restB 0)] w fun e w' => e = .returned (.string outRun) ∧ Turn p w w' := by
  obtain ⟨z, hz⟩ : ∃ z, w.heap.size = z := ⟨_, rfl⟩
  have HS0 := run_start w p hp hs
  rw [hz] at HS0
  have HS := Aside0.mk HS0
  have HG := Aside0.mk (And.intro hG (And.intro hB0 hp0))
  have HOK := Aside0.mk (ok_calls p sh0 _ (hs.below (below_alloc (Below.refl _ w) (.cells #[.pointer (some ⟨p, 0, none⟩)] 32))))
  obtain ⟨T, hT⟩ : ∃ T, restB 0 = T := ⟨_, rfl⟩
  have HT := Aside0.mk hT
  rw [hT]
  clear hs HS0 hG hB0 hp0 hT
  refine (callsIn_wide (n := 9)).1 ?_
  refine callsIn_of_wp_marks Tryz.func29 rfl trivial ?_ rfl
  simp only [Tryz.ntmps29, List.size_toArray, List.length_cons, List.length_nil, Nat.reduceAdd, Nat.reduceSub, Array.replicate_succ, Array.replicate_zero, List.push_toArray, List.append_toArray, List.nil_append, List.cons_append]
  gi_wp2_with (refine ⟨trivial, ?_⟩; first | (gi_at_call 32; refine (callsIn_wide.2 HOK.out).mono ?_; rintro e w2 ⟨rfl, hw⟩; rw [hw]; clear hw w2) | (gi_at_call 55; refine (callsIn_wide.2 (split_calls _ _)).mono ?_; rintro e w4 ⟨rfl, rfl⟩))
  rw [HT.out] at HS
  have hs5 := HS.out.2.2
  have hbox := split_box (z + 1 + 1) 8 (by decide) _ (by rw [HT.out]; exact HS.out.2.1) HS.out.1.sep HS.out.1.save
  obtain ⟨W5, e5⟩ : ∃ W5, (((((w.alloc (.cells #[.pointer (some ⟨p, 0, none⟩)] 32)).alloc (.cells #[.pointer none, .slice none 0 0] 100)).alloc (.cells #[.string T] 9)).alloc (.cells #[.string ⟨#[10]⟩] 9)).alloc (.cells #[.int .i64 0] 3)) = W5 := ⟨_, rfl⟩
  rw [e5] at HS hs5 hbox ⊢
  have HBox := Aside0.mk hbox
  have HZ := Aside0.mk (And.intro hz hs5)
  clear hbox hs5 e5 hz
  refine range_box (n := 9) rfl (by decide) (gf := 140) (lb := #[.pointer (some ⟨z + 1 + 1 + 1, 0, none⟩), .pointer (some ⟨z + 1 + 1, 0, none⟩), .pointer (some ⟨z + 1 + 1 + 1 + 1, 0, none⟩)]) ?hg trivial (enters_of Tryz.func140 (by kernel_rfl) rfl) (N := 9) (Bn := z + 1 + 1) (Kb := fun b => b = z + 1 + 1 ∨ b = z + 1 + 1 + 1 ∨ b = z + 1 + 1 + 1 + 1) (St := SplitSt (z + 1 + 1)) (by have := HZ.out.2; omega) (fun b hb => by have := HZ.out.2; omega)
    HBox.out ?hps (RunEnv w p (z + 1)) (fun k A C row hk hg hr => hk.grown hg (fun r e => by have h1 := hr r e; have := HZ.out; exact ⟨by omega, h1.2⟩)) (fun k A v hk hst => hk.store hst) HS.out.1
    (fun k => { tmps := #[.pointer (some ⟨p, 0, none⟩), .string T, .pointer (some ⟨z, 0, none⟩), undef, .string ⟨#[]⟩, .pointer (some ⟨z + 1, 0, none⟩), .string (lineB k), undef, .pointer (some ⟨p, 0, none⟩), .bool true, .bool false, .string T, .func (.func 140) #[] #[.pointer (some ⟨z + 1 + 1 + 1, 0, none⟩), .pointer (some ⟨z + 1 + 1, 0, none⟩), .pointer (some ⟨z + 1 + 1 + 1 + 1, 0, none⟩)], .string (lineB k), undef, undef, undef, undef, undef, undef, undef, undef, undef, undef, undef, undef, undef, undef], defers := [] }) ?assign ?body ?done
  case hg => rfl
  case hps => intro k; rfl
  case assign =>
    intro l k W K hK
    gi_wp2
    exact hK
  case body =>
    intro l k W hk hI
    have hd : 1 ≤ 9 - 1 - 1 := by decide
    have HI := Aside0.mk hI
    have x2 : W.cell? ⟨z, 0, none⟩ = some (.pointer (some ⟨p, 0, none⟩)) := by rw [← HZ.out.1]; exact cellAt hI.sbox
    have HE := Aside0.mk (exec_k k hk W (glob_turn HG.out.1 HG.out.2.1 HG.out.2.2 hI.turn) p hI.shop)
    clear hI
    by_cases hk8 : k < 8
    · obtain ⟨r1, r2, hRe⟩ := rep_size k hk8
      have HO := Aside0.mk (outL_succ k hk8)
      obtain ⟨R, hR⟩ : ∃ R, repB k = R := ⟨_, rfl⟩
      rw [hR] at HE r1 r2 HO hRe
      have hadd : ∀ (W : World), (Op.stringOp .add R ⟨#[10]⟩).run Tryz.prog W = .ok (.string (R ++ ⟨#[10]⟩)) W := fun W => run_string_add_sum W _ _ (by show R.size + 1 ≤ 9223372036854775807; omega)
      have hsz : 0 < (R ++ ⟨#[10]⟩ : ByteArray).size ∧ (R ++ ⟨#[10]⟩ : ByteArray).size ≤ 100 := by
        rw [ByteArray.size_append, show (⟨#[10]⟩ : ByteArray).size = 1 from rfl]; omega
      have HSz := Aside0.mk hsz
      have HRR := Aside0.mk (And.intro hR (And.intro r1 r2))
      clear hR r1 r2 hsz
      gi_wp2_with (refine ⟨trivial, ?_⟩; gi_at_call 14; refine (CallsIn.inRound l (callsIn_wide.2 HE.out)).mono ?_; rintro e W1 ⟨rfl, hs1, ht1⟩; have HX1 := Aside0.mk (And.intro hs1 ht1); clear hs1 ht1)
      have HW := Aside0.mk (write_calls w.heap.size (z + 1) (outL k) (R ++ ⟨#[10]⟩) HSz.out.1 (by have h1 := outL_len k (by omega); have h2 := HSz.out.2; omega) W1 (HI.out.exec2 HX1.out.2) (by have h1 := HI.out.turn.size; have h2 := HX1.out.2.size; omega))
      refine ⟨trivial, ?_⟩
      gi_wp2_with (refine ⟨trivial, ?_⟩; gi_at_call 57; refine (CallsIn.inRound l (callsIn_wide.2 HW.out)).mono ?_; rintro e W2 ⟨rfl, hb2, hB2, ha2, hk2⟩; have HX2 := Aside0.mk (And.intro hb2 (And.intro hB2 (And.intro ha2 hk2))); clear hb2 hB2 ha2 hk2)
      have hr := HI.out.write HX1.out.1 HX1.out.2 (by rw [HO.out]; exact HX2.out.1) HX2.out.2.1 HX2.out.2.2.1
      obtain ⟨vs, va, vc, vm, vb, h0, _⟩ := HI.out.shop.at_
      exact ⟨(turn_keeps HX1.out.2 h0).trans (HX2.out.2.2.2.from _), hr.2, hr.1⟩
    · obtain rfl : k = 8 := by omega
      rw [outL_end.2.1, outL_end.2.2] at HE
      rw [outL_end.2.2]
      gi_wp2_with (refine ⟨trivial, ?_⟩; first | (gi_at_call 14; refine (CallsIn.inRound l (callsIn_wide.2 HE.out)).mono ?_; rintro e W1 ⟨rfl, hs1, ht1⟩; have HX1 := Aside0.mk (And.intro hs1 ht1); clear hs1 ht1) | (gi_at_call 56; refine (CallsIn.inRound l (callsIn_wide.2 (trim_none _))).mono ?_; rintro e W2 ⟨rfl, hb2⟩; have HX2 := Aside0.mk hb2; clear hb2))
      obtain ⟨vs, va, vc, vm, vb, h0, _⟩ := HI.out.shop.at_
      have hr := HI.out.exec HX1.out.1 HX1.out.2 outL_end.1
      have hk : ∀ c o, W.heap[c]? = some o → c ≠ p → W2.heap[c]? = W.heap[c]? := fun c o hc hne => by
        have h1 := HX1.out.2.blk hc hne
        rw [blk_below h1 HX2.out, hc]
      obtain ⟨s, hs⟩ := HI.out.text
      have hlo := HI.out.lo
      refine ⟨(turn_keeps HX1.out.2 h0).trans (below_keeps HX2.out), ?_, hr.below HX2.out⟩
      rintro c (rfl | rfl | rfl)
      · exact hk _ _ hs (by omega)
      · exact hk _ _ HI.out.sep (by omega)
      · exact hk _ _ HI.out.save (by omega)
  case done =>
    intro D W hD hI hK
    have hz := HZ.out
    have hlo := hI.lo
    have HI := Aside0.mk hI
    have HK := Aside0.mk hK
    have HS := Aside0.mk (Any.Builder_String_any_k Tryz.lays169 Tryz.Builder_Extra_169 w.heap.size (z + 1) (outL 9) W (Lib.IsBuilderF.of hI.bld.is) hI.turn.size)
    clear hI hK
    gi_wp2_with (refine ⟨trivial, ?_⟩; gi_at_call 58; refine (callsIn_wide.2 HS.out).mono ?_; rintro e W2 ⟨rfl, hF, hB2, hO2⟩; have HX2 := Aside0.mk (And.intro hB2 hO2); clear hF hB2 hO2)
    have hK2 := HX2.out.2 D _ HK.out (fun e => by injection e with e; omega) (fun _ _ e => by cases e)
    refine ⟨by simp, .inl ⟨_, _, rfl, run_takeDeferred hK2, ?_⟩⟩
    refine ⟨.string outRun, by simp [results, Tryz.results29, go_sem, outRun], rfl, ?_⟩
    have hg := grownBy_putObj' W2 D (.deferred none)
    have ht := HI.out.turn
    refine ⟨(hg.os.trans HX2.out.1.os).trans ht.os, (hg.tape.trans HX2.out.1.tape).trans ht.tape, (hg.output.trans HX2.out.1.output).trans ht.output, Nat.le_trans ht.size (Nat.le_trans HX2.out.1.size hg.size), fun j hj hne => ?_⟩
    rw [World.putObj_heap_other (by omega), HX2.out.1.block j hj]
    exact ht.block j hj hne
theorem textB_is : restB 0 = ⟨#[115, 105, 116, 32, 97, 110, 110, 32, 51, 10, 112, 97, 121, 32, 52, 32, 52, 10, 116, 105, 108, 108, 10, 115, 97, 121, 32, 33, 97, 10, 108, 105, 97, 114, 10, 97, 114, 99, 32, 48, 32, 48, 10, 115, 104, 97, 118, 101, 10, 116, 101, 108, 108, 32, 50, 49, 10]⟩ := by decide +kernel
theorem outRun_is : outRun = ⟨#[51, 10, 48, 10, 49, 32, 49, 32, 49, 10, 97, 10, 97, 10, 111, 107, 10, 110, 111, 110, 101, 10, 49, 10]⟩ := by decide +kernel
end Go.Proofs.YtldohjlcckbfaaaGreatDoor.Hand
