/- A part of the proof that pomadetop.TopTold returns true for every input: HandTd, HandTe, HandTf. No condition beyond those that each theorem states. -/
import Derived.Maps.Own
import Derived.Lib.AtoiErrMem
import Derived.OneCell
import Derived.Test.YtldohjlcckbfaaaGreatDoorK03
import Derived.Test.YtldohjlcckbfaaaGreatDoorK22
namespace Go.Proofs.YtldohjlcckbfaaaGreatDoor.Hand
open Go.RowKit Go.Proofs.YtldohjlcckbfaaaGreatDoorW.PrintWords Go.Proofs.YtldohjlcckbfaaaGreatDoorW.PrintLast Go.Proofs.YtldohjlcckbfaaaGreatDoorW.PrintMore
set_option linter.unusedVariables false
set_option linter.unusedSimpArgs false
open Go.Proofs.YtldohjlcckbfaaaGreatDoor.Pre
def chairsL (b : Bool) : List Value :=
  [.string ⟨#[]⟩, .int .i64 0, .int .i64 0, .string ⟨#[]⟩, .int .i64 0, .int .i64 0, .string ⟨#[]⟩, .int .i64 0, .int .i64 0] ++ (if b then [.string ⟨#[97, 110, 110]⟩, .int .i64 3, .int .i64 3] else [.string ⟨#[]⟩, .int .i64 0, .int .i64 0]) ++
  [.string ⟨#[]⟩, .int .i64 0, .int .i64 0, .string ⟨#[]⟩, .int .i64 0, .int .i64 0, .string ⟨#[]⟩, .int .i64 0, .int .i64 0, .string ⟨#[]⟩, .int .i64 0, .int .i64 0, .string ⟨#[]⟩, .int .i64 0, .int .i64 0, .string ⟨#[]⟩, .int .i64 0, .int .i64 0]
def shopC (b : Bool) (vs va vc vm vb : Value) : Array Value := (chairsL b ++ [.int .i64 (-1), .int .i64 0, vs, va, vc, vm, vb]).toArray
theorem chairs_len (b : Bool) : (chairsL b).length = 30 := by cases b <;> rfl
theorem chairs_one (b : Bool) : ∀ u ∈ chairsL b, u.oneCell' = true := by cases b <;> decide
/-- The row of a shop's parts, built: named, so that a walk does not lay it open. -/
def built64 (row : Array (Nat × Value)) := Instr.build 64 row
theorem built64_eq (row : Array (Nat × Value)) : Instr.build 64 row = built64 row := rfl
theorem build_shop (b : Bool) (A1 A2 A3 A4 A5 : Option Addr) (n1 n2 n3 n4 n5 c1 c2 c3 c4 c5 : Nat) (w : World) :
    (built64 #[(0, .agg (chairsL b).toArray), (1, .int .i64 (-1)), (2, .int .i64 0), (3, .slice A1 n1 c1), (4, .slice A2 n2 c2), (5, .slice A3 n3 c3), (6, .slice A4 n4 c4), (7, .slice A5 n5 c5)]).run Tryz.prog w = .ok (.agg (shopC b (.slice A1 n1 c1) (.slice A2 n2 c2) (.slice A3 n3 c3) (.slice A4 n4 c4) (.slice A5 n5 c5))) w := by
  cases b <;> exact run_build w 64 _ _ (by kernel_rfl)
structure Sh where
  b : Bool
  sents : List Value
  arcs : List Value
  narcs : Nat
  coins : List Value
  amts : List Value
  book : List Value
structure Sh.Ok (S : Sh) : Prop where
  sents : S.sents.length ≤ 10
  narcs : S.narcs ≤ 10
  coins : S.coins.length ≤ 10
  coin : 0 < S.coins.length
  amts : S.amts.length ≤ 10
  book : S.book.length ≤ 10
structure ShopAt (w : World) (p : Nat) (S : Sh) : Prop where
  ok : S.Ok
  at_ : ∃ vs va vc vm vb, w.heap[p]? = some (.cells (shopC S.b vs va vc vm vb) 64 (0, 0)) ∧ LAt w 1 vs S.sents S.sents.length ∧ LAt w 2 va S.arcs S.narcs ∧ LAt w 1 vc S.coins S.coins.length ∧ LAt w 1 vm S.amts S.amts.length ∧ LAt w 1 vb S.book S.book.length
structure ShopT (w : World) (p : Nat) (S : Sh) : Prop where
  ok : S.Ok
  at_ : ∃ vs va vc vm vb, w.heap[p]? = some (.cells (shopC S.b vs va vc vm vb) 64 (0, 0)) ∧ TAt w 1 vs S.sents S.sents.length ∧ TAt w 2 va S.arcs S.narcs ∧ TAt w 1 vc S.coins S.coins.length ∧ TAt w 1 vm S.amts S.amts.length ∧ TAt w 1 vb S.book S.book.length
theorem ShopT.loose {w : World} {p : Nat} {S : Sh} (h : ShopT w p S) : ShopAt w p S := by
  obtain ⟨vs, va, vc, vm, vb, h0, h1, h2, h3, h4, h5⟩ := h.at_
  exact ⟨h.ok, vs, va, vc, vm, vb, h0, h1.loose, h2.loose, h3.loose, h4.loose, h5.loose⟩
theorem ShopAt.below {w w' : World} {p : Nat} {S : Sh} (h : ShopAt w p S) (hb : Below w.heap.size w w') : ShopAt w' p S := by
  obtain ⟨vs, va, vc, vm, vb, h0, h1, h2, h3, h4, h5⟩ := h.at_
  exact ⟨h.ok, vs, va, vc, vm, vb, blk_below h0 hb, h1.below hb, h2.below hb, h3.below hb, h4.below hb, h5.below hb⟩
theorem ShopT.below {w w' : World} {p : Nat} {S : Sh} (h : ShopT w p S) (hb : Below w.heap.size w w') : ShopT w' p S := by
  obtain ⟨vs, va, vc, vm, vb, h0, h1, h2, h3, h4, h5⟩ := h.at_
  exact ⟨h.ok, vs, va, vc, vm, vb, blk_below h0 hb, h1.below hb, h2.below hb, h3.below hb, h4.below hb, h5.below hb⟩
theorem LAt.oneV {w : World} {size n : Nat} {v : Value} {xs : List Value} (h : LAt w size v xs n) : v.oneCell' = true := by
  rcases h.lies with ⟨rfl, _⟩ | ⟨g, c, rfl, _⟩ <;> rfl
def sh0 : Sh := ⟨false, [], [], 0, [.int .i64 1], [], []⟩
theorem sh0_ok : sh0.Ok := ⟨by decide, by decide, by decide, by decide, by decide, by decide⟩
set_option maxHeartbeats 2000000 in
set_option maxRecDepth 100000 in
theorem new_calls (w : World) :
    Calls Tryz.prog 10 #[] w fun e w' => ∃ p, e = .returned (.pointer (some ⟨p, 0, none⟩)) ∧ w.heap.size ≤ p ∧ ShopT w' p sh0 ∧ Below w.heap.size w w' := by
  go_enter Tryz.func10, Tryz.ntmps10
  go_wp2
  go_ret
  have q0 := heap_new w (Obj.cells #[Value.int .i64 1] 3)
  have b0 := below_alloc (Below.refl _ w) (Obj.cells #[Value.int .i64 1] 3)
  have z0 := size_alloc w (Obj.cells #[Value.int .i64 1] 3)
  obtain ⟨w1, e1⟩ : ∃ w1, w.alloc (Obj.cells #[Value.int .i64 1] 3) = w1 := ⟨_, rfl⟩
  rw [e1] at q0 b0 z0 ⊢
  rw [← z0]
  have q1 := heap_new w1 (Obj.cells (shopC false (.slice none 0 0) (.slice none 0 0) (.slice (some ⟨w.heap.size, 0, none⟩) 1 1) (.slice none 0 0) (.slice none 0 0)) 64)
  have q0 := heap_old w1 (Obj.cells (shopC false (.slice none 0 0) (.slice none 0 0) (.slice (some ⟨w.heap.size, 0, none⟩) 1 1) (.slice none 0 0) (.slice none 0 0)) 64) q0
  have b1 := below_alloc b0 (Obj.cells (shopC false (.slice none 0 0) (.slice none 0 0) (.slice (some ⟨w.heap.size, 0, none⟩) 1 1) (.slice none 0 0) (.slice none 0 0)) 64)
  refine ⟨w1.heap.size, rfl, by omega, ⟨sh0_ok, _, _, _, _, _, q1, TAt.nil _ _, TAt.nil _ _, ⟨rfl, by decide, .inr ⟨w.heap.size, rfl, by decide, by decide, ?_⟩⟩, TAt.nil _ _, TAt.nil _ _⟩, b1⟩
  have hx : ∀ j u, sh0.coins[j]? = some u → (w1.alloc (Obj.cells (shopC false (.slice none 0 0) (.slice none 0 0) (.slice (some ⟨w.heap.size, 0, none⟩) 1 1) (.slice none 0 0) (.slice none 0 0)) 64)).cell? ⟨w.heap.size, j, none⟩ = some u := by
    intro j u hj
    rw [blk_cell q0]
    simpa [sh0] using hj
  exact hx
set_option maxHeartbeats 2000000 in
set_option maxRecDepth 100000 in
theorem ok_calls (p : Nat) (S : Sh) (w : World) (h : ShopAt w p S) :
    Calls Tryz.prog 32 #[.pointer (some ⟨p, 0, none⟩)] w fun e w' => e = .returned (.bool true) ∧ w' = w := by
  obtain ⟨vs, va, vc, vm, vb, h0, _, _, h3, _⟩ := h.at_
  obtain ⟨A, c, rfl, hc⟩ := h3.slice
  have q := h.ok.coins
  have q0 := h.ok.coin
  have c5 : w.cell? ⟨p, 34, none⟩ = some (.slice A S.coins.length c) := by rw [blk_cell h0]; cases S.b <;> rfl
  obtain ⟨n, hn⟩ : ∃ n, S.coins.length = n := ⟨_, rfl⟩
  rw [hn] at c5 q q0
  clear h h0 h3 hn
  go_enter Tryz.func32, Tryz.ntmps32
  go_wp2
  have hd : decide (0 < (n : Int)) = true := decide_eq_true (by omega)
  go_ret
  exact ⟨by simp [hd], rfl⟩
theorem TAt.slice {w : World} {size n : Nat} {v : Value} {xs : List Value} (h : TAt w size v xs n) : ∃ A, v = .slice A n n := by
  rcases h.lies with ⟨rfl, rfl⟩ | ⟨g, rfl, _⟩ <;> exact ⟨_, rfl⟩
attribute [local go_sem ↓] built64_eq   -- for this text's walks alone
set_option maxHeartbeats 4000000 in
set_option maxRecDepth 100000 in
theorem copy_calls (p : Nat) (S : Sh) (w : World) (h : ShopAt w p S) :
    Calls Tryz.prog 280 #[.pointer (some ⟨p, 0, none⟩)] w fun e w' => ∃ q, e = .returned (.pointer (some ⟨q, 0, none⟩)) ∧ w.heap.size ≤ q ∧ ShopT w' q S ∧ Below w.heap.size w w' := by
  have HOK := Aside0.mk (ok_calls p S w h)
  have HSO := Aside0.mk h.ok
  obtain ⟨vs, va, vc, vm, vb, h0, h1, h2, h3, h4, h5⟩ := h.at_
  have H1 := Aside0.mk (fun W hb => own_strings vs S.sents S.sents.length (by have := HSO.out.sents; omega) W (h1.below hb))
  have H2 := Aside0.mk (fun W hb => own_pairs va S.arcs S.narcs (by have := HSO.out.narcs; omega) W (h2.below hb))
  have H3 := Aside0.mk (fun W hb => own_ints vc S.coins S.coins.length (by have := HSO.out.coins; omega) W (h3.below hb))
  have H4 := Aside0.mk (fun W hb => own_ints vm S.amts S.amts.length (by have := HSO.out.amts; omega) W (h4.below hb))
  have H5 := Aside0.mk (fun W hb => own_strings vb S.book S.book.length (by have := HSO.out.book; omega) W (h5.below hb))
  have hu : Tryz.prog.underlying 60 = some (.array 10 59) := by kernel_rfl
  have hi : (Tryz.prog.info? 60).map (·.size) = some (chairsL S.b).length := by rw [chairs_len]; kernel_rfl
  have x0 : w.drew.rangeAt p 0 (chairsL S.b) := by
    intro j v hj
    rw [Nat.zero_add, show w.drew.cell? ⟨p, j, none⟩ = w.cell? ⟨p, j, none⟩ from rfl, blk_cell h0]
    unfold shopC
    have hlt : j < (chairsL S.b).length := by rw [List.getElem?_eq_some_iff] at hj; exact hj.1
    rw [List.getElem?_toArray, List.getElem?_append_left hlt]
    exact hj
  have x1 : w.drew.cell? ⟨p, 30, none⟩ = some (.int .i64 (-1)) := by show w.cell? _ = _; rw [blk_cell h0]; cases S.b <;> rfl
  have x2 : w.drew.cell? ⟨p, 31, none⟩ = some (.int .i64 0) := by show w.cell? _ = _; rw [blk_cell h0]; cases S.b <;> rfl
  have x3 : w.drew.cell? ⟨p, 32, none⟩ = some vs := by show w.cell? _ = _; rw [blk_cell h0]; cases S.b <;> rfl
  have x4 : w.drew.cell? ⟨p, 33, none⟩ = some va := by show w.cell? _ = _; rw [blk_cell h0]; cases S.b <;> rfl
  have x5 : w.drew.cell? ⟨p, 34, none⟩ = some vc := by show w.cell? _ = _; rw [blk_cell h0]; cases S.b <;> rfl
  have x6 : w.drew.cell? ⟨p, 35, none⟩ = some vm := by show w.cell? _ = _; rw [blk_cell h0]; cases S.b <;> rfl
  have x7 : w.drew.cell? ⟨p, 36, none⟩ = some vb := by show w.cell? _ = _; rw [blk_cell h0]; cases S.b <;> rfl
  have HB0 := Aside0.mk (below_drew (Below.refl w.heap.size w))
  obtain ⟨A1, c1, rfl, _⟩ := h1.slice
  obtain ⟨A2, c2, rfl, _⟩ := h2.slice
  obtain ⟨A3, c3, rfl, _⟩ := h3.slice
  obtain ⟨A4, c4, rfl, _⟩ := h4.slice
  obtain ⟨A5, c5, rfl, _⟩ := h5.slice
  have rr : ∀ {W W' : World}, Below W.heap.size W W' → W.rangeAt p 0 (chairsL S.b) → W'.rangeAt p 0 (chairsL S.b) := fun hb hr j v hj => pw_cell_below hb (hr j v hj)
  have RR := Aside0.mk @rr
  have hbd := build_shop S.b
  clear h h0 h1 h2 h3 h4 h5 rr
  go_enter Tryz.func280, Tryz.ntmps280
  go_wp2_with (go_at_call 32; refine HOK.out.mono ?_; rintro e w0 ⟨rfl, rfl⟩)
  go_region_held3 (fun w' => w'.rangeAt p 0 (chairsL S.b) ∧ w'.cell? ⟨p, 30, none⟩ = some (.int .i64 (-1)) ∧ w'.cell? ⟨p, 31, none⟩ = some (.int .i64 0) ∧ w'.cell? ⟨p, 32, none⟩ = some (.slice A1 S.sents.length c1) ∧ w'.cell? ⟨p, 33, none⟩ = some (.slice A2 S.narcs c2) ∧ w'.cell? ⟨p, 34, none⟩ = some (.slice A3 S.coins.length c3) ∧ w'.cell? ⟨p, 35, none⟩ = some (.slice A4 S.amts.length c4) ∧ w'.cell? ⟨p, 36, none⟩ = some (.slice A5 S.book.length c5)) (first | (exact ⟨x0, x1, x2, x3, x4, x5, x6, x7⟩) | (exact ⟨y0, y1, y2, y3, y4, y5, y6, y7⟩) | (exact ⟨RR.out (below_alloc (Below.refl _ _) _) y0, pw_cell_below (below_alloc (Below.refl _ _) _) y1, pw_cell_below (below_alloc (Below.refl _ _) _) y2, pw_cell_below (below_alloc (Below.refl _ _) _) y3, pw_cell_below (below_alloc (Below.refl _ _) _) y4, pw_cell_below (below_alloc (Below.refl _ _) _) y5, pw_cell_below (below_alloc (Below.refl _ _) _) y6, pw_cell_below (below_alloc (Below.refl _ _) _) y7⟩)) (first | ((with_reducible refine (H1.out _ HB0.out).mono ?_); rintro e W1 ⟨v1, rfl, ht, hb⟩; obtain ⟨B1, rfl⟩ := ht.slice; have HB1 := Aside0.mk (HB0.out.trans (hb.mono HB0.out.size)); have T1 := Aside0.mk ht; have hB1 := Aside0.mk hb; have y0 := RR.out hb (by first | exact x0 | exact y0); have y1 := pw_cell_below hb (by first | exact y1 | exact x1); have y2 := pw_cell_below hb (by first | exact y2 | exact x2); have y3 := pw_cell_below hb (by first | exact y3 | exact x3); have y4 := pw_cell_below hb (by first | exact y4 | exact x4); have y5 := pw_cell_below hb (by first | exact y5 | exact x5); have y6 := pw_cell_below hb (by first | exact y6 | exact x6); have y7 := pw_cell_below hb (by first | exact y7 | exact x7); clear ht hb) | ((with_reducible refine (H2.out _ HB1.out).mono ?_); rintro e W2 ⟨v2, rfl, ht, hb⟩; obtain ⟨B2, rfl⟩ := ht.slice; have HB2 := Aside0.mk (HB1.out.trans (hb.mono HB1.out.size)); have T2 := Aside0.mk ht; have hB2 := Aside0.mk hb; have y0 := RR.out hb (by first | exact x0 | exact y0); have y1 := pw_cell_below hb (by first | exact y1 | exact x1); have y2 := pw_cell_below hb (by first | exact y2 | exact x2); have y3 := pw_cell_below hb (by first | exact y3 | exact x3); have y4 := pw_cell_below hb (by first | exact y4 | exact x4); have y5 := pw_cell_below hb (by first | exact y5 | exact x5); have y6 := pw_cell_below hb (by first | exact y6 | exact x6); have y7 := pw_cell_below hb (by first | exact y7 | exact x7); clear ht hb) | ((with_reducible refine (H3.out _ HB2.out).mono ?_); rintro e W3 ⟨v3, rfl, ht, hb⟩; obtain ⟨B3, rfl⟩ := ht.slice; have HB3 := Aside0.mk (HB2.out.trans (hb.mono HB2.out.size)); have T3 := Aside0.mk ht; have hB3 := Aside0.mk hb; have y0 := RR.out hb (by first | exact x0 | exact y0); have y1 := pw_cell_below hb (by first | exact y1 | exact x1); have y2 := pw_cell_below hb (by first | exact y2 | exact x2); have y3 := pw_cell_below hb (by first | exact y3 | exact x3); have y4 := pw_cell_below hb (by first | exact y4 | exact x4); have y5 := pw_cell_below hb (by first | exact y5 | exact x5); have y6 := pw_cell_below hb (by first | exact y6 | exact x6); have y7 := pw_cell_below hb (by first | exact y7 | exact x7); clear ht hb) | ((with_reducible refine (H4.out _ HB3.out).mono ?_); rintro e W4 ⟨v4, rfl, ht, hb⟩; obtain ⟨B4, rfl⟩ := ht.slice; have HB4 := Aside0.mk (HB3.out.trans (hb.mono HB3.out.size)); have T4 := Aside0.mk ht; have hB4 := Aside0.mk hb; have y0 := RR.out hb (by first | exact x0 | exact y0); have y1 := pw_cell_below hb (by first | exact y1 | exact x1); have y2 := pw_cell_below hb (by first | exact y2 | exact x2); have y3 := pw_cell_below hb (by first | exact y3 | exact x3); have y4 := pw_cell_below hb (by first | exact y4 | exact x4); have y5 := pw_cell_below hb (by first | exact y5 | exact x5); have y6 := pw_cell_below hb (by first | exact y6 | exact x6); have y7 := pw_cell_below hb (by first | exact y7 | exact x7); clear ht hb) | ((with_reducible refine (H5.out _ HB4.out).mono ?_); rintro e W5 ⟨v5, rfl, ht, hb⟩; obtain ⟨B5, rfl⟩ := ht.slice; have HB5 := Aside0.mk (HB4.out.trans (hb.mono HB4.out.size)); have T5 := Aside0.mk ht; have hB5 := Aside0.mk hb; have y0 := RR.out hb (by first | exact x0 | exact y0); have y1 := pw_cell_below hb (by first | exact y1 | exact x1); have y2 := pw_cell_below hb (by first | exact y2 | exact x2); have y3 := pw_cell_below hb (by first | exact y3 | exact x3); have y4 := pw_cell_below hb (by first | exact y4 | exact x4); have y5 := pw_cell_below hb (by first | exact y5 | exact x5); have y6 := pw_cell_below hb (by first | exact y6 | exact x6); have y7 := pw_cell_below hb (by first | exact y7 | exact x7); clear ht hb))
  clear hbd
  go_wp2
  go_ret
  have s1 := (((T1.out.below hB2.out).below hB3.out).below hB4.out).below hB5.out
  have s2 := ((T2.out.below hB3.out).below hB4.out).below hB5.out
  have s3 := (T3.out.below hB4.out).below hB5.out
  have s4 := T4.out.below hB5.out
  have s5 := T5.out
  have bA : ∀ o, Below W5.heap.size W5 (W5.alloc o) := fun o => below_alloc (Below.refl _ _) o
  refine ⟨_, rfl, HB5.out.size, ⟨HSO.out, _, _, _, _, _, heap_new _ _, s1.below (bA _), s2.below (bA _), s3.below (bA _), s4.below (bA _), s5.below (bA _)⟩, below_alloc HB5.out _⟩
end Go.Proofs.YtldohjlcckbfaaaGreatDoor.Hand
namespace Go.Proofs.YtldohjlcckbfaaaGreatDoor.Hand
open Go.RowKit Go.Proofs.YtldohjlcckbfaaaGreatDoorW.PrintWords Go.Proofs.YtldohjlcckbfaaaGreatDoorW.PrintLast Go.Proofs.YtldohjlcckbfaaaGreatDoorW.PrintMore
set_option linter.unusedVariables false
set_option linter.unusedSimpArgs false
open Go.Proofs.YtldohjlcckbfaaaGreatDoor.Pre
def verbT : List (ByteArray × Array Value) := [
  (⟨#[115, 105, 116]⟩, #[.string ⟨#[110, 105]⟩, .int .i64 0, .int .i64 0, .int .u8 0, .int .i64 0, .bool true, .func (.func 107) #[] #[]]),
  (⟨#[114, 105, 115, 101]⟩, #[.string ⟨#[110]⟩, .int .i64 0, .int .i64 0, .int .u8 0, .int .i64 0, .bool true, .func (.func 108) #[] #[]]),
  (⟨#[99, 97, 108, 108]⟩, #[.string ⟨#[105]⟩, .int .i64 0, .int .i64 0, .int .u8 0, .int .i64 0, .bool true, .func (.func 109) #[] #[]]),
  (⟨#[99, 111, 105, 110]⟩, #[.string ⟨#[105]⟩, .int .i64 0, .int .i64 0, .int .u8 0, .int .i64 0, .bool true, .func (.func 110) #[] #[]]),
  (⟨#[112, 97, 121]⟩, #[.string ⟨#[105, 105]⟩, .int .i64 0, .int .i64 0, .int .u8 0, .int .i64 0, .bool true, .func (.func 111) #[] #[]]),
  (⟨#[116, 97, 107, 101]⟩, #[.string ⟨#[105]⟩, .int .i64 0, .int .i64 0, .int .u8 0, .int .i64 0, .bool true, .func (.func 112) #[] #[]]),
  (⟨#[115, 97, 121]⟩, #[.string ⟨#[119]⟩, .int .i64 0, .int .i64 0, .int .u8 0, .int .i64 0, .bool true, .func (.func 113) #[] #[]]),
  (⟨#[97, 114, 99]⟩, #[.string ⟨#[105, 105]⟩, .int .i64 0, .int .i64 0, .int .u8 0, .int .i64 0, .bool true, .func (.func 114) #[] #[]]),
  (⟨#[99, 104, 97, 105, 114, 115]⟩, #[.string ⟨#[]⟩, .int .i64 0, .int .i64 0, .int .u8 0, .int .i64 0, .bool false, .func (.func 115) #[] #[]]),
  (⟨#[111, 114, 100, 101, 114]⟩, #[.string ⟨#[105]⟩, .int .i64 0, .int .i64 0, .int .u8 0, .int .i64 0, .bool false, .func (.func 116) #[] #[]]),
  (⟨#[99, 104, 97, 110, 103, 101]⟩, #[.string ⟨#[105]⟩, .int .i64 0, .int .i64 0, .int .u8 0, .int .i64 0, .bool false, .func (.func 117) #[] #[]]),
  (⟨#[116, 105, 108, 108]⟩, #[.string ⟨#[]⟩, .int .i64 0, .int .i64 0, .int .u8 0, .int .i64 0, .bool false, .func (.func 118) #[] #[]]),
  (⟨#[116, 114, 117, 116, 104]⟩, #[.string ⟨#[]⟩, .int .i64 0, .int .i64 0, .int .u8 0, .int .i64 0, .bool false, .func (.func 119) #[] #[]]),
  (⟨#[108, 105, 97, 114]⟩, #[.string ⟨#[]⟩, .int .i64 0, .int .i64 0, .int .u8 0, .int .i64 0, .bool false, .func (.func 120) #[] #[]]),
  (⟨#[115, 104, 97, 118, 101]⟩, #[.string ⟨#[]⟩, .int .i64 0, .int .i64 0, .int .u8 0, .int .i64 0, .bool false, .func (.func 121) #[] #[]]),
  (⟨#[116, 101, 108, 108]⟩, #[.string ⟨#[119]⟩, .int .i64 0, .int .i64 0, .int .u8 0, .int .i64 0, .bool false, .func (.func 122) #[] #[]]),
  (⟨#[112, 108, 97, 105, 116]⟩, #[.string ⟨#[105]⟩, .int .i64 1, .int .i64 20, .int .u8 105, .int .i64 0, .bool false, .func (.func 123) #[] #[]]),
  (⟨#[114, 111, 97, 100, 115]⟩, #[.string ⟨#[119, 119]⟩, .int .i64 0, .int .i64 0, .int .u8 0, .int .i64 0, .bool false, .func (.func 124) #[] #[]]),
  (⟨#[104, 101, 120]⟩, #[.string ⟨#[119]⟩, .int .i64 0, .int .i64 0, .int .u8 0, .int .i64 0, .bool false, .func (.func 125) #[] #[]]),
  (⟨#[97, 117, 100, 105, 116]⟩, #[.string ⟨#[]⟩, .int .i64 0, .int .i64 0, .int .u8 0, .int .i64 0, .bool false, .func (.func 126) #[] #[]])]
def esOf (m k : Nat) : Array MapEntry := (((verbT.take k).zipIdx).map fun p => (⟨.string p.1.1, .pointer (some ⟨m + 1 + p.2, 0, none⟩), p.2⟩ : MapEntry)).toArray
structure VerbsAt (W : World) (m k : Nat) : Prop where
  map : W.heap[m]? = some (.map (esOf m k) k)
  size : W.heap.size = m + 1 + k
  verb : ∀ i p, verbT[i]? = some p → i < k → W.heap[m + 1 + i]? = some (.cells p.2 127 (0, 0))
theorem esOf_succ (m k : Nat) (p : ByteArray × Array Value) (h : verbT[k]? = some p) : esOf m (k + 1) = (esOf m k).push ⟨.string p.1, .pointer (some ⟨m + 1 + k, 0, none⟩), k⟩ := by
  unfold esOf
  rw [List.take_add_one, h, Option.toList_some, List.zipIdx_append, List.map_append]
  have hl : (verbT.take k).length = k := by
    have := (List.getElem?_eq_some_iff.1 h).1
    rw [List.length_take]; omega
  simp [hl]
theorem run_insert_new {W : World} {m : Nat} {es : Array MapEntry} {clock : Nat} (hb : W.heap[m]? = some (.map es clock)) (key : ByteArray) (val : Value) (hf : Instr.findNow .string (.string key) es.toList 0 = some none) :
    (Instr.mapUpdate 123 (.map (some m)) (.string key) val).run Tryz.prog W = .ok () (ChangeMaps.setBlock W m (.map (es.push ⟨.string key, val, clock⟩) (clock + 1))) := by
  have hk : (Instr.checkKey false 10000 9 (.string key)).run Tryz.prog W = .ok () W := by
    unfold Instr.checkKey
    rw [Sem.run_bind, run_underlying Tryz.underlying9]
    rfl
  simp [Instr.mapUpdate, run_underlying Tryz.underlying123, run_underlying Tryz.underlying9, MapKept.run_getObj_map hb, hk, Instr.findKey, hf, MapKept.run_setObj_map _ hb, Result.andThen, ChangeMaps.setBlock]
theorem wpList_insert_verb {W : World} {m k : Nat} (h : VerbsAt W m k) {B : Nat} {w0 : World} (hB : Below B w0 W) (hBm : B ≤ m) (hs : w0.heap.size ≤ m) (key : ByteArray) (cs : Array Value) (hk : verbT[k]? = some (key, cs))
    (hf : Instr.findNow .string (.string key) (esOf m k).toList 0 = some none)
    {ops : Array Oper} {rest : List Oper} {o : Oper} {a : Act} {Q : Exit → Act → World → Prop} (hg : o.guard = none) (x y z : Operand) (hop : o.op = Op.insert 123 x y z) (hx : a.eval x = .map (some m)) (hy : a.eval y = .string key)
    (hz : a.eval z = .pointer (some ⟨W.heap.size, 0, none⟩))
    (hK : ∀ W', VerbsAt W' m (k + 1) → Below B w0 W' → wpList Tryz.prog ops Q rest (a.put o.dst undef) W') :
    wpList Tryz.prog ops Q (o :: rest) a (W.alloc (.cells cs 127)) := by
  refine wpList_plain hg fun K' hK' => ?_
  have hb := heap_old W (.cells cs 127) h.map
  have hn := heap_new W (.cells cs 127)
  rw [h.size] at hz
  have hrun := run_insert_new hb key (.pointer (some ⟨m + 1 + k, 0, none⟩)) hf
  have hsz := h.size
  unfold Oper.wp
  simp [execOp, hop, hx, hy, hz, hrun, Result.andThen]
  refine hK' _ _ (hK _ ⟨?_, ?_, ?_⟩ ?_)
  · rw [ChangeMaps.heap_setBlock_same hb, esOf_succ m k _ hk]
  · simp [ChangeMaps.setBlock, hsz]; omega
  · intro i p hi hik
    rw [ChangeMaps.heap_setBlock_other hb _ (by omega)]
    by_cases he : i = k
    · subst he
      rw [hk] at hi
      cases hi
      rw [← hsz]
      exact hn
    · exact heap_old W _ (h.verb i p hi (by omega))
  · have hA := hB.alloc (Nat.le_trans hB.size (Nat.le_refl _) |> fun _ => by omega) (.cells cs 127)
    refine hA.grown (row := some m) ⟨rfl, rfl, rfl, by simp [ChangeMaps.setBlock], fun i _ hi => ChangeMaps.heap_setBlock_other hb _ (fun e => hi (by rw [e]))⟩ ?_ ?_
    · simp; omega
    · intro j hj; cases hj; exact hBm
theorem wpList_make_verbs (w : World) {ops : Array Oper} {rest : List Oper} {o : Oper} {a : Act} {Q : Exit → Act → World → Prop} (hg : o.guard = none) (hop : o.op = Op.makeMap 123 none)
    (hK : ∀ W', VerbsAt W' w.heap.size 0 → Below w.heap.size w W' → wpList Tryz.prog ops Q rest (a.put o.dst (.map (some w.heap.size))) W') :
    wpList Tryz.prog ops Q (o :: rest) a w := by
  refine wpList_plain hg fun K' hK' => ?_
  have hrun := run_makeMap (P := Tryz.prog) 123 w
  unfold Oper.wp
  simp [execOp, hop, hrun, Result.andThen]
  exact hK' _ _ (hK _ ⟨heap_new _ _, size_alloc _ _, fun i p _ hi => absurd hi (Nat.not_lt_zero _)⟩ (below_alloc (Below.refl _ w) (.map #[] 0)))
set_option maxHeartbeats 4000000 in
set_option maxRecDepth 100000 in
theorem verbs_calls (w : World) :
    Calls Tryz.prog 68 #[] w fun e w' => ∃ m, e = .returned (.map (some m)) ∧ w.heap.size ≤ m ∧ VerbsAt w' m 20 ∧ Below w.heap.size w w' := by
  go_enter Tryz.func68, Tryz.ntmps68
  go_wp2_with (first | (refine wpList_make_verbs w rfl rfl ?_; intro W1 hv hb; have HV := Aside0.mk hv; have HB := Aside0.mk hb; clear hv hb) | (refine wpList_insert_verb HV.out HB.out (Nat.le_refl _) (Nat.le_refl _) _ _ rfl (by kernel_rfl) rfl _ _ _ rfl rfl rfl rfl ?_; clear HV HB; intro W1 hv hb; have HV := Aside0.mk hv; have HB := Aside0.mk hb; clear hv hb))
  go_ret
  exact ⟨_, rfl, Nat.le_refl _, HV.out, HB.out⟩
end Go.Proofs.YtldohjlcckbfaaaGreatDoor.Hand
namespace Go.Proofs.YtldohjlcckbfaaaGreatDoor.Hand
open Go.RowKit Go.Proofs.YtldohjlcckbfaaaGreatDoorW.PrintWords Go.Proofs.YtldohjlcckbfaaaGreatDoorW.PrintLast Go.Proofs.YtldohjlcckbfaaaGreatDoorW.PrintMore
set_option linter.unusedVariables false
set_option linter.unusedSimpArgs false
open Go.Proofs.YtldohjlcckbfaaaGreatDoor.Pre
open TopWords
theorem itoaB_list (n : Int) : (itoaB n).data.toList = Lib.itoa n := by simp [itoaB]
theorem itoaB_size (n : Int) (h1 : -1125899906842624 ≤ n) (h2 : n ≤ 1125899906842624) : (itoaB n).size ≤ 17 := by
  have := itoa_len (n := n) (k := 16) (by decide) (by omega) (by omega)
  show (Lib.itoa n).toArray.size ≤ 17
  simpa using this
set_option maxHeartbeats 2000000 in
set_option maxRecDepth 100000 in
theorem number_calls (n : Int) (h1 : -1125899906842624 ≤ n) (h2 : n ≤ 1125899906842624) (w : World) (hG : Glob w) :
    Calls Tryz.prog 127 #[.string (itoaB n)] w fun e w' => e = .returned (.tuple #[.int .i64 n, .bool true]) ∧ Below w.heap.size w w' := by
  have HA := Aside0.mk (Tryz.strconv_Atoi (itoaB n) n (Nat.le_trans (itoaB_size n h1 h2) (by decide)) (by rw [itoaB_list]; exact atoi_itoa n) w)
  have HI := Aside0.mk (fun W hb => itoa_calls n (by omega) (by omega) W (hG.below hb))
  obtain ⟨s, hs⟩ : ∃ s, itoaB n = s := ⟨_, rfl⟩
  rw [hs] at HA HI ⊢
  have d1 : decide (-1125899906842624 ≤ n) = true := decide_eq_true h1
  have d2 : decide (n ≤ 1125899906842624) = true := decide_eq_true h2
  clear hG hs
  go_enter Tryz.func127, Tryz.ntmps127
  go_wp2_with (first | (go_at_call 168; refine HA.out.mono ?_; rintro e w1 ⟨rfl, t, rfl⟩; have hb1 := Aside0.mk (Lib.bytesWorld_below w 5 t)) | (go_at_call 71; refine (HI.out _ hb1.out).mono ?_; rintro e w2 ⟨rfl, hb2⟩; have HB := Aside0.mk (hb1.out.trans (hb2.mono hb1.out.size)); clear hb2))
  exact bodyPost_ret (v := .tuple #[.int .i64 n, .bool true]) (by simp [results, Tryz.results127, go_sem]) rfl ⟨rfl, HB.out⟩
theorem own_kind {w : World} {B e n : Nat} {v : Value} {xs : List Value} (h : w.ownsRow B e 1 v n xs) {g : Nat} (hg : v.ownBlock = some g) : ∃ c fz, w.heap[g]? = some (.cells c e fz) := by
  rcases h.2 with ⟨rfl, _⟩ | ⟨g', cap, cur, rfl, _, hh, _⟩
  · simp [Value.ownBlock] at hg
  · simp only [Value.ownBlock, Option.some.injEq] at hg
    subst hg
    exact ⟨_, _, hh⟩
theorem own_apart {w : World} {B B' e e' n n' : Nat} {v v' : Value} {xs xs' : List Value} (hne : e ≠ e') (h : w.ownsRow B e 1 v n xs) (h' : w.ownsRow B' e' 1 v' n' xs') : v.ownBlock = none ∨ v.ownBlock ≠ v'.ownBlock := by
  cases hv : v.ownBlock with
  | none => exact .inl rfl
  | some g =>
    refine .inr fun he => ?_
    obtain ⟨c, fz, h1⟩ := own_kind h hv
    obtain ⟨c', fz', h2⟩ := own_kind h' he.symm
    rw [h1] at h2
    simp at h2
    exact hne h2.2.1
theorem own_not {w : World} {B e n a t : Nat} {v : Value} {xs cs : _} {fz : Nat × Nat} (hne : e ≠ t) (h : w.ownsRow B e 1 v n xs) (ha : w.heap[a]? = some (.cells cs t fz)) : some a ≠ v.ownBlock := by
  intro he
  obtain ⟨c, f, h1⟩ := own_kind h he.symm
  rw [h1] at ha
  simp at ha
  exact hne ha.2.1
structure ArgsN (w : World) (B a : Nat) (N : List Int) (nm : List ByteArray) (line : ByteArray) : Prop where
  ge : B ≤ a
  at_ : ∃ v0 v1, w.heap[a]? = some (.cells #[v0, v1, .slice none 0 0, .string line] 129 (0, 0)) ∧ w.ownsRow B 3 1 v0 N.length (nums .i64 N) ∧ w.ownsRow B 9 1 v1 nm.length (nm.map .string)
structure ArgsW (w : World) (B a : Nat) (ws : List ByteArray) (line : ByteArray) : Prop where
  ge : B ≤ a
  at_ : ∃ v2, w.heap[a]? = some (.cells #[.slice none 0 0, .slice none 0 0, v2, .string line] 129 (0, 0)) ∧ w.ownsRow B 9 1 v2 ws.length (ws.map .string)
theorem nums_snoc (N : List Int) (n : Int) : nums .i64 (N ++ [n]) = nums .i64 N ++ [.int .i64 n] := by simp [nums]
set_option maxHeartbeats 2000000 in
set_option maxRecDepth 100000 in
theorem take_i (B a : Nat) (N : List Int) (nm : List ByteArray) (line : ByteArray) (hN : N.length ≤ 100) (n : Int) (h1 : -1125899906842624 ≤ n) (h2 : n ≤ 1125899906842624) (w : World) (hG : Glob w) (hB : B ≤ w.heap.size) (h : ArgsN w B a N nm line) :
    Calls Tryz.prog 69 #[.pointer (some ⟨a, 0, none⟩), .int .u8 105, .string (itoaB n)] w fun e w' => e = .returned (.bool true) ∧ ArgsN w' B a (N ++ [n]) nm line ∧ Below B w w' := by
  have HN := Aside0.mk (number_calls n h1 h2 w hG)
  obtain ⟨hge, v0, v1, ha, ho0, ho1⟩ := h
  have hal := blk_lt ha
  obtain ⟨s, hs⟩ : ∃ s, itoaB n = s := ⟨_, rfl⟩
  rw [hs] at HN ⊢
  have info3 : (Tryz.prog.info? 3).map (fun i => (i.zero, i.size, i.bytes)) = some (some (.int .i64 0), 1, 8) := by kernel_rfl
  obtain ⟨i0, hi0, hz0, hz1, hz2⟩ := info_parts info3
  have c0 : w.cell? ⟨a, 0, none⟩ = some v0 := by rw [blk_cell ha]; rfl
  have HA := Aside0.mk ha
  have HO0 := Aside0.mk ho0
  have HO1 := Aside0.mk ho1
  have HGE := Aside0.mk hge
  have HBH := Aside0.mk hB
  clear hs hG ha ho0 ho1 info3 hge hB
  go_enter Tryz.func69, Tryz.ntmps69
  go_wp2_with (first | (go_at_call 127; refine HN.out.mono ?_; rintro e w1 ⟨rfl, hb1⟩; have HB1 := Aside0.mk hb1; have A1 := Aside0.mk (blk_below HA.out hb1); have P0 := Aside0.mk (pw_own_below HO0.out hb1); have P1 := Aside0.mk (pw_own_below HO1.out hb1); have c1 := pw_cell_below hb1 c0; clear hb1 c0) | (at_builtin; refine wpList_append_own _ rfl _ _ 22 rfl B 3 i0 (.int .i64 0) 1 8 Tryz.underlying22 hi0 hz0 hz1 hz2 rfl (by decide) v0 _ _ rfl (P0.out.alloc _) ⟨w1.heap.size, 0, none⟩ 1 1 [.int .i64 n] rfl rfl ?c1 ?c2 ?c3 ?c4 ?c5 ?_))
  case c1 => intro j u hj; rw [Addr.add_lit, Nat.zero_add, blk_cell (heap_new w1 _)]; simpa using hj
  case c2 => intro u hu; rw [List.mem_singleton] at hu; subst hu; rfl
  case c3 => simp only [maxLen]; omega
  case c4 => omega
  case c5 => have q := HB1.out.size; have q2 := HBH.out; simp only [size_alloc]; omega
  intro v' w2 hown hgrow hiff
  obtain ⟨g, cap, rfl, _, _⟩ := hown.form (by omega)
  have A1a := blk_alloc A1.out (Obj.cells #[Value.int .i64 n] 3)
  have A2 := Aside0.mk (show w2.heap[a]? = some (.cells #[v0, v1, .slice none 0 0, .string line] 129 (0, 0)) from (hgrow.block a (blk_lt A1a) (own_not (by decide) P0.out A1.out)).trans A1a)
  have P2 := Aside0.mk ((P1.out.alloc (Obj.cells #[Value.int .i64 n] 3)).kept hgrow (own_apart (by decide) P1.out P0.out))
  have HO := Aside0.mk hown
  have HB2 := Aside0.mk (show Below B w w2 from ((HB1.out.mono HBH.out).alloc (Nat.le_trans HBH.out HB1.out.size) (Obj.cells #[Value.int .i64 n] 3)).grown hgrow (by have q := HB1.out.size; have q2 := HBH.out; simp only [size_alloc]; omega) (fun k hk => by
    rcases P0.out.2 with ⟨e, _⟩ | ⟨g, cap, cur, e, hbg, _⟩
    · rw [e] at hk; simp [Value.ownBlock] at hk
    · rw [e] at hk; simp only [Value.ownBlock, Option.some.injEq] at hk; omega))
  have q2 := blk_frozen A2.out 0
  have q3 : w2.cell? ⟨a, 0, none⟩ = some v0 := by rw [blk_cell A2.out]; rfl
  clear hgrow hown hiff A1a c1
  go_wp2
  go_ret
  refine ⟨rfl, ⟨HGE.out, .slice (some ⟨g, 0, none⟩) (N.length + 1) cap, v1, ?_, ?_, ?_⟩, HB2.out.setCell HGE.out _⟩
  · rw [heap_setCell_same _ _ _ _ _ _ A2.out]; rfl
  · rw [nums_snoc, List.length_append]
    exact ownsRow_setCell_other HO.out (fun e => own_not (by decide) HO.out A2.out e.symm) _
  · exact ownsRow_setCell_other P2.out (fun e => own_not (by decide) P2.out A2.out e.symm) _
set_option maxHeartbeats 2000000 in
set_option maxRecDepth 100000 in
theorem take_w (B a : Nat) (ws : List ByteArray) (line : ByteArray) (hN : ws.length ≤ 100) (s : ByteArray) (w : World) (hB : B ≤ w.heap.size) (h : ArgsW w B a ws line) :
    Calls Tryz.prog 69 #[.pointer (some ⟨a, 0, none⟩), .int .u8 119, .string s] w fun e w' => e = .returned (.bool true) ∧ ArgsW w' B a (ws ++ [s]) line ∧ Below B w w' := by
  obtain ⟨hge, v2, ha, ho0⟩ := h
  have hal := blk_lt ha
  have info9 : (Tryz.prog.info? 9).map (fun i => (i.zero, i.size, i.bytes)) = some (some (.string ByteArray.empty), 1, 16) := by kernel_rfl
  obtain ⟨i0, hi0, hz0, hz1, hz2⟩ := info_parts info9
  have c0 : w.cell? ⟨a, 2, none⟩ = some v2 := by rw [blk_cell ha]; rfl
  have HA := Aside0.mk ha
  have HO0 := Aside0.mk ho0
  have HGE := Aside0.mk hge
  have HBH := Aside0.mk hB
  clear ha ho0 info9 hge hB
  go_enter Tryz.func69, Tryz.ntmps69
  go_wp2_with (at_builtin; refine wpList_append_own _ rfl _ _ 61 rfl B 9 i0 (.string ByteArray.empty) 1 16 Tryz.underlying61 hi0 hz0 hz1 hz2 rfl (by decide) v2 _ _ rfl (HO0.out.alloc _) ⟨w.heap.size, 0, none⟩ 1 1 [.string s] rfl rfl ?c1 ?c2 ?c3 ?c4 ?c5 ?_)
  case c1 => intro j u hj; rw [Addr.add_lit, Nat.zero_add, blk_cell (heap_new w _)]; simpa using hj
  case c2 => intro u hu; rw [List.mem_singleton] at hu; subst hu; rfl
  case c3 => simp only [maxLen]; omega
  case c4 => omega
  case c5 => have q2 := HBH.out; simp only [size_alloc]; omega
  intro v' w2 hown hgrow hiff
  obtain ⟨g, cap, rfl, _, _⟩ := hown.form (by omega)
  have A1a := blk_alloc HA.out (Obj.cells #[Value.string s] 9)
  have A2 := Aside0.mk (show w2.heap[a]? = some (.cells #[.slice none 0 0, .slice none 0 0, v2, .string line] 129 (0, 0)) from (hgrow.block a (blk_lt A1a) (own_not (by decide) HO0.out HA.out)).trans A1a)
  have HO := Aside0.mk hown
  have HB2 := Aside0.mk (show Below B w w2 from ((Below.refl B w).alloc HBH.out (Obj.cells #[Value.string s] 9)).grown hgrow (by have q2 := HBH.out; simp only [size_alloc]; omega) (fun k hk => by
    rcases HO0.out.2 with ⟨e, _⟩ | ⟨g, cap, cur, e, hbg, _⟩
    · rw [e] at hk; simp [Value.ownBlock] at hk
    · rw [e] at hk; simp only [Value.ownBlock, Option.some.injEq] at hk; omega))
  have q2 := blk_frozen A2.out 2
  have q3 : w2.cell? ⟨a, 2, none⟩ = some v2 := by rw [blk_cell A2.out]; rfl
  clear hgrow hown hiff A1a c0
  go_wp2
  go_ret
  refine ⟨rfl, ⟨HGE.out, .slice (some ⟨g, 0, none⟩) (ws.length + 1) cap, ?_, ?_⟩, HB2.out.setCell HGE.out _⟩
  · rw [heap_setCell_same _ _ _ _ _ _ A2.out]; rfl
  · rw [List.map_append, List.length_append]
    exact ownsRow_setCell_other HO.out (fun e => own_not (by decide) HO.out A2.out e.symm) _
end Go.Proofs.YtldohjlcckbfaaaGreatDoor.Hand
