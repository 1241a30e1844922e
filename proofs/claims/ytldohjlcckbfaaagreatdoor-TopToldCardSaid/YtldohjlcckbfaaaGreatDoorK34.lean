/- A part of the proof that pomadetop.TopTold returns true for every input: HandUg, HandUh, HandUi, HandUj, HandUk. No condition beyond those that each theorem states. -/
import Derived.Test.YtldohjlcckbfaaaGreatDoorK29
import Derived.Test.YtldohjlcckbfaaaGreatDoorK33
namespace Go.Proofs.YtldohjlcckbfaaaGreatDoor.Hand
open Go.RowKit Go.Proofs.YtldohjlcckbfaaaGreatDoorW.PrintWords Go.Proofs.YtldohjlcckbfaaaGreatDoorW.PrintLast Go.Proofs.YtldohjlcckbfaaaGreatDoorW.PrintMore
set_option linter.unusedVariables false
set_option linter.unusedSimpArgs false
open Go.Proofs.YtldohjlcckbfaaaGreatDoor.Pre
open TopWords
theorem till_e1 : till_counted.f 20 [4] = some 0 := by kernel_rfl
theorem till_e2 : till_balances.f 20 [4] = some [0, 4] := by kernel_rfl
theorem till_e3 : till_above.f 20 [4] = some 1 := by kernel_rfl
theorem till_e4 : slices_Index_int_int.f 20 [0, 4] 4 = some 1 := by kernel_rfl
theorem R_two {w : World} {base : Nat} {v : Value} {x y : Int} (h : Kd.R (Kd.int .i64) 3 w base (fun _ => True) v [x, y]) : ∃ g c, v = .slice (some ⟨g, 0, none⟩) 2 c ∧ 2 ≤ c ∧ Kd.C (Kd.int .i64) w (some ⟨g, 0, none⟩) 2 [x, y] ∧ w.cell? ⟨g, 0, none⟩ = some (.int .i64 x) ∧ w.cell? ⟨g, 1, none⟩ = some (.int .i64 y) := by
  obtain ⟨inner, ho⟩ := Kd.R_own h
  obtain ⟨A, c, rfl, hc, h2⟩ := Kd.R_reads h
  obtain ⟨ad, rfl, hx⟩ := Kd.at_int h2 0 (by decide) (by show (0 : Int) < ((2 : Nat) : Int); decide)
  obtain ⟨ad', he, hy⟩ := Kd.at_int h2 1 (by decide) (by show (1 : Int) < ((2 : Nat) : Int); decide)
  cases he
  obtain ⟨g, c', he, _⟩ := ho.form (by simp)
  cases he
  refine ⟨g, c, rfl, hc, h2, ?_, ?_⟩
  · rwa [show (0 : Int).toNat = 0 from rfl, Addr.add_lit, Nat.zero_add] at hx
  · rwa [show (1 : Int).toNat = 1 from rfl, Addr.add_lit, Nat.zero_add] at hy
set_option maxHeartbeats 4000000 in
set_option maxRecDepth 100000 in
theorem highest4 (A : Option Addr) (c : Nat) (hc : 1 ≤ c) (w : World) (h : Kd.C (Kd.int .i64) w A 1 [4]) :
    Calls Tryz.prog 193 #[.slice A 1 c] w fun e w' => e = .returned (.tuple #[.int .i64 1, .int .i64 1]) ∧ Below w.heap.size w w' := by
  have HB := Aside0.mk (till_balances.calls 20 A c [4] [0, 4] w h hc till_e2)
  clear h
  go_enter Tryz.func193, Tryz.ntmps193
  go_wp2_with (go_at_call 28; refine HB.out.mono ?_; rintro e w1 ⟨v, rfl, hr, hb1⟩; obtain ⟨g, c1, rfl, hc1, hz, y0, y1⟩ := R_two hr; have HB1 := Aside0.mk hb1; have HZ := Aside0.mk hz; have hc1' := hc1; clear hr hb1)
  have HM := Aside0.mk (Tryz.slices_Max_int g 0 2 c1 [0, 4] w1 (by decide) (by decide) (by decide) (fun j hj => by
    have hj2 : j < 2 := hj
    obtain rfl | rfl : j = 0 ∨ j = 1 := by omega
    · exact y0
    · exact y1))
  rw [show Lib.maxOf (List.take 2 [0, 4]) = 4 from by decide] at HM
  have HX := Aside0.mk (slices_Index_int_int.calls 20 (some ⟨g, 0, none⟩) c1 [0, 4] 4 1 w1 hz hc1 till_e4)
  clear hz
  go_wp2_with (go_at_call 231; refine HM.out.mono ?_; rintro e w2 ⟨rfl, hw⟩; rw [hw]; clear hw w2)
  go_loopg [6] 0 (fun q v6 wr => v6 = .int .i64 1 ∧ wr = w1)
  case atStart => exact ⟨rfl, rfl⟩
  case round =>
    obtain ⟨rfl, hw⟩ := hrel
    rw [hw]
    clear hw
    go_wp2_with (go_at_call 50; refine HX.out.mono ?_; rintro e w3 ⟨rfl, hb3⟩; have HB3 := Aside0.mk (HB1.out.trans (hb3.below.mono HB1.out.size)); clear hb3)
    exact bodyPost_ret (v := .tuple #[.int .i64 1, .int .i64 1]) (by simp [results, Tryz.results193, go_sem]) rfl ⟨rfl, HB3.out⟩
set_option maxHeartbeats 4000000 in
set_option maxRecDepth 100000 in
theorem ahead4 (A : Option Addr) (c : Nat) (hc : 1 ≤ c) (w : World) (h : Kd.C (Kd.int .i64) w A 1 [4]) :
    Calls Tryz.prog 165 #[.slice A 1 c] w fun e w' => e = .returned (.tuple #[.int .i64 1, .int .i64 1, .int .i64 1, .int .i64 0]) ∧ Below w.heap.size w w' := by
  have H := Aside0.mk h
  have HC := Aside0.mk hc
  have H1 := Aside0.mk (till_counted.calls 20 A c [4] 0 w h hc till_e1)
  clear h
  go_enter Tryz.func165, Tryz.ntmps165
  go_wp2_with (first | (go_at_call 51; refine H1.out.mono ?_; rintro e w1 ⟨rfl, hb⟩; have HB1 := Aside0.mk hb.below; have H2 := Aside0.mk (highest4 A c hc w1 (Kd.C_below H.out HB1.out)); clear hb) | (go_at_call 193; refine H2.out.mono ?_; rintro e w2 ⟨rfl, hb⟩; have HB2 := Aside0.mk (HB1.out.trans (hb.mono HB1.out.size)); have H3 := Aside0.mk (till_above.calls 20 A c [4] 1 w2 (Kd.C_below H.out HB2.out) hc till_e3); clear hb) | (go_at_call 52; refine H3.out.mono ?_; rintro e w3 ⟨rfl, hb⟩; have HB3 := Aside0.mk (HB2.out.trans (hb.mono HB2.out.size)); clear hb))
  exact bodyPost_ret (v := .tuple #[.int .i64 1, .int .i64 1, .int .i64 1, .int .i64 0]) (by simp [results, Tryz.results165, go_sem]) rfl ⟨rfl, HB3.out⟩
end Go.Proofs.YtldohjlcckbfaaaGreatDoor.Hand
namespace Go.Proofs.YtldohjlcckbfaaaGreatDoor.Hand
open Go.RowKit Go.Proofs.YtldohjlcckbfaaaGreatDoorW.PrintWords Go.Proofs.YtldohjlcckbfaaaGreatDoorW.PrintLast Go.Proofs.YtldohjlcckbfaaaGreatDoorW.PrintMore
set_option linter.unusedVariables false
set_option linter.unusedSimpArgs false
open Go.Proofs.YtldohjlcckbfaaaGreatDoor.Pre
open TopWords
theorem TAt.one4 {w : World} {v : Value} (h : TAt w 1 v [.int .i64 4] 1) : ∃ g, v = .slice (some ⟨g, 0, none⟩) 1 1 ∧ Kd.C (Kd.int .i64) w (some ⟨g, 0, none⟩) 1 [4] := by
  rcases h.lies with ⟨_, h0⟩ | ⟨g, rfl, _, _, hc⟩
  · omega
  · refine ⟨g, rfl, Kd.C_of_reads (enc := Value.int .i64) (d := (0 : Int)) ⟨rfl, by decide, fun _ => ⟨⟨g, 0, none⟩, rfl, fun j hj => ?_⟩⟩⟩
    obtain rfl : j = 0 := by omega
    rw [Addr.add_lit, Nat.zero_add]
    exact hc 0 _ rfl
theorem glob_turn {w0 w w' : World} {q : Nat} (hG : Glob w0) (hB : Below w0.heap.size w0 w) (hq : w0.heap.size ≤ q) (ht : Turn q w w') : Glob w' :=
  hG.below (hB.trans (ht.below hq hB.size))
set_option maxHeartbeats 4000000 in
set_option maxRecDepth 100000 in
theorem till_F (q : Nat) (S : Sh) (hA : S.amts = [.int .i64 4]) (a0 a1 a2 a3 : Value) (w : World) (hG : Glob w) (hs : ShopT w q S) :
    Calls Tryz.prog 118 #[.pointer (some ⟨q, 0, none⟩), .agg #[a0, a1, a2, a3]] w fun e w' => e = .returned (.string ⟨#[49, 32, 49, 32, 49]⟩) ∧ Below w.heap.size w w' := by
  have HG := Aside0.mk hG
  obtain ⟨vs, va, vc, vm, vb, P0, t1, t2, t3, t4, t5⟩ := hs.at_
  rw [hA] at t4
  obtain ⟨g, rfl, hk⟩ := t4.one4
  have hb0 := below_alloc (Below.refl _ w) (Obj.cells #[a0, a1, a2, a3] 129)
  have y35 : (w.alloc (Obj.cells #[a0, a1, a2, a3] 129)).cell? ⟨q, 35, none⟩ = some (.slice (some ⟨g, 0, none⟩) 1 1) := pw_cell_below hb0 (by rw [blk_cell P0]; cases S.b <;> rfl)
  have HAh := Aside0.mk (ahead4 (some ⟨g, 0, none⟩) 1 (by decide) _ (Kd.C_below hk hb0))
  have HB0 := Aside0.mk hb0
  clear hG hs P0 t1 t2 t3 t4 t5 hb0 hk
  go_enter Tryz.func118, Tryz.ntmps118
  go_wp2_with (first | (go_at_call 165; refine HAh.out.mono ?_; rintro e w1 ⟨rfl, hb1⟩; have HB1 := Aside0.mk (HB0.out.trans (hb1.mono HB0.out.size)); clear hb1) | (go_at_call 154; refine (must_ok _).mono ?_; rintro e w2 ⟨rfl, hw⟩; rw [hw]; clear hw w2))
  have HB2 := Aside0.mk (below_alloc HB1.out (Obj.cells #[Value.int .i64 1, Value.int .i64 1, Value.int .i64 1] 3))
  have HJ := Aside0.mk (joined_calls (some ⟨w1.heap.size, 0, none⟩) 3 [1, 1, 1] (by decide) (by decide) (w1.alloc (Obj.cells #[Value.int .i64 1, Value.int .i64 1, Value.int .i64 1] 3)) (HG.out.below HB2.out) ⟨rfl, by decide, fun _ => ⟨⟨w1.heap.size, 0, none⟩, rfl, fun j hj => by
    rw [Addr.add_lit, Nat.zero_add, blk_cell (heap_new w1 _)]
    have hj3 : j < 3 := hj
    obtain rfl | rfl | rfl : j = 0 ∨ j = 1 ∨ j = 2 := by omega
    · rfl
    · rfl
    · rfl⟩⟩)
  rw [show lineOf (List.map itoaB [1, 1, 1]) = ⟨#[49, 32, 49, 32, 49]⟩ by decide +kernel] at HJ
  go_wp2_with (go_at_call 159; refine HJ.out.mono ?_; rintro e w3 ⟨rfl, hb3⟩; have HB3 := Aside0.mk (HB2.out.trans (hb3.mono HB2.out.size)); clear hb3)
  go_ret
  exact ⟨rfl, HB3.out⟩
end Go.Proofs.YtldohjlcckbfaaaGreatDoor.Hand
namespace Go.Proofs.YtldohjlcckbfaaaGreatDoor.Hand
open Go.RowKit Go.Proofs.YtldohjlcckbfaaaGreatDoorW.PrintWords Go.Proofs.YtldohjlcckbfaaaGreatDoorW.PrintLast Go.Proofs.YtldohjlcckbfaaaGreatDoorW.PrintMore
set_option linter.unusedVariables false
set_option linter.unusedSimpArgs false
open Go.Proofs.YtldohjlcckbfaaaGreatDoor.Pre
open TopWords
def Sh.arced (S : Sh) : Sh := { S with arcs := [.int .i64 0, .int .i64 0], narcs := 1 }
set_option maxHeartbeats 4000000 in
set_option maxRecDepth 100000 in
theorem arc_calls (q g0 c0 : Nat) (v1 v2 v3 : Value) (S : Sh) (hA : S.arcs = []) (hA2 : S.narcs = 0) (w : World) (hq : q < w.heap.size) (h0 : w.cell? ⟨g0, 0, none⟩ = some (.int .i64 0)) (h1 : w.cell? ⟨g0, 1, none⟩ = some (.int .i64 0)) (hs : ShopTX (· < q) w q S) :
    Calls Tryz.prog 114 #[.pointer (some ⟨q, 0, none⟩), .agg #[.slice (some ⟨g0, 0, none⟩) 2 c0, v1, v2, v3]] w fun e w' => e = .returned (.string ⟨#[111, 107]⟩) ∧ ShopX (fun g => g < q ∨ w.heap.size ≤ g) w' q S.arced ∧ Turn q w w' := by
  have HS := Aside0.mk hs
  have HQ := Aside0.mk hq
  have hA0 := heap_new w (Obj.cells #[.slice (some ⟨g0, 0, none⟩) 2 c0, v1, v2, v3] 129)
  have hb0 := below_alloc (Below.refl _ w) (Obj.cells #[.slice (some ⟨g0, 0, none⟩) 2 c0, v1, v2, v3] 129)
  have y0 := pw_cell_below hb0 h0
  have y1 := pw_cell_below hb0 h1
  clear hs h0 h1 hq
  go_enter Tryz.func114, Tryz.ntmps114
  go_wp2
  obtain ⟨b, hb⟩ : ∃ b, w.heap.size = b := ⟨_, rfl⟩
  have HZ := Aside0.mk hb
  obtain ⟨w1, e1⟩ : ∃ w1, w.alloc (Obj.cells #[.slice (some ⟨g0, 0, none⟩) 2 c0, v1, v2, v3] 129) = w1 := ⟨_, rfl⟩
  rw [e1] at hA0 hb0 y0 y1 ⊢
  rw [hb] at hA0 ⊢
  have HB1 := Aside0.mk hb0
  clear hb hb0 e1
  have x0 : w1.cell? ⟨b, 0, none⟩ = some (.slice (some ⟨g0, 0, none⟩) 2 c0) := by rw [blk_cell hA0]; rfl
  clear hA0
  have y0d : w1.drew.cell? ⟨g0, 0, none⟩ = some (.int .i64 0) := y0
  have y1d : w1.drew.cell? ⟨g0, 1, none⟩ = some (.int .i64 0) := y1
  have x0d : w1.drew.cell? ⟨b, 0, none⟩ = some (.slice (some ⟨g0, 0, none⟩) 2 c0) := x0
  have hbA := below_drew (below_alloc (Below.refl _ w1) (Obj.cells #[Value.int .i64 0, Value.int .i64 0] 84))
  have y0a := pw_cell_below hbA y0
  have y1a := pw_cell_below hbA y1
  have x0a := pw_cell_below hbA x0
  clear hbA
  go_region
  clear x0 y0 y1 x0d y0d y1d x0a y0a y1a
  have hA2 := heap_new w1 (Obj.cells #[Value.int .i64 0, Value.int .i64 0] 84)
  have HB2 := Aside0.mk (below_drew (below_alloc HB1.out (Obj.cells #[Value.int .i64 0, Value.int .i64 0] 84)))
  have hzz := size_alloc w1 (Obj.cells #[Value.int .i64 0, Value.int .i64 0] 84)
  obtain ⟨w2, e2⟩ : ∃ w2, (w1.alloc (Obj.cells #[Value.int .i64 0, Value.int .i64 0] 84)).drew = w2 := ⟨_, rfl⟩
  have hN : w2.heap[w1.heap.size]? = some (Obj.cells #[Value.int .i64 0, Value.int .i64 0] 84 (0, 0)) := by rw [← e2]; exact hA2
  rw [e2] at HB2 ⊢
  obtain ⟨m, hm⟩ : ∃ m, w1.heap.size = m := ⟨_, rfl⟩
  rw [hm] at hN ⊢
  clear hA2 hzz e2 hm
  have n0 : w2.cell? ⟨m, 0, none⟩ = some (.int .i64 0) := by rw [blk_cell hN]; rfl
  have n1 : w2.cell? ⟨m, 1, none⟩ = some (.int .i64 0) := by rw [blk_cell hN]; rfl
  obtain ⟨vs, va, vc, vm, vb, P2, t1, t2, t3, t4, t5⟩ := (HS.out.below HB2.out).at_
  rw [hA, show S.narcs = 0 from by assumption] at t2
  obtain rfl := TX.nilOf t2
  have HP2 := Aside0.mk P2
  have HT := Aside0.mk (And.intro t1 (And.intro t3 (And.intro t4 t5)))
  have z33 : w2.cell? ⟨q, 33, none⟩ = some (.slice none 0 0) := by rw [blk_cell P2]; cases S.b <;> rfl
  clear P2 t1 t2 t3 t4 t5
  go_wp2_with (go_at_call 153; refine (ensure_ok _ _).mono ?_; rintro e w6 ⟨rfl, hw⟩; rw [hw]; clear hw w6)
  have infoP : (Tryz.prog.info? 84).map (fun i => (i.zero, i.size, i.bytes)) = some (some (.agg #[.int .i64 0, .int .i64 0]), 2, 16) := by kernel_rfl
  obtain ⟨i0, hi0, hz0, hz1, hz2⟩ := info_parts infoP
  have z33d : w2.drew.cell? ⟨q, 33, none⟩ = some (.slice none 0 0) := z33
  have n0d : w2.drew.cell? ⟨m, 0, none⟩ = some (.int .i64 0) := n0
  have n1d : w2.drew.cell? ⟨m, 1, none⟩ = some (.int .i64 0) := n1
  have hbA := below_drew (below_alloc (Below.refl _ w2) (Obj.cells #[Value.int .i64 0, Value.int .i64 0] 84))
  have z33a := pw_cell_below hbA z33
  have HBA := Aside0.mk hbA
  have hnews : ∀ (j : Nat) u, [Value.int .i64 0, Value.int .i64 0][j]? = some u → (w2.alloc (Obj.cells #[Value.int .i64 0, Value.int .i64 0] 84)).drew.cell? ((⟨w2.heap.size, 0, none⟩ : Addr).add j) = some u := by
    intro j u hj
    rw [Addr.add_lit, Nat.zero_add]
    show (w2.alloc (Obj.cells #[Value.int .i64 0, Value.int .i64 0] 84)).cell? ⟨w2.heap.size, j, none⟩ = some u
    rw [blk_cell (heap_new w2 _)]
    simpa using hj
  have hone : ∀ u ∈ [Value.int .i64 0, Value.int .i64 0], u.oneCell' = true := fun u hu => by
    rcases List.mem_cons.1 hu with rfl | h
    · rfl
    · obtain rfl := List.mem_singleton.1 h; rfl
  have hb1 : 0 + 1 ≤ maxLen := by decide
  have HONE := Aside0.mk hone
  clear hbA hN
  go_region_law ((refine step_append_grows rfl (.tmp 45) (.tmp 47) 62 rfl 84 i0 (.agg #[.int .i64 0, .int .i64 0]) 2 16 Tryz.underlying62 hi0 hz0 hz1 hz2 rfl (by decide) none 0 0 [] (by simp [Act.eval, Act.put]) (fun _ => ⟨rfl, rfl⟩) rfl (fun _ h => by cases h) ⟨w2.heap.size, 0, none⟩ 1 1 [.int .i64 0, .int .i64 0] (by simp [Act.eval, Act.put]) rfl hnews hone (by decide) hb1 (by decide) ?_; intro v' w6 hown hgrow; obtain ⟨g, cap, rfl, hg1, hg2⟩ := hown.form (by omega); have HO := Aside0.mk hown; have HB6 := Aside0.mk (show Below w2.heap.size w2 w6 from HBA.out.grown hgrow (by show w2.heap.size ≤ (w2.alloc (Obj.cells #[Value.int .i64 0, Value.int .i64 0] 84)).heap.size; rw [size_alloc]; omega) (fun k hk => by cases hk)); have P6 := Aside0.mk (blk_below HP2.out HB6.out); have z33b := pw_cell_below HB6.out z33; have zf := blk_frozen P6.out 33; clear hown hgrow))
  all_goals
    have hz := HZ.out
    have hq := HQ.out
    have hsz2 := HB2.out.size
    have hsw : (w2.alloc (Obj.cells #[Value.int .i64 0, Value.int .i64 0] 84)).drew.heap.size = w2.heap.size + 1 := size_alloc w2 _
    have hT : Turn q w (w6.setCell ⟨q, 33, none⟩ (.slice (some ⟨g, 0, none⟩) 1 cap)) := (Turn.of_below (p := q) (HB2.out.trans (HB6.out.mono hsz2))).set ⟨q, 33, none⟩ (.inl rfl) _
    have hP : (w6.setCell ⟨q, 33, none⟩ (.slice (some ⟨g, 0, none⟩) 1 cap)).heap[q]? = some (.cells (shopC S.b vs (.slice (some ⟨g, 0, none⟩) 1 cap) vc vm vb) 64 (0, 0)) := by
      rw [heap_setCell_same _ _ _ _ _ _ P6.out]
      exact congrArg (fun c => some (Obj.cells c 64 (0, 0))) (shop_set33 S.b vs (.slice none 0 0) vc vm vb _)
    have hL : LX (fun g => g < q ∨ w.heap.size ≤ g) (w6.setCell ⟨q, 33, none⟩ (.slice (some ⟨g, 0, none⟩) 1 cap)) 2 (.slice (some ⟨g, 0, none⟩) 1 cap) [.int .i64 0, .int .i64 0] 1 := by
      refine (LX.of_own (by decide) HO.out (fun u hu => HONE.out u (by simpa using hu)) (by omega)).kept (fun k hk _ => Below.heap_setCell _ _ _ _ ?_)
      show k ≠ q
      omega
    have hT2 : Turn q w2 (w6.setCell ⟨q, 33, none⟩ (.slice (some ⟨g, 0, none⟩) 1 cap)) := (Turn.of_below (p := q) HB6.out).set ⟨q, 33, none⟩ (.inl rfl) _
    obtain ⟨t1, t3, t4, t5⟩ := HT.out
    have ho := HS.out.good
    have HF := Aside0.mk (show ShopX (fun g => g < q ∨ w.heap.size ≤ g) (w6.setCell ⟨q, 33, none⟩ (.slice (some ⟨g, 0, none⟩) 1 cap)) q S.arced from ⟨⟨ho.sents, by show 1 ≤ 10; decide, ho.coins, ho.coin, ho.amts, ho.book⟩, vs, _, vc, vm, vb, hP, kept_lt t1 hT2 (fun _ h => .inl h), hL, kept_lt t3 hT2 (fun _ h => .inl h), kept_lt t4 hT2 (fun _ h => .inl h), kept_ltT t5 hT2 (fun _ h => .inl h)⟩)
    have HTT := Aside0.mk hT
    clear hT hP hL hT2 t1 t3 t4 t5 ho
    go_wp2
    go_ret
    exact ⟨rfl, HF.out, HTT.out⟩
end Go.Proofs.YtldohjlcckbfaaaGreatDoor.Hand
namespace Go.Proofs.YtldohjlcckbfaaaGreatDoor.Hand
open Go.RowKit Go.Proofs.YtldohjlcckbfaaaGreatDoorW.PrintWords Go.Proofs.YtldohjlcckbfaaaGreatDoorW.PrintLast Go.Proofs.YtldohjlcckbfaaaGreatDoorW.PrintMore
set_option linter.unusedVariables false
set_option linter.unusedSimpArgs false
open Go.Proofs.YtldohjlcckbfaaaGreatDoor.Pre
open TopWords
abbrev gC : Value := .iface 267 (.int .u8 48)
abbrev gL : Value := .iface 268 (.int .i64 0)
abbrev gN : Value := .iface 270 (.agg #[gL])
def sen (j : Nat) : ByteArray := if j = 0 then ⟨#[33, 97]⟩ else ⟨#[48]⟩
def frm (j : Nat) : Value := if j = 0 then gN else gC
set_option maxHeartbeats 2000000 in
set_option maxRecDepth 100000 in
theorem read_0 (w : World) :
    Calls Tryz.prog 172 #[.string ⟨#[48]⟩, .int .i64 10] w fun e w' => e = .returned (.tuple #[gC, .string ⟨#[]⟩]) ∧ Below w.heap.size w w' := by
  go_enter Tryz.func172, Tryz.ntmps172
  go_wp2
  go_region
  go_wp2
  go_ret2
  exact ⟨rfl, (Below.refl _ _).drew⟩
set_option maxHeartbeats 2000000 in
set_option maxRecDepth 100000 in
theorem read_a (w : World) :
    Calls Tryz.prog 172 #[.string ⟨#[97]⟩, .int .i64 10] w fun e w' => e = .returned (.tuple #[gL, .string ⟨#[]⟩]) ∧ Below w.heap.size w w' := by
  go_enter Tryz.func172, Tryz.ntmps172
  go_wp2
  go_region
  go_wp2
  go_ret2
  exact ⟨rfl, (Below.refl _ _).drew⟩
set_option maxHeartbeats 2000000 in
set_option maxRecDepth 100000 in
theorem read_na (w : World) :
    Calls Tryz.prog 172 #[.string ⟨#[33, 97]⟩, .int .i64 10] w fun e w' => e = .returned (.tuple #[gN, .string ⟨#[]⟩]) ∧ Below w.heap.size w w' := by
  have hnl : ∀ (w : World) (t : TypeId) (v : Value), (binOp .eql 186 (.iface t v) .nilIface).run Tryz.prog w = .ok (.bool false) w := fun _ _ _ => rfl
  go_enter Tryz.func172, Tryz.ntmps172
  go_wp2
  go_region
  go_wp2_with fail
  refine (read_a _).mono ?_
  rintro e w1 ⟨rfl, hb⟩
  go_wp2
  go_ret2
  exact ⟨rfl, ((Below.refl _ _).drew).trans hb⟩
set_option maxHeartbeats 2000000 in
set_option maxRecDepth 100000 in
theorem parse_10 (s : ByteArray) (t : TypeId) (v : Value) (hs : s.size ≤ 40) (hr : ∀ w, Calls Tryz.prog 172 #[.string s, .int .i64 10] w fun e w' => e = .returned (.tuple #[.iface t v, .string ⟨#[]⟩]) ∧ Below w.heap.size w w') (w : World) :
    Calls Tryz.prog 131 #[.string s, .int .i64 10] w fun e w' => e = .returned (.tuple #[.iface t v, .int .i64 0]) ∧ Below w.heap.size w w' := by
  have hnl : ∀ (w : World) (t : TypeId) (v : Value), (binOp .eql 186 (.iface t v) .nilIface).run Tryz.prog w = .ok (.bool false) w := fun _ _ _ => rfl
  have hd : decide (40 < (s.size : Int)) = false := decide_eq_false (by omega)
  have HR := Aside0.mk hr
  clear hr hs
  go_enter Tryz.func131, Tryz.ntmps131
  go_wp2_with fail
  refine (HR.out _).mono ?_
  rintro e w1 ⟨rfl, hb⟩
  go_wp2
  go_ret2
  exact ⟨rfl, hb⟩
def SenRow (w : World) (g : Nat) : Prop := ∀ j, j < 10 → w.cell? ⟨g, j, none⟩ = some (.string (sen j))
def FrmRow (w : World) (g : Nat) : Prop := ∀ j, j < 10 → w.cell? ⟨g, j, none⟩ = some (frm j)
theorem range_succ_map (k : Nat) : (List.range (k + 1)).map frm = (List.range k).map frm ++ [frm k] := by rw [List.range_succ, List.map_append]; rfl
set_option maxHeartbeats 4000000 in
set_option maxRecDepth 100000 in
theorem of_10 (g c : Nat) (w : World) (h : SenRow w g) :
    Calls Tryz.prog 84 #[.slice (some ⟨g, 0, none⟩) 10 c] w fun e w' => ∃ g' c', e = .returned (.tuple #[.slice (some ⟨g', 0, none⟩) 10 c', .int .i64 0]) ∧ w.heap.size ≤ g' ∧ FrmRow w' g' ∧ Below w.heap.size w w' := by
  have H := Aside0.mk h
  have infoF : (Tryz.prog.info? 186).map (fun i => (i.zero, i.size, i.bytes)) = some (some .nilIface, 1, 16) := by kernel_rfl
  obtain ⟨i0, hi, hz0, hz1, hz2⟩ := info_parts infoF
  clear h infoF
  go_enter Tryz.func84, Tryz.ntmps84
  go_wp2
  go_loopg [4, 19] 10 (fun q v4 v19 wr => ∃ k : Nat, v19 = .int .i64 k ∧ k + q = 10 ∧ Aside0 (wr.ownsRow w.heap.size 186 1 v4 k ((List.range k).map frm)) ∧ Aside0 (Below w.heap.size w wr))
  case atStart => exact ⟨0, rfl, rfl, ⟨own_nil _ _ _ _⟩, ⟨Below.refl _ _⟩⟩
  case round =>
    obtain ⟨k, rfl, hkq, HO, HB⟩ := hrel
    by_cases hlt : k < 10
    · obtain ⟨q, rfl⟩ : ∃ q, gk = q + 1 := ⟨gk - 1, by omega⟩
      have hd : decide ((k : Int) < 10) = true := decide_eq_true (by omega)
      have hc := pw_cell_below HB.out (H.out k hlt)
      have HX := Aside0.mk (range_succ_map k)
      have HF := Aside0.mk (show frm k = if k = 0 then gN else gC from rfl)
      have HS := Aside0.mk (show sen k = if k = 0 then ⟨#[33, 97]⟩ else ⟨#[48]⟩ from rfl)
      have hcase : ∃ (t : TypeId) (y : Value) (s : ByteArray), sen k = s ∧ frm k = .iface t y ∧ ∀ W, Calls Tryz.prog 131 #[.string s, .int .i64 10] W fun e w' => e = .returned (.tuple #[.iface t y, .int .i64 0]) ∧ Below W.heap.size W w' := by
        by_cases h0 : k = 0
        · exact ⟨_, _, _, by rw [HS.out, if_pos h0], by rw [HF.out, if_pos h0], fun W => parse_10 _ _ _ (by decide) read_na W⟩
        · exact ⟨_, _, _, by rw [HS.out, if_neg h0], by rw [HF.out, if_neg h0], fun W => parse_10 _ _ _ (by decide) read_0 W⟩
      obtain ⟨t, y, s, hs, hf, hp⟩ := hcase
      have HP := Aside0.mk hp
      rw [hs] at hc
      rw [hf] at HX
      clear hs hf hp HF HS
      go_wp2_with (first | (go_at_call 131; refine (HP.out _).mono ?_; rintro e w1 ⟨rfl, hb1⟩; have HB1 := Aside0.mk (HB.out.trans (hb1.mono HB.out.size)); have HO1 := Aside0.mk (pw_own_below HO.out hb1); clear hb1) | (at_builtin; refine wpList_append_own _ rfl _ _ 151 rfl w.heap.size 186 i0 .nilIface 1 16 Tryz.underlying151 hi hz0 hz1 hz2 rfl (by decide) _ k _ rfl (HO1.out.alloc _) ⟨w1.heap.size, 0, none⟩ 1 1 [.iface t y] rfl rfl ?c1 ?c2 ?c3 ?c4 ?c5 ?_))
      case c1 => intro j u hj; rw [Addr.add_lit, Nat.zero_add, blk_cell (heap_new w1 _)]; simpa using hj
      case c2 => intro u hu; rw [List.mem_singleton] at hu; subst hu; rfl
      case c3 => simp only [maxLen]; omega
      case c4 => omega
      case c5 => have q := HB1.out.size; simp only [size_alloc]; omega
      intro v' w2 hown hgrow hiff
      have HO2 := Aside0.mk hown
      have HB2 := Aside0.mk (show Below w.heap.size w w2 from (HB1.out.alloc HB1.out.size (Obj.cells #[.iface t y] 186)).grown hgrow (by have q := HB1.out.size; simp only [size_alloc]; omega) (fun j hj => own_base HO1.out j hj))
      clear hgrow hown hiff
      go_wp2
      go_roundg q
      case measure => omega
      case rel => exact ⟨k + 1, by go_num, by omega, ⟨by rw [HX.out]; exact HO2.out⟩, HB2⟩
    · obtain rfl : k = 10 := by omega
      go_wp2
      obtain ⟨g', c', rfl, hg, _⟩ := HO.out.form (by decide)
      refine bodyPost_ret (v := .tuple #[.slice (some ⟨g', 0, none⟩) 10 c', .int .i64 0]) (by simp [results, Tryz.results84, go_sem]) rfl ⟨g', c', rfl, hg, fun j hj => ?_, HB.out⟩
      have := HO.out.cells rfl j (frm j) (by rw [List.getElem?_map, List.getElem?_range hj]; rfl)
      rwa [Addr.add_lit, Nat.zero_add] at this
end Go.Proofs.YtldohjlcckbfaaaGreatDoor.Hand
namespace Go.Proofs.YtldohjlcckbfaaaGreatDoor.Hand
open Go.RowKit Go.Proofs.YtldohjlcckbfaaaGreatDoorW.PrintWords Go.Proofs.YtldohjlcckbfaaaGreatDoorW.PrintLast Go.Proofs.YtldohjlcckbfaaaGreatDoorW.PrintMore
set_option linter.unusedVariables false
set_option linter.unusedSimpArgs false
open Go.Proofs.YtldohjlcckbfaaaGreatDoor.Pre
open TopWords
def opp (c : Int) : Int := if c = 48 then 49 else if c = 49 then 48 else 63
def val (j : Nat) (c : Int) : Int := if j = 0 then opp c else 48
set_option maxHeartbeats 2000000 in
set_option maxRecDepth 100000 in
theorem opp_calls (c : Int) (w : World) : Calls Tryz.prog 293 #[.int .u8 c] w fun e w' => e = .returned (.int .u8 (opp c)) ∧ w' = w := by
  by_cases h1 : c = 48
  · subst h1
    go_enter Tryz.func293, Tryz.ntmps293
    go_wp2
    go_ret
    exact ⟨rfl, rfl⟩
  · by_cases h2 : c = 49
    · subst h2
      go_enter Tryz.func293, Tryz.ntmps293
      go_wp2
      go_ret
      exact ⟨rfl, rfl⟩
    · have H := Aside0.mk (show opp c = 63 by unfold opp; rw [if_neg h1, if_neg h2])
      have e1 : (c == 48) = false := by simpa using h1
      have e2 : (c == 49) = false := by simpa using h2
      go_enter Tryz.func293, Tryz.ntmps293
      go_wp2
      go_ret
      exact ⟨by rw [H.out]; rfl, rfl⟩
def v0 (v : ByteArray) : Int := if h : 0 < v.size then ((v[0]'h).toNat : Int) else 0
set_option maxHeartbeats 2000000 in
set_option maxRecDepth 100000 in
theorem letter_val (v : ByteArray) (hv : 0 < v.size) (w : World) : Calls Tryz.prog 290 #[.int .i64 0, .string v] w fun e w' => e = .returned (.int .u8 (v0 v)) ∧ w' = w := by
  have H := Aside0.mk (show v0 v = ((v[0]'hv).toNat : Int) by unfold v0; rw [dif_pos hv])
  have hd : decide ((0 : Int) < (v.size : Int)) = true := decide_eq_true (by omega)
  go_enter Tryz.func290, Tryz.ntmps290
  go_wp2
  go_ret
  exact ⟨by rw [H.out]; simp, rfl⟩
set_option maxHeartbeats 2000000 in
set_option maxRecDepth 100000 in
theorem not_val (v : ByteArray) (hv : 0 < v.size) (w : World) : Calls Tryz.prog 292 #[.agg #[gL], .string v] w fun e w' => e = .returned (.int .u8 (opp (v0 v))) ∧ Below w.heap.size w w' := by
  have hm : ∀ w v, (method 429 268 v "pomade/truth.value").run Tryz.prog w = .ok (290, v) w := fun _ _ => by kernel_rfl
  have HL := Aside0.mk (fun W => letter_val v hv W)
  have HO := Aside0.mk (fun W => opp_calls (v0 v) W)
  have HB := Aside0.mk (below_alloc (Below.refl _ w) (Obj.cells #[gL] 270))
  clear hv
  go_enter Tryz.func292, Tryz.ntmps292
  go_wp2_with (first | (go_at_call 290; (with_reducible refine (HL.out _).mono ?_); rintro e w1 ⟨rfl, hw⟩; rw [hw]; clear hw w1) | (go_at_call 293; (with_reducible refine (HO.out _).mono ?_); rintro e w1 ⟨rfl, hw⟩; rw [hw]; clear hw w1))
  go_ret
  first | exact ⟨rfl, HB.out⟩ | exact ⟨rfl, Below.refl _ _⟩
set_option maxHeartbeats 2000000 in
set_option maxRecDepth 100000 in
theorem const_val0 (v : ByteArray) (w : World) : Calls Tryz.prog 288 #[.int .u8 48, .string v] w fun e w' => e = .returned (.int .u8 48) ∧ Below w.heap.size w w' := by
  go_enter Tryz.func288, Tryz.ntmps288
  go_wp2
  go_ret
  exact ⟨rfl, Below.refl _ _⟩
def bytesO (B : List Int) : Obj := .cells (nums .u8 B).toArray 5 (0, 0)
theorem bytesO_set {w : World} {q k : Nat} {B : List Int} (h : w.heap[q]? = some (bytesO B)) (hk : k < B.length) (x : Int) : (w.setCell ⟨q, k, none⟩ (.int .u8 x)).heap[q]? = some (bytesO (B.set k x)) := by
  unfold bytesO at h
  rw [heap_setCell_same _ _ _ _ _ _ h]
  unfold bytesO nums
  simp [List.map_set]
theorem bytesO_cell {w : World} {q k : Nat} {B : List Int} (h : w.heap[q]? = some (bytesO B)) (hk : k < B.length) : w.cell? ⟨q, k, none⟩ = some (.int .u8 B[k]) := by
  unfold bytesO at h
  rw [blk_cell h]
  simp [nums, List.getElem?_eq_getElem hk]
theorem bytesO_free {w : World} {q : Nat} {B : List Int} (h : w.heap[q]? = some (bytesO B)) (k : Nat) : w.frozen? ⟨q, k, none⟩ = false := by
  unfold bytesO at h
  exact blk_frozen h k
theorem bytesO_C {w : World} {q : Nat} {B : List Int} (h : w.heap[q]? = some (bytesO B)) (hl : B.length ≤ 1000) : Kd.C (Kd.int .u8) w (some ⟨q, 0, none⟩) B.length B := by
  refine Kd.C_of_reads (enc := Value.int .u8) (d := (0 : Int)) ⟨rfl, by omega, fun _ => ⟨⟨q, 0, none⟩, rfl, fun j hj => ?_⟩⟩
  rw [Addr.add_lit, Nat.zero_add, bytesO_cell h hj]
  simp [List.getD_eq_getElem?_getD, List.getElem?_eq_getElem hj]
def outB (c : Int) (k : Nat) : List Int := (List.range 10).map fun j => if j < k then val j c else 0
theorem outB_len (c : Int) (k : Nat) : (outB c k).length = 10 := by simp [outB]
theorem outB_succ (c : Int) (k : Nat) (hk : k < 10) : (outB c k).set k (val k c) = outB c (k + 1) := by
  apply List.ext_getElem
  · simp [outB]
  · intro i h1 h2
    rw [List.getElem_set]
    simp only [outB, List.getElem_map, List.getElem_range]
    by_cases h : k = i
    · subst h
      rw [if_pos rfl, if_pos (by omega)]
    · rw [if_neg h]
      by_cases h3 : i < k
      · rw [if_pos h3, if_pos (by omega)]
      · rw [if_neg h3, if_neg (by omega)]
def nextF (c : Int) : ByteArray := strOfNums (outB c 10)
theorem make10 (w : World) : (Instr.makeSlice 98 (.int .i64 10) (.int .i64 10)).run Tryz.prog w = .ok (.slice (some ⟨w.heap.size, 0, none⟩) 10 10) (w.alloc (bytesO (outB 0 0))) := by
  have h := run_make_row' (P := Tryz.prog) 98 5 (.int .u8 0) 1 Tryz.underlying98 (by kernel_rfl) rfl .i64 .i64 10 (by decide) (by decide) w
  have e : Obj.cells (madeCells #[Value.int .u8 0] 10) 5 = bytesO (outB 0 0) := by kernel_rfl
  rw [e] at h
  exact h
theorem outB_zero (c c' : Int) : outB c 0 = outB c' 0 := by simp [outB]
set_option maxHeartbeats 4000000 in
set_option maxRecDepth 100000 in
theorem next10 (g cap : Nat) (v : ByteArray) (hv : 0 < v.size) (w : World) (h : FrmRow w g) :
    Calls Tryz.prog 86 #[.slice (some ⟨g, 0, none⟩) 10 cap, .string v] w fun e w' => e = .returned (.string (nextF (v0 v))) ∧ Below w.heap.size w w' := by
  have hm : ∀ w v, (method 429 270 v "pomade/truth.value").run Tryz.prog w = .ok (292, v) w := fun _ _ => by kernel_rfl
  have hm2 : ∀ w v, (method 429 267 v "pomade/truth.value").run Tryz.prog w = .ok (288, v) w := fun _ _ => by kernel_rfl
  have hmk := make10
  have H := Aside0.mk h
  have HNV := Aside0.mk (fun W => not_val v hv W)
  have HCV := Aside0.mk (fun W => const_val0 v W)
  have HO0 := heap_new w (bytesO (outB 0 0))
  have HB0 := below_alloc (Below.refl _ w) (bytesO (outB 0 0))
  have HNF := Aside0.mk (show nextF (v0 v) = strOfNums (outB (v0 v) 10) from rfl)
  obtain ⟨x, hx⟩ : ∃ x, v0 v = x := ⟨_, rfl⟩
  rw [hx] at HNV HNF ⊢
  rw [outB_zero 0 x] at HO0 HB0
  have hz : outB 0 0 = outB x 0 := outB_zero 0 x
  rw [hz] at hmk
  clear h hv hx hz
  go_enter Tryz.func86, Tryz.ntmps86
  go_wp2
  clear hmk
  obtain ⟨w1, hw1⟩ : ∃ w1, w.alloc (bytesO (outB x 0)) = w1 := ⟨_, rfl⟩
  obtain ⟨q, hq⟩ : ∃ q, w.heap.size = q := ⟨_, rfl⟩
  rw [hw1] at HO0 HB0 ⊢
  rw [hq] at HO0 ⊢
  have HQ := Aside0.mk hq
  have HBB := Aside0.mk HB0
  have HOO := Aside0.mk HO0
  clear hw1 hq HB0 HO0
  go_loopg [13] 10 (fun q' v13 wr => ∃ k : Nat, v13 = .int .i64 k ∧ k + q' = 10 ∧ Aside0 (wr.heap[q]? = some (bytesO (outB x k))) ∧ Aside0 (Below w.heap.size w wr))
  case atStart => exact ⟨0, rfl, rfl, HOO, HBB⟩
  case round =>
    obtain ⟨k, rfl, hkq, HO, HB⟩ := hrel
    by_cases hlt : k < 10
    · obtain ⟨q', rfl⟩ : ∃ q, gk = q + 1 := ⟨gk - 1, by omega⟩
      have hd : decide ((k : Int) < 10) = true := decide_eq_true (by omega)
      have hc := pw_cell_below HB.out (H.out k hlt)
      have hlen := outB_len x k
      have HSU := Aside0.mk (outB_succ x k hlt)
      have HV := Aside0.mk (show val k x = if k = 0 then opp x else 48 from rfl)
      have HF := Aside0.mk (show frm k = if k = 0 then gN else gC from rfl)
      by_cases h0 : k = 0
      · rw [HF.out, if_pos h0] at hc
        rw [if_pos h0] at HV
        have H0 := Aside0.mk h0
        clear h0
        go_wp2_with (go_at_call 292; (with_reducible refine (HNV.out _).mono ?_); rintro e w2 ⟨rfl, hb2⟩; have HB2 := Aside0.mk (HB.out.trans (hb2.mono HB.out.size)); have ho2 := blk_below HO.out hb2; have HO2 := Aside0.mk ho2; have z1 := bytesO_cell ho2 (show k < (outB x k).length by rw [hlen]; exact hlt); have z2 := bytesO_free ho2 k; have HOs := Aside0.mk (bytesO_set ho2 (show k < (outB x k).length by rw [hlen]; exact hlt) (opp x)); clear ho2 hb2)
        go_roundg q'
        case measure => omega
        case rel => exact ⟨k + 1, by go_num, by omega, ⟨by rw [← HSU.out, HV.out]; exact HOs.out⟩, ⟨HB2.out.setCell (p := ⟨q, k, none⟩) (by rw [HQ.out]; exact Nat.le_refl q) _⟩⟩
      · rw [HF.out, if_neg h0] at hc
        rw [if_neg h0] at HV
        have H0 := Aside0.mk h0
        clear h0
        go_wp2_with (go_at_call 288; (with_reducible refine (HCV.out _).mono ?_); rintro e w2 ⟨rfl, hb2⟩; have HB2 := Aside0.mk (HB.out.trans (hb2.mono HB.out.size)); have ho2 := blk_below HO.out hb2; have HO2 := Aside0.mk ho2; have z1 := bytesO_cell ho2 (show k < (outB x k).length by rw [hlen]; exact hlt); have z2 := bytesO_free ho2 k; have HOs := Aside0.mk (bytesO_set ho2 (show k < (outB x k).length by rw [hlen]; exact hlt) 48); clear ho2 hb2)
        go_roundg q'
        case measure => omega
        case rel => exact ⟨k + 1, by go_num, by omega, ⟨by rw [← HSU.out, HV.out]; exact HOs.out⟩, ⟨HB2.out.setCell (p := ⟨q, k, none⟩) (by rw [HQ.out]; exact Nat.le_refl q) _⟩⟩
    · obtain rfl : k = 10 := by omega
      have hcb := Kd.C_string (P := Tryz.prog) (c := 10) Tryz.underlying98 Tryz.underlying5 Tryz.underlying9 (bytesO_C HO.out (by rw [outB_len]; decide))
      rw [outB_len, ← HNF.out] at hcb
      go_wp2
      go_ret
      exact ⟨rfl, HB.out⟩
end Go.Proofs.YtldohjlcckbfaaaGreatDoor.Hand
