/- A part of the proof that pomadetop.TopTold returns true for every input: HandK, Print0. No condition beyond those that each theorem states. -/
import Derived.Test.YtldohjlcckbfaaaGreatDoorK43
import Derived.Test.YtldohjlcckbfaaaGreatDoorK46
import Derived.Test.YtldohjlcckbfaaaGreatDoorK47
namespace Go.Proofs.YtldohjlcckbfaaaGreatDoor.Hand
open Go.RowKit Go.Proofs.YtldohjlcckbfaaaGreatDoorW.PrintWords Go.Proofs.YtldohjlcckbfaaaGreatDoorW.PrintLast Go.Proofs.YtldohjlcckbfaaaGreatDoorW.PrintMore
set_option linter.unusedVariables false
set_option linter.unusedSimpArgs false
open Go.Proofs.YtldohjlcckbfaaaGreatDoor.Pre
theorem heap_at (w : World) (o : Obj) : (w.alloc o).heap[w.heap.size]? = some o := by rw [heap_alloc_new]
theorem env_at (W : World) (bt bh bo : Nat) (w : World) (hB : Below W.heap.size W w) (hlo : W.heap.size ≤ bo) (hne : bt ≠ bo ∧ bh ≠ bo) (hT : TownAt bt w)
    (hh : w.heap[bh]? = some (.cells #[.func (.func 88) #[] #[.pointer (some ⟨bt, 0, none⟩)]] 90 (0, 0)))
    (ho : w.heap[bo]? = some (.cells #[.slice none 0 0] 22 (0, 0))) :
    KEnv W bt bh bo w.heap.size (w.heap.size + 1) (w.heap.size + 1 + 1) []
      (((w.alloc (.cells #[.int .i64 7] 3)).alloc (.cells #[.func (.func 136) #[] #[.pointer (some ⟨bo, 0, none⟩), .pointer (some ⟨bh, 0, none⟩)]] 90)).alloc
        (.cells #[.func (.func 176) #[] #[.pointer (some ⟨w.heap.size + 1, 0, none⟩), .pointer (some ⟨w.heap.size, 0, none⟩), .pointer (some ⟨w.heap.size + 1 + 1, 0, none⟩)]] 156)) := by
  have hbo := (Array.getElem?_eq_some_iff.1 ho).1
  obtain ⟨n, hn⟩ : ∃ n, w.heap.size = n := ⟨_, rfl⟩
  have B1 := below_alloc (Below.refl _ w) (.cells #[.int .i64 7] 3)
  have p1 := heap_at w (.cells #[.int .i64 7] 3)
  have z1 : (w.alloc (.cells #[.int .i64 7] 3)).heap.size = n + 1 := by simp [hn]
  obtain ⟨w1, e1⟩ : ∃ w1, w.alloc (.cells #[.int .i64 7] 3) = w1 := ⟨_, rfl⟩
  rw [e1] at B1 p1 z1 ⊢
  rw [hn] at p1 ⊢
  have B2 := below_alloc (Below.refl _ w1) (.cells #[.func (.func 136) #[] #[.pointer (some ⟨bo, 0, none⟩), .pointer (some ⟨bh, 0, none⟩)]] 90)
  have v2 := heap_at w1 (.cells #[.func (.func 136) #[] #[.pointer (some ⟨bo, 0, none⟩), .pointer (some ⟨bh, 0, none⟩)]] 90)
  have z2 : (w1.alloc (.cells #[.func (.func 136) #[] #[.pointer (some ⟨bo, 0, none⟩), .pointer (some ⟨bh, 0, none⟩)]] 90)).heap.size = n + 1 + 1 := by simp [z1]
  obtain ⟨w2, e2⟩ : ∃ w2, w1.alloc (.cells #[.func (.func 136) #[] #[.pointer (some ⟨bo, 0, none⟩), .pointer (some ⟨bh, 0, none⟩)]] 90) = w2 := ⟨_, rfl⟩
  rw [e2] at B2 v2 z2 ⊢
  rw [z1] at v2
  obtain ⟨ob, hob⟩ : ∃ ob : Obj, .cells #[.func (.func 176) #[] #[.pointer (some ⟨n + 1, 0, none⟩), .pointer (some ⟨n, 0, none⟩), .pointer (some ⟨n + 1 + 1, 0, none⟩)]] 156 (0, 0) = ob := ⟨_, rfl⟩
  have B3 := below_alloc (Below.refl _ w2) ob
  have v3 := heap_at w2 ob
  rw [z2] at v3
  rw [hob]
  have t2 := B2.trans (B3.mono B2.size)
  have t1 := B1.trans (t2.mono B1.size)
  refine ⟨hB.trans (t1.mono hB.size), hlo, ⟨hne.1, hne.2, by omega, by omega, by omega⟩, hT.below t1, heapAt hh t1, ⟨_, heapAt ho t1, own_nil _ _ _ _⟩, heapAt p1 t2, heapAt v2 B3, ?_⟩
  rw [v3, hob]
theorem own_row2 {w : World} {base : Nat} {e : TypeId} {v x y : Value} (h : w.ownsRow base e 1 v 2 [x, y]) : ∃ g cap, v = .slice (some ⟨g, 0, none⟩) 2 cap ∧ base ≤ g ∧ w.cell? ⟨g, 0, none⟩ = some x ∧ w.cell? ⟨g, 1, none⟩ = some y := by
  obtain ⟨_, h2⟩ := h
  rcases h2 with ⟨_, h2⟩ | ⟨g, cap, cur, rfl, hg, hh, _, _, _, ht⟩
  · cases h2
  · have e : ∀ k, k < 2 → cur[k]? = [x, y][k]? := fun k hk => by
      rw [← ht, Nat.mul_one, List.getElem?_take, if_pos (by omega), Array.getElem?_toList]
    have hc : ∀ k, w.cell? ⟨g, k, none⟩ = cur[k]? := fun k => by simp only [World.cell?, hh]; simp
    exact ⟨g, cap, rfl, hg, by rw [hc, e 0 (by omega)]; rfl, by rw [hc, e 1 (by omega)]; rfl⟩
set_option maxHeartbeats 4000000 in
set_option maxRecDepth 100000 in
theorem each_calls (W : World) (bt bh bo : Nat) (w : World) (hB : Below W.heap.size W w) (hlo : W.heap.size ≤ bo) (hne : bt ≠ bo ∧ bh ≠ bo) (hT : TownAt bt w)
    (hh : w.heap[bh]? = some (.cells #[.func (.func 88) #[] #[.pointer (some ⟨bt, 0, none⟩)]] 90 (0, 0)))
    (ho : w.heap[bo]? = some (.cells #[.slice none 0 0] 22 (0, 0))) :
    Calls Tryz.prog 135 #[.int .i64 7, .func (.func 136) #[] #[.pointer (some ⟨bo, 0, none⟩), .pointer (some ⟨bh, 0, none⟩)]] w fun e w' => e = .returned (.bool true) ∧
      Below W.heap.size W w' ∧ ∃ v, w'.heap[bo]? = some (.cells #[v] 22 (0, 0)) ∧ w'.ownsRow (bo + 1) 3 1 v 2 [.int .i64 0, .int .i64 2] := by
  have hmf : ∀ (fn : Fn) (first cap : Array Value) (w : World), (Instr.makeFunc fn first cap).run Tryz.prog w = .ok (.func fn first cap) w := fun _ _ _ _ => rfl
  have H1 := Aside0.mk hB
  have H2 := Aside0.mk hT
  have H3 := Aside0.mk hh
  have H4 := Aside0.mk ho
  clear hB hT hh ho
  go_enter Tryz.func135, Tryz.ntmps135
  go_wp2_with (go_at_call 176; refine (on_0 W bt bh bo _ _ _ _ _ (env_at W bt bh bo w H1.out hlo hne H2.out H3.out H4.out)).mono ?_; rintro e w1 ⟨rfl, kk⟩)
  have K1 := Aside0.mk kk
  clear kk
  go_ret
  obtain ⟨v, h1, h2⟩ := K1.out.o
  exact ⟨rfl, K1.out.below, v, h1, h2⟩
set_option maxHeartbeats 4000000 in
set_option maxRecDepth 100000 in
theorem first_calls (bt : Nat) (w : World) (hT : TownAt bt w) :
    Calls Tryz.prog 87 #[.agg townV, .func (.func 88) #[] #[.pointer (some ⟨bt, 0, none⟩)]] w fun e w' => ∃ g c, e = .returned (.tuple #[.slice (some ⟨g, 0, none⟩) 2 c, .int .i64 0]) ∧
      w'.cell? ⟨g, 0, none⟩ = some (.int .i64 0) ∧ w'.cell? ⟨g, 1, none⟩ = some (.int .i64 2) ∧ Below w.heap.size w w' := by
  have hmf : ∀ (fn : Fn) (first cap : Array Value) (w : World), (Instr.makeFunc fn first cap).run Tryz.prog w = .ok (.func fn first cap) w := fun _ _ _ _ => rfl
  have hlt := hT.lt
  have B1 := below_alloc (Below.refl _ w) (.cells townV 147)
  have B2 := below_alloc B1 (.cells #[.func (.func 88) #[] #[.pointer (some ⟨bt, 0, none⟩)]] 90)
  have B3 := below_alloc B2 (.cells #[.slice none 0 0] 22)
  have B4 := Aside0.mk (below_alloc B3 (.cells townV 147))
  have T4 := Aside0.mk (hT.below B4.out)
  have h2 := heap_at (w.alloc (.cells townV 147)) (.cells #[.func (.func 88) #[] #[.pointer (some ⟨bt, 0, none⟩)]] 90)
  have h3 := heap_at ((w.alloc (.cells townV 147)).alloc (.cells #[.func (.func 88) #[] #[.pointer (some ⟨bt, 0, none⟩)]] 90)) (.cells #[.slice none 0 0] 22)
  have h2' := heapAt (heapAt h2 (below_alloc (Below.refl _ _) (.cells #[.slice none 0 0] 22))) (below_alloc (Below.refl _ _) (.cells townV 147))
  have h3' := heapAt h3 (below_alloc (Below.refl _ _) (.cells townV 147))
  simp only [World.size_alloc] at h2' h3'
  have H2 := Aside0.mk h2'
  have H3 := Aside0.mk h3'
  clear B1 B2 B3 h2 h3 h2' h3' hT
  go_enter Tryz.func87, Tryz.ntmps87
  go_wp2_with (first | (go_at_call 90; ((with_reducible refine (ever_calls _).mono ?_); rintro e w1 ⟨rfl, rfl⟩)) | (go_at_call 135; ((refine (each_calls w bt (w.heap.size + 1) (w.heap.size + 1 + 1) _ B4.out (by omega) (by omega) T4.out H2.out H3.out).mono ?_); rintro e w2 ⟨rfl, hb, v, hv, ho⟩; have HV := Aside0.mk hv; have HO := Aside0.mk ho; have HB := Aside0.mk hb; have cv := cellY hv; clear hb hv ho)))
  go_ret2
  obtain ⟨g, c, rfl, _, c0, c1⟩ := own_row2 HO.out
  exact ⟨g, c, rfl, c0, c1, HB.out⟩
set_option maxHeartbeats 4000000 in
set_option maxRecDepth 100000 in
theorem kernel_calls (b : Nat) (cap : Nat) (w : World) (h0 : w.cell? ⟨b, 0, none⟩ = some (.int .i64 0)) (h1 : w.cell? ⟨b, 1, none⟩ = some (.int .i64 1)) (h2 : w.cell? ⟨b, 2, none⟩ = some (.int .i64 1)) (h3 : w.cell? ⟨b, 3, none⟩ = some (.int .i64 2)) (hb : b < w.heap.size) :
    Calls Tryz.prog 47 #[.int .i64 3, .slice (some ⟨b, 0, none⟩) 2 cap] w fun e w' => ∃ g c, e = .returned (.tuple #[.slice (some ⟨g, 0, none⟩) 2 c, .int .i64 0]) ∧
      w'.cell? ⟨g, 0, none⟩ = some (.int .i64 0) ∧ w'.cell? ⟨g, 1, none⟩ = some (.int .i64 2) ∧ Below w.heap.size w w' := by
  have hmf : ∀ (fn : Fn) (first cap : Array Value) (w : World), (Instr.makeFunc fn first cap).run Tryz.prog w = .ok (.func fn first cap) w := fun _ _ _ _ => rfl
  go_enter Tryz.func47, Tryz.ntmps47
  go_wp2_with fail
  refine (of_calls b cap _ h0 h1 h2 h3 hb).mono ?_
  rintro e w1 ⟨rfl, hb1⟩
  have HB := Aside0.mk (below_alloc hb1 (.cells townV 147))
  clear hb1 h0 h1 h2 h3
  go_wp2_with (go_at_call 87; refine (first_calls w1.heap.size _ (TownAt.new w1)).mono ?_; rintro e w2 ⟨g, c, rfl, c0, c1, hb2⟩)
  go_ret2
  exact ⟨g, c, rfl, c0, c1, HB.out.trans (hb2.mono HB.out.size)⟩
def pomadetop_spoken.f : Option Bool := some true
set_option maxHeartbeats 4000000 in
set_option maxRecDepth 100000 in
theorem pomadetop_spoken.calls (r : Bool) (w : World) (h : pomadetop_spoken.f = some r) :
    Calls Tryz.prog 22 #[] w fun e w' => e = .returned (.bool r) ∧ Below w.heap.size w w' := by
  obtain rfl : true = r := Option.some.inj h
  have HB0 := Aside0.mk (below_alloc (Below.refl _ w) (.cells #[.int .i64 0, .int .i64 1, .int .i64 1, .int .i64 2] 84))
  have a0 := cell_new w #[.int .i64 0, .int .i64 1, .int .i64 1, .int .i64 2] 84 0 (.int .i64 0) rfl
  have a1 := cell_new w #[.int .i64 0, .int .i64 1, .int .i64 1, .int .i64 2] 84 1 (.int .i64 1) rfl
  have a2 := cell_new w #[.int .i64 0, .int .i64 1, .int .i64 1, .int .i64 2] 84 2 (.int .i64 1) rfl
  have a3 := cell_new w #[.int .i64 0, .int .i64 1, .int .i64 1, .int .i64 2] 84 3 (.int .i64 2) rfl
  have al : w.heap.size < (w.alloc (.cells #[.int .i64 0, .int .i64 1, .int .i64 1, .int .i64 2] 84)).heap.size := by simp
  have A0 := Aside0.mk a0
  have A1 := Aside0.mk a1
  have A2 := Aside0.mk a2
  have A3 := Aside0.mk a3
  clear a0 a1 a2 a3 h
  go_enter Tryz.func22, Tryz.ntmps22
  go_wp2_with fail
  refine (sentences_calls w.heap.size _ _ A0.out A1.out A2.out A3.out al).mono ?_
  rintro e w1 ⟨v, rfl, ho, hb1⟩
  obtain ⟨g, c, rfl, _, hr⟩ := own_row3 ho
  have HR := Aside0.mk hr
  have HB1 := Aside0.mk (HB0.out.trans (hb1.mono HB0.out.size))
  have C0 := Aside0.mk (pw_cell_below hb1 A0.out)
  have C1 := Aside0.mk (pw_cell_below hb1 A1.out)
  have C2 := Aside0.mk (pw_cell_below hb1 A2.out)
  have C3 := Aside0.mk (pw_cell_below hb1 A3.out)
  have cl : w.heap.size < w1.heap.size := Nat.lt_of_lt_of_le al hb1.size
  clear hr ho hb1 A0 A1 A2 A3 HB0 al
  go_wp2_with fail
  refine (least_calls g c _ HR.out).mono ?_
  rintro e w2 ⟨rfl, hb2⟩
  have HB2 := Aside0.mk (HB1.out.trans (hb2.mono HB1.out.size))
  have D0 := Aside0.mk (pw_cell_below hb2 C0.out)
  have D1 := Aside0.mk (pw_cell_below hb2 C1.out)
  have D2 := Aside0.mk (pw_cell_below hb2 C2.out)
  have D3 := Aside0.mk (pw_cell_below hb2 C3.out)
  have dl : w.heap.size < w2.heap.size := Nat.lt_of_lt_of_le cl hb2.size
  clear hb2 HR C0 C1 C2 C3 HB1 cl
  go_wp2_with fail
  refine (kernel_calls w.heap.size _ _ D0.out D1.out D2.out D3.out dl).mono ?_
  rintro e w3 ⟨g3, c3, rfl, k0, k1, hb3⟩
  have HB3 := Aside0.mk (HB2.out.trans (hb3.mono HB2.out.size))
  clear hb3 HB2 D0 D1 D2 D3 dl
  go_wp2
  go_ret
  exact ⟨rfl, HB3.out⟩
end Go.Proofs.YtldohjlcckbfaaaGreatDoor.Hand
namespace Go.Proofs.YtldohjlcckbfaaaGreatDoor.Print
open Go.RowKit Go.Proofs.YtldohjlcckbfaaaGreatDoor.Hand Go.Proofs.YtldohjlcckbfaaaGreatDoor.Base Go.Proofs.YtldohjlcckbfaaaGreatDoor.Pre Go.Proofs.YtldohjlcckbfaaaGreatDoorW.PrintWords Go.Proofs.YtldohjlcckbfaaaGreatDoorW.PrintLast Go.Proofs.YtldohjlcckbfaaaGreatDoorW.PrintMore
attribute [local go_sem] max2_int min2_int max_two min_two max_three min_three max_four min_four   -- for this text's walks alone
set_option linter.unusedVariables false
set_option linter.unusedSimpArgs false
def errW : Option Int → Value
  | none => .nilIface
  | some c => .iface 0 (.int .i64 c)
theorem errW_none : errW none = .nilIface := rfl
theorem errW_some (c : Int) : errW (some c) = .iface 0 (.int .i64 c) := rfl
theorem info3 : (Tryz.prog.info? 3).map (fun i => (i.zero, i.size, i.bytes)) = some (some (.int .i64 0), 1, 8) := by kernel_rfl
theorem info4 : (Tryz.prog.info? 4).map (fun i => (i.zero, i.size, i.bytes)) = some (some (.bool false), 1, 1) := by kernel_rfl
end Go.Proofs.YtldohjlcckbfaaaGreatDoor.Print
