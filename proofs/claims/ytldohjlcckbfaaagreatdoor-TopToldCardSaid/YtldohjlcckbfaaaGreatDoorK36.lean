/- A part of the proof that pomadetop.TopTold returns true for every input: HandUp, HandUq, HandUr. No condition beyond those that each theorem states. -/
import Derived.StillTailTactics
import Derived.Test.YtldohjlcckbfaaaGreatDoorK35
namespace Go.Proofs.YtldohjlcckbfaaaGreatDoor.Hand
open Go.RowKit Go.Proofs.YtldohjlcckbfaaaGreatDoorW.PrintWords Go.Proofs.YtldohjlcckbfaaaGreatDoorW.PrintLast Go.Proofs.YtldohjlcckbfaaaGreatDoorW.PrintMore
set_option linter.unusedVariables false
set_option linter.unusedSimpArgs false
open Go.Proofs.YtldohjlcckbfaaaGreatDoor.Pre
open TopWords
abbrev town8 : Array Value := #[.int .i64 8, .int .i64 1, .int .i64 0, .int .i64 0, .int .i64 0, .int .i64 0, .int .i64 0, .int .i64 0, .int .i64 0, .int .i64 0, .int .i64 0, .int .i64 0, .int .i64 0]
theorem cell8_new (w : World) (xs : Array Value) (T k : Nat) (v : Value) (h : xs[k]? = some v) : (w.alloc (.cells xs T)).cell? ⟨w.heap.size, k, none⟩ = some v := by
  simp only [World.cell?, heap_alloc_new]
  simpa using h
structure Town8At (p : Nat) (w : World) : Prop where
  at_ : w.heap[p]? = some (.cells town8 147 (0, 0))
theorem Town8At.cell {p : Nat} {w : World} (h : Town8At p w) (k : Nat) (v : Value) (hv : town8[k]? = some v) : w.cell? ⟨p, k, none⟩ = some v := by
  simp only [World.cell?, h.at_]
  simpa using hv
theorem Town8At.lt {p : Nat} {w : World} (h : Town8At p w) : p < w.heap.size := (Array.getElem?_eq_some_iff.1 h.at_).1
theorem Town8At.below {p : Nat} {w w' : World} (h : Town8At p w) (hb : Below w.heap.size w w') : Town8At p w' := ⟨(hb.5 _ h.lt).trans h.at_⟩
theorem Town8At.new (w : World) : Town8At w.heap.size (w.alloc (.cells town8 147)) := ⟨by rw [heap_alloc_new]⟩
set_option maxHeartbeats 2000000 in
set_option maxRecDepth 100000 in
theorem ind8_make (S : Int) (w : World) : Calls Tryz.prog 138 #[.agg town8, .int .i64 S] w fun e w' => e = .returned (.func (.func 177) #[] #[.pointer (some ⟨w.heap.size + 1, 0, none⟩), .pointer (some ⟨w.heap.size, 0, none⟩)]) ∧ w' = (w.alloc (.cells town8 147)).alloc (.cells #[.int .i64 S] 3) := by
  have hmf : ∀ (fn : Fn) (first cap : Array Value) (w : World), (Instr.makeFunc fn first cap).run Tryz.prog w = .ok (.func fn first cap) w := fun _ _ _ _ => rfl
  go_enter Tryz.func138, Tryz.ntmps138
  go_wp2
  go_ret
  exact ⟨rfl, rfl⟩
set_option maxHeartbeats 2000000 in
set_option maxRecDepth 100000 in
theorem abs8_make (S p : Int) (w : World) : Calls Tryz.prog 139 #[.agg town8, .int .i64 S, .int .i64 p] w fun e w' => e = .returned (.func (.func 178) #[] #[.pointer (some ⟨w.heap.size + 2, 0, none⟩), .pointer (some ⟨w.heap.size + 1, 0, none⟩), .pointer (some ⟨w.heap.size, 0, none⟩)]) ∧ w' = ((w.alloc (.cells town8 147)).alloc (.cells #[.int .i64 S] 3)).alloc (.cells #[.int .i64 p] 3) := by
  have hmf : ∀ (fn : Fn) (first cap : Array Value) (w : World), (Instr.makeFunc fn first cap).run Tryz.prog w = .ok (.func fn first cap) w := fun _ _ _ _ => rfl
  go_enter Tryz.func139, Tryz.ntmps139
  go_wp2
  go_ret
  exact ⟨rfl, rfl⟩
structure Tests8 (S : Int) (c1 t1 c2 p2 t2 r : Nat) (w : World) : Prop where
  s1 : w.cell? ⟨c1, 0, none⟩ = some (.int .i64 S)
  a1 : Town8At t1 w
  s2 : w.cell? ⟨c2, 0, none⟩ = some (.int .i64 S)
  q2 : w.cell? ⟨p2, 0, none⟩ = some (.int .i64 255)
  a2 : Town8At t2 w
  f1 : w.cell? ⟨r, 0, none⟩ = some (.func (.func 177) #[] #[.pointer (some ⟨c1, 0, none⟩), .pointer (some ⟨t1, 0, none⟩)])
  f2 : w.cell? ⟨r, 1, none⟩ = some (.func (.func 178) #[] #[.pointer (some ⟨p2, 0, none⟩), .pointer (some ⟨c2, 0, none⟩), .pointer (some ⟨t2, 0, none⟩)])
theorem Tests8.below {S : Int} {c1 t1 c2 p2 t2 r : Nat} {w w' : World} (h : Tests8 S c1 t1 c2 p2 t2 r w) (hb : Below w.heap.size w w') : Tests8 S c1 t1 c2 p2 t2 r w' :=
  ⟨pw_cell_below hb h.s1, h.a1.below hb, pw_cell_below hb h.s2, pw_cell_below hb h.q2, h.a2.below hb, pw_cell_below hb h.f1, pw_cell_below hb h.f2⟩
theorem drawn8_below {w w' : World} (h : Drawn0 w w') : Below w.heap.size w w' := by
  obtain ⟨n, rfl⟩ := h
  exact pw_below_drewN (Below.refl _ _) n
theorem tests8_at (S : Int) (w : World) : Tests8 S (w.heap.size + 1 + 1) (w.heap.size + 1) (w.heap.size + 1 + 1 + 1 + 1) (w.heap.size + 1 + 1 + 1 + 2) (w.heap.size + 1 + 1 + 1) (w.heap.size + 1 + 1 + 1 + 1 + 1 + 1)
    (((((((w.alloc (.cells town8 147)).alloc (.cells town8 147)).alloc (.cells #[.int .i64 S] 3)).alloc (.cells town8 147)).alloc (.cells #[.int .i64 S] 3)).alloc (.cells #[.int .i64 255] 3)).alloc
      (.cells #[.func (.func 177) #[] #[.pointer (some ⟨w.heap.size + 1 + 1, 0, none⟩), .pointer (some ⟨w.heap.size + 1, 0, none⟩)],
        .func (.func 178) #[] #[.pointer (some ⟨w.heap.size + 1 + 1 + 1 + 2, 0, none⟩), .pointer (some ⟨w.heap.size + 1 + 1 + 1 + 1, 0, none⟩), .pointer (some ⟨w.heap.size + 1 + 1 + 1, 0, none⟩)]] 90)).drew := by
  obtain ⟨n, hn⟩ : ∃ n, w.heap.size = n := ⟨_, rfl⟩
  have z1 : (w.alloc (.cells town8 147)).heap.size = n + 1 := by simp [hn]
  obtain ⟨w1, e1⟩ : ∃ w1, w.alloc (.cells town8 147) = w1 := ⟨_, rfl⟩
  rw [e1] at z1 ⊢
  rw [hn]
  have a1 := Town8At.new w1
  rw [z1] at a1
  have z2 : (w1.alloc (.cells town8 147)).heap.size = n + 1 + 1 := by simp [z1]
  obtain ⟨w2, e2⟩ : ∃ w2, w1.alloc (.cells town8 147) = w2 := ⟨_, rfl⟩
  rw [e2] at z2 a1 ⊢
  have s1 := cell8_new w2 #[.int .i64 S] 3 0 (.int .i64 S) rfl
  have B2 := below_alloc (Below.refl _ w2) (.cells #[.int .i64 S] 3)
  rw [z2] at s1
  have z3 : (w2.alloc (.cells #[.int .i64 S] 3)).heap.size = n + 1 + 1 + 1 := by simp [z2]
  obtain ⟨w3, e3⟩ : ∃ w3, w2.alloc (.cells #[.int .i64 S] 3) = w3 := ⟨_, rfl⟩
  rw [e3] at z3 s1 B2 ⊢
  have a2 := Town8At.new w3
  have B3 := below_alloc (Below.refl _ w3) (.cells town8 147)
  rw [z3] at a2
  have z4 : (w3.alloc (.cells town8 147)).heap.size = n + 1 + 1 + 1 + 1 := by simp [z3]
  obtain ⟨w4, e4⟩ : ∃ w4, w3.alloc (.cells town8 147) = w4 := ⟨_, rfl⟩
  rw [e4] at z4 a2 B3 ⊢
  have s2 := cell8_new w4 #[.int .i64 S] 3 0 (.int .i64 S) rfl
  have B4 := below_alloc (Below.refl _ w4) (.cells #[.int .i64 S] 3)
  rw [z4] at s2
  have z5 : (w4.alloc (.cells #[.int .i64 S] 3)).heap.size = n + 1 + 1 + 1 + 2 := by simp [z4]
  obtain ⟨w5, e5⟩ : ∃ w5, w4.alloc (.cells #[.int .i64 S] 3) = w5 := ⟨_, rfl⟩
  rw [e5] at z5 s2 B4 ⊢
  have q2 := cell8_new w5 #[.int .i64 255] 3 0 (.int .i64 255) rfl
  have B5 := below_alloc (Below.refl _ w5) (.cells #[.int .i64 255] 3)
  rw [z5] at q2
  have z6 : (w5.alloc (.cells #[.int .i64 255] 3)).heap.size = n + 1 + 1 + 1 + 1 + 1 + 1 := by simp [z5]
  obtain ⟨w6, e6⟩ : ∃ w6, w5.alloc (.cells #[.int .i64 255] 3) = w6 := ⟨_, rfl⟩
  rw [e6] at z6 q2 B5 ⊢
  obtain ⟨xs, hxs⟩ : ∃ xs : Array Value, #[.func (.func 177) #[] #[.pointer (some ⟨n + 1 + 1, 0, none⟩), .pointer (some ⟨n + 1, 0, none⟩)],
        .func (.func 178) #[] #[.pointer (some ⟨n + 1 + 1 + 1 + 2, 0, none⟩), .pointer (some ⟨n + 1 + 1 + 1 + 1, 0, none⟩), .pointer (some ⟨n + 1 + 1 + 1, 0, none⟩)]] = xs := ⟨_, rfl⟩
  have f1 := cell8_new w6 xs 90 0 (.func (.func 177) #[] #[.pointer (some ⟨n + 1 + 1, 0, none⟩), .pointer (some ⟨n + 1, 0, none⟩)]) (by rw [← hxs]; rfl)
  have f2 := cell8_new w6 xs 90 1 (.func (.func 178) #[] #[.pointer (some ⟨n + 1 + 1 + 1 + 2, 0, none⟩), .pointer (some ⟨n + 1 + 1 + 1 + 1, 0, none⟩), .pointer (some ⟨n + 1 + 1 + 1, 0, none⟩)]) (by rw [← hxs]; rfl)
  rw [z6] at f1 f2
  rw [hxs]
  have B6 := below_alloc (Below.refl _ w6) (.cells xs 90)
  obtain ⟨w7, e7⟩ : ∃ w7, w6.alloc (.cells xs 90) = w7 := ⟨_, rfl⟩
  rw [e7] at f1 f2 B6 ⊢
  have B7 := below_drew1 (Below.refl w7.heap.size w7)
  have t6 := B6.trans (B7.mono B6.size)
  have t5 := B5.trans (t6.mono B5.size)
  have t4 := B4.trans (t5.mono B4.size)
  have t3 := B3.trans (t4.mono B3.size)
  have t2 := B2.trans (t3.mono B2.size)
  exact ⟨pw_cell_below t3 s1, a1.below t2, pw_cell_below t5 s2, pw_cell_below t6 q2, a2.below t4, pw_cell_below B7 f1, pw_cell_below B7 f2⟩
set_option maxHeartbeats 4000000 in
set_option maxRecDepth 100000 in
theorem ind8_odd (S : Int) (h1 : bits .and .i64 S 1 = 1) (h2 : bits .and .i64 1 S = 1) (cs ct : Nat) (w : World) (hs : w.cell? ⟨cs, 0, none⟩ = some (.int .i64 S)) (hT : w.cell? ⟨ct, 1, none⟩ = some (.int .i64 1)) :
    Calls Tryz.prog 177 #[.int .i64 0, .pointer (some ⟨cs, 0, none⟩), .pointer (some ⟨ct, 0, none⟩)] w fun e w' => e = .returned (.bool false) ∧ Drawn0 w w' := by
  go_enter Tryz.func177, Tryz.ntmps177
  go_wp2
  go_quiet (fail)
  go_wp2
  go_ret
  exact ⟨rfl, ⟨_, rfl⟩⟩
set_option maxHeartbeats 4000000 in
set_option maxRecDepth 100000 in
theorem ind8_even (S : Int) (h1 : bits .and .i64 S 1 = 0) (cs ct : Nat) (w : World) (hs : w.cell? ⟨cs, 0, none⟩ = some (.int .i64 S)) (hT : w.cell? ⟨ct, 1, none⟩ = some (.int .i64 1)) :
    Calls Tryz.prog 177 #[.int .i64 0, .pointer (some ⟨cs, 0, none⟩), .pointer (some ⟨ct, 0, none⟩)] w fun e w' => e = .returned (.bool true) ∧ Drawn0 w w' := by
  go_enter Tryz.func177, Tryz.ntmps177
  go_wp2
  go_quiet (fail)
  go_wp2
  go_ret
  exact ⟨rfl, ⟨_, rfl⟩⟩
set_option maxHeartbeats 4000000 in
set_option maxRecDepth 100000 in
theorem abs8_even (S R : Int) (h0 : bits .andNot .i64 255 S = R) (h1 : bits .and .i64 R 1 = 1) (h2 : bits .and .i64 1 S = 0) (cp cs ct : Nat) (w : World) (hp : w.cell? ⟨cp, 0, none⟩ = some (.int .i64 255)) (hs : w.cell? ⟨cs, 0, none⟩ = some (.int .i64 S)) (hT : w.cell? ⟨ct, 1, none⟩ = some (.int .i64 1)) :
    Calls Tryz.prog 178 #[.int .i64 0, .pointer (some ⟨cp, 0, none⟩), .pointer (some ⟨cs, 0, none⟩), .pointer (some ⟨ct, 0, none⟩)] w fun e w' => e = .returned (.bool false) ∧ Drawn0 w w' := by
  go_enter Tryz.func178, Tryz.ntmps178
  go_wp2
  go_quiet (fail)
  go_wp2
  go_ret
  exact ⟨rfl, ⟨_, rfl⟩⟩
set_option maxHeartbeats 4000000 in
set_option maxRecDepth 100000 in
theorem all8_even (S R : Int) (b0 : bits .andNot .i64 255 S = R) (b1 : bits .and .i64 R 1 = 1) (b2 : bits .and .i64 1 S = 0) (b3 : bits .and .i64 S 1 = 0) (c1 t1 c2 p2 t2 r cap : Nat) (w : World) (h : Tests8 S c1 t1 c2 p2 t2 r w) :
    Calls Tryz.prog 137 #[.agg town8, .slice (some ⟨r, 0, none⟩) 2 cap] w fun e w' => e = .returned (.bool false) ∧ Below w.heap.size w w' := by
  have hb0 := below_alloc (Below.refl _ w) (.cells town8 147)
  have HT := Aside0.mk (h.below hb0)
  have HB := Aside0.mk hb0
  have k1 := HT.out.f1
  have k2 := HT.out.f2
  clear h hb0
  go_enter Tryz.func137, Tryz.ntmps137
  go_wp2
  obtain ⟨w0, hw0⟩ : ∃ w0, w.alloc (.cells town8 147) = w0 := ⟨_, rfl⟩
  rw [hw0] at HT HB k1 k2 ⊢
  clear hw0
  refine wp_loop_rounds 4 ?_
  rw [rounds_succ]
  go_wp2
  refine wp_loop_rounds 3 ?_
  rw [rounds_succ]
  go_wp2_with fail
  refine (ind8_even S b3 _ _ _ HT.out.s1 (HT.out.a1.cell 1 _ rfl)).mono ?_
  rintro e w1 ⟨rfl, hb⟩
  have hb' := drawn8_below hb
  have HT1 := Aside0.mk (HT.out.below hb')
  have HB1 := Aside0.mk (HB.out.trans (hb'.mono HB.out.size))
  have k1 := HT1.out.f1
  have k2 := HT1.out.f2
  clear hb hb' HT HB
  go_wp2
  rw [rounds_succ]
  go_wp2_with fail
  refine (abs8_even S R b0 b1 b2 _ _ _ _ HT1.out.q2 HT1.out.s2 (HT1.out.a2.cell 1 _ rfl)).mono ?_
  rintro e w2 ⟨rfl, hb⟩
  have hb' := drawn8_below hb
  have HT2 := Aside0.mk (HT1.out.below hb')
  have HB2 := Aside0.mk (HB1.out.trans (hb'.mono HB1.out.size))
  have k1 := HT2.out.f1
  have k2 := HT2.out.f2
  clear hb hb' HT1 HB1
  go_wp2
  go_ret
  exact ⟨rfl, HB2.out⟩
set_option maxHeartbeats 4000000 in
set_option maxRecDepth 100000 in
theorem all8_odd (S : Int) (b1 : bits .and .i64 S 1 = 1) (b2 : bits .and .i64 1 S = 1) (c1 t1 c2 p2 t2 r cap : Nat) (w : World) (h : Tests8 S c1 t1 c2 p2 t2 r w) :
    Calls Tryz.prog 137 #[.agg town8, .slice (some ⟨r, 0, none⟩) 2 cap] w fun e w' => e = .returned (.bool false) ∧ Below w.heap.size w w' := by
  have hb0 := below_alloc (Below.refl _ w) (.cells town8 147)
  have HT := Aside0.mk (h.below hb0)
  have HB := Aside0.mk hb0
  have k1 := HT.out.f1
  have k2 := HT.out.f2
  clear h hb0
  go_enter Tryz.func137, Tryz.ntmps137
  go_wp2
  obtain ⟨w0, hw0⟩ : ∃ w0, w.alloc (.cells town8 147) = w0 := ⟨_, rfl⟩
  rw [hw0] at HT HB k1 k2 ⊢
  clear hw0
  refine wp_loop_rounds 4 ?_
  rw [rounds_succ]
  go_wp2
  refine wp_loop_rounds 3 ?_
  rw [rounds_succ]
  go_wp2_with fail
  refine (ind8_odd S b1 b2 _ _ _ HT.out.s1 (HT.out.a1.cell 1 _ rfl)).mono ?_
  rintro e w1 ⟨rfl, hb⟩
  have hb' := drawn8_below hb
  have HB1 := Aside0.mk (HB.out.trans (hb'.mono HB.out.size))
  clear hb hb' HT HB
  go_wp2
  go_ret
  exact ⟨rfl, HB1.out⟩
structure SetOk (S : Int) : Prop where
  ok : (bits .and .i64 S 1 = 1 ∧ bits .and .i64 1 S = 1) ∨ (bits .and .i64 (bits .andNot .i64 255 S) 1 = 1 ∧ bits .and .i64 1 S = 0 ∧ bits .and .i64 S 1 = 0)
theorem all8_any (S : Int) (hS : SetOk S) (c1 t1 c2 p2 t2 r cap : Nat) (w : World) (h : Tests8 S c1 t1 c2 p2 t2 r w) :
    Calls Tryz.prog 137 #[.agg town8, .slice (some ⟨r, 0, none⟩) 2 cap] w fun e w' => e = .returned (.bool false) ∧ Below w.heap.size w w' := by
  rcases hS.ok with ⟨b1, b2⟩ | ⟨b1, b2, b3⟩
  · exact all8_odd S b1 b2 c1 t1 c2 p2 t2 r cap w h
  · exact all8_even S _ rfl b1 b2 b3 c1 t1 c2 p2 t2 r cap w h
set_option maxHeartbeats 4000000 in
set_option maxRecDepth 100000 in
theorem kernel8 (S : Int) (hS : SetOk S) (w : World) :
    Calls Tryz.prog 89 #[.agg town8, .int .i64 S, .int .i64 255] w fun e w' => e = .returned (.bool false) ∧ Below w.heap.size w w' := by
  have hmf : ∀ (fn : Fn) (first cap : Array Value) (w : World), (Instr.makeFunc fn first cap).run Tryz.prog w = .ok (.func fn first cap) w := fun _ _ _ _ => rfl
  go_enter Tryz.func89, Tryz.ntmps89
  go_wp2
  go_region_law (go_simp; (first | (go_at_call 138; ((with_reducible refine (ind8_make _ _).mono ?_); rintro e w1 ⟨rfl, rfl⟩)) | (go_at_call 139; ((with_reducible refine (abs8_make _ _ _).mono ?_); rintro e w1 ⟨rfl, rfl⟩)) | (go_at_call 137; ((refine (all8_any S hS _ _ _ _ _ _ _ _ (tests8_at S w)).mono ?_); rintro e w1 ⟨rfl, hb⟩))))
  all_goals go_wp2
  all_goals go_ret
  all_goals refine ⟨rfl, Below.trans ?_ (hb.mono (by simp; omega))⟩
  all_goals repeat (first | exact Below.refl _ _ | apply below_drew1 | apply below_alloc)
theorem ever8_calls (w : World) : Calls Tryz.prog 90 #[.agg town8] w fun e w' => e = .returned (.int .i64 255) ∧ w' = w.alloc (.cells town8 147) := by
  go_enter Tryz.func90, Tryz.ntmps90
  go_wp2
  go_ret
  exact ⟨rfl, rfl⟩
end Go.Proofs.YtldohjlcckbfaaaGreatDoor.Hand
namespace Go.Proofs.YtldohjlcckbfaaaGreatDoor.Hand
open Go.RowKit Go.Proofs.YtldohjlcckbfaaaGreatDoorW.PrintWords Go.Proofs.YtldohjlcckbfaaaGreatDoorW.PrintLast Go.Proofs.YtldohjlcckbfaaaGreatDoorW.PrintMore
set_option linter.unusedVariables false
set_option linter.unusedSimpArgs false
open Go.Proofs.YtldohjlcckbfaaaGreatDoor.Pre
open TopWords
structure Env8 (bt bh bo bv bp bn : Nat) (w : World) : Prop where
  ne : bt ≠ bo ∧ bh ≠ bo ∧ bv ≠ bo ∧ bp ≠ bo ∧ bn ≠ bo
  t : Town8At bt w
  h : w.heap[bh]? = some (.cells #[.func (.func 88) #[] #[.pointer (some ⟨bt, 0, none⟩)]] 90 (0, 0))
  o : ∃ v, w.heap[bo]? = some (.cells #[v] 22 (0, 0)) ∧ ∃ A n c, v = .slice A n c
  v : w.heap[bv]? = some (.cells #[.func (.func 136) #[] #[.pointer (some ⟨bo, 0, none⟩), .pointer (some ⟨bh, 0, none⟩)]] 90 (0, 0))
  p : w.heap[bp]? = some (.cells #[.int .i64 255] 3 (0, 0))
  n : w.heap[bn]? = some (.cells #[.func (.func 176) #[] #[.pointer (some ⟨bv, 0, none⟩), .pointer (some ⟨bp, 0, none⟩), .pointer (some ⟨bn, 0, none⟩)]] 156 (0, 0))
theorem Env8.below {bt bh bo bv bp bn : Nat} {w w' : World} (e : Env8 bt bh bo bv bp bn w) (hb : Below w.heap.size w w') : Env8 bt bh bo bv bp bn w' :=
  ⟨e.ne, e.t.below hb, blk_below e.h hb, by obtain ⟨v, h, hs⟩ := e.o; exact ⟨v, blk_below h hb, hs⟩, blk_below e.v hb, blk_below e.p hb, blk_below e.n hb⟩
theorem Env8.set {bt bh bo bv bp bn : Nat} {w : World} (e : Env8 bt bh bo bv bp bn w) (A : Option Addr) (n c : Nat) : Env8 bt bh bo bv bp bn (w.setCell ⟨bo, 0, none⟩ (.slice A n c)) := by
  obtain ⟨n1, n2, n3, n4, n5⟩ := e.ne
  obtain ⟨v, h, hs⟩ := e.o
  refine ⟨e.ne, ⟨by rw [Below.heap_setCell _ _ _ _ n1]; exact e.t.at_⟩, by rw [Below.heap_setCell _ _ _ _ n2]; exact e.h, ⟨.slice A n c, by rw [heap_setCell_same _ _ _ _ _ _ h]; rfl, A, n, c, rfl⟩, by rw [Below.heap_setCell _ _ _ _ n3]; exact e.v, by rw [Below.heap_setCell _ _ _ _ n4]; exact e.p, by rw [Below.heap_setCell _ _ _ _ n5]; exact e.n⟩
theorem set_ok : ∀ S : Fin 256, (bits .and .i64 (S.val : Int) 1 = 1 ∧ bits .and .i64 1 (S.val : Int) = 1) ∨ (bits .and .i64 (bits .andNot .i64 255 (S.val : Int)) 1 = 1 ∧ bits .and .i64 1 (S.val : Int) = 0 ∧ bits .and .i64 (S.val : Int) 1 = 0) := by decide +kernel
theorem set_or : ∀ S : Fin 256, ∀ i : Fin 8, bits .or .i64 (S.val : Int) ((2 ^ i.val : Nat) : Int) = ((S.val ||| 2 ^ i.val : Nat) : Int) ∧ S.val ||| 2 ^ i.val < 256 := by decide +kernel
theorem set_members : ∀ S : Fin 256, (shave_members.f 20 (S.val : Int)).isSome = true := by decide +kernel
theorem set_is (S : Nat) (h : S < 256) : SetOk (S : Int) := ⟨set_ok ⟨S, h⟩⟩
theorem members8 (S : Nat) (h : S < 256) (w : World) : Calls Tryz.prog 83 #[.int .i64 S] w fun e w' => ∃ A n c, e = .returned (.slice A n c) ∧ Below w.heap.size w w' := by
  have hs := set_members ⟨S, h⟩
  obtain ⟨xs, hx⟩ := Option.isSome_iff_exists.1 hs
  refine (shave_members.calls 20 (S : Int) xs w hx).mono ?_
  rintro e w' ⟨v, rfl, hr, hb⟩
  obtain ⟨A, c, rfl⟩ := Kd.R_slice hr
  exact ⟨A, _, c, rfl, hb⟩
set_option maxHeartbeats 4000000 in
set_option maxRecDepth 100000 in
theorem has8 (S : Nat) (h : S < 256) (bt : Nat) (w : World) (hT : Town8At bt w) :
    Calls Tryz.prog 88 #[.int .i64 S, .pointer (some ⟨bt, 0, none⟩)] w fun e w' => e = .returned (.bool false) ∧ Below w.heap.size w w' := by
  have q0 := hT.cell 0 _ rfl
  have q1 := hT.cell 1 _ rfl
  have q2 := hT.cell 2 _ rfl
  have q3 := hT.cell 3 _ rfl
  have q4 := hT.cell 4 _ rfl
  have q5 := hT.cell 5 _ rfl
  have q6 := hT.cell 6 _ rfl
  have q7 := hT.cell 7 _ rfl
  have q8 := hT.cell 8 _ rfl
  have q9 := hT.cell 9 _ rfl
  have q10 := hT.cell 10 _ rfl
  have q11 := hT.cell 11 _ rfl
  have q12 := hT.cell 12 _ rfl
  have hlt := hT.lt
  have hk := set_is S h
  clear hT h
  go_enter Tryz.func88, Tryz.ntmps88
  go_wp2
  go_region_law (go_simp; (first | (go_at_call 90; ((with_reducible refine (ever8_calls _).mono ?_); rintro e w1 ⟨rfl, rfl⟩)) | (go_at_call 89; ((refine (kernel8 (S : Int) hk _).mono ?_); rintro e w1 ⟨rfl, hb⟩))))
  all_goals go_wp2
  all_goals go_ret
  all_goals refine ⟨rfl, Below.trans ?_ (hb.mono (by simp))⟩
  all_goals repeat (first | exact Below.refl _ _ | apply below_drew1 | apply below_alloc)
set_option maxHeartbeats 4000000 in
set_option maxRecDepth 100000 in
theorem visit8 (S : Nat) (h : S < 256) (bt bh bo bv bp bn : Nat) (w : World) (e0 : Env8 bt bh bo bv bp bn w) :
    Calls Tryz.prog 136 #[.int .i64 S, .pointer (some ⟨bo, 0, none⟩), .pointer (some ⟨bh, 0, none⟩)] w fun e w' => e = .returned (.bool false) ∧ Env8 bt bh bo bv bp bn w' ∧ Turn bo w w' := by
  have E0 := Aside0.mk e0
  have HM := Aside0.mk (members8 S h w)
  have HH := Aside0.mk (fun W hT => has8 S h bt W hT)
  clear e0 h
  go_enter Tryz.func136, Tryz.ntmps136
  go_wp2_with (first | (go_at_call 83; (with_reducible refine HM.out.mono ?_); rintro e w1 ⟨A, n, c, rfl, hb1⟩; have e1 := E0.out.below hb1; obtain ⟨v, ho, A0, n0, c0, rfl⟩ := e1.o; have x0 := cellAt ho; have x1 := blk_frozen ho 0; have E2 := Aside0.mk (e1.set A n c); have HT2 := Aside0.mk ((Turn.of_below (p := bo) hb1).set ⟨bo, 0, none⟩ (.inl rfl) (.slice A n c)); have y0 := cellAt E2.out.h; clear e1 ho hb1) | (go_at_call 88; (with_reducible refine (HH.out _ E2.out.t).mono ?_); rintro e w3 ⟨rfl, hb3⟩; have E3 := Aside0.mk (E2.out.below hb3); have HT3 := Aside0.mk (HT2.out.trans (Turn.of_below hb3)); clear hb3))
  go_ret
  exact ⟨rfl, E3.out, HT3.out⟩
end Go.Proofs.YtldohjlcckbfaaaGreatDoor.Hand
namespace Go.Proofs.YtldohjlcckbfaaaGreatDoor.Hand
open Go.RowKit Go.Proofs.YtldohjlcckbfaaaGreatDoorW.PrintWords Go.Proofs.YtldohjlcckbfaaaGreatDoorW.PrintLast Go.Proofs.YtldohjlcckbfaaaGreatDoorW.PrintMore
set_option linter.unusedVariables false
set_option linter.unusedSimpArgs false
open Go.Proofs.YtldohjlcckbfaaaGreatDoor.Pre
open TopWords
set_option maxHeartbeats 4000000 in
set_option maxRecDepth 100000 in
theorem on8_step (frm S : Nat) (hf : frm ≤ 8) (hS : S < 256) (bt bh bo bv bp bn : Nat)
    (IH : ∀ i : Nat, frm ≤ i → i < 8 → ∀ W, Env8 bt bh bo bv bp bn W → Calls Tryz.prog 176 #[.int .i64 (bits .or .i64 (S : Int) ((2 ^ i : Nat) : Int)), .int .i64 ((i + 1 : Nat) : Int), .pointer (some ⟨bv, 0, none⟩), .pointer (some ⟨bp, 0, none⟩), .pointer (some ⟨bn, 0, none⟩)] W fun e w' => e = .returned (.bool false) ∧ Env8 bt bh bo bv bp bn w' ∧ Turn bo W w')
    (w : World) (e0 : Env8 bt bh bo bv bp bn w) :
    Calls Tryz.prog 176 #[.int .i64 S, .int .i64 frm, .pointer (some ⟨bv, 0, none⟩), .pointer (some ⟨bp, 0, none⟩), .pointer (some ⟨bn, 0, none⟩)] w fun e w' => e = .returned (.bool false) ∧ Env8 bt bh bo bv bp bn w' ∧ Turn bo w w' := by
  have E0 := Aside0.mk e0
  have HV := Aside0.mk (visit8 S hS bt bh bo bv bp bn w e0)
  have HIH := Aside0.mk IH
  have c0 := cellAt e0.v
  clear e0 IH hS
  go_enter Tryz.func176, Tryz.ntmps176
  go_wp2_with (go_at_call 136; (with_reducible refine HV.out.mono ?_); rintro e w1 ⟨rfl, he, ht⟩; have E1 := Aside0.mk he; have HT1 := Aside0.mk ht; clear he ht c0)
  go_loopg [8] (8 - frm) (fun q v8 wr => ∃ i : Nat, v8 = .int .i64 i ∧ i + q = 8 ∧ frm ≤ i ∧ Aside0 (Env8 bt bh bo bv bp bn wr) ∧ Aside0 (Turn bo w wr))
  case atStart => exact ⟨frm, rfl, by omega, Nat.le_refl _, E1, HT1⟩
  case round =>
    obtain ⟨i, rfl, hiq, hfi, E, HT⟩ := hrel
    have p0 := cellAt E.out.p
    have n0 := cellAt E.out.n
    by_cases hlt : i < 8
    · obtain ⟨q', rfl⟩ : ∃ q, gk = q + 1 := ⟨gk - 1, by omega⟩
      have Ed := Aside0.mk (E.out.below (below_drew1 (Below.refl wr.heap.size wr)))
      have HC := Aside0.mk (HIH.out i hfi hlt wr.drew Ed.out)
      have p0d : wr.drew.cell? ⟨bp, 0, none⟩ = some (.int .i64 255) := p0
      have n0d := cellAt Ed.out.n
      have hc : i = 0 ∨ i = 1 ∨ i = 2 ∨ i = 3 ∨ i = 4 ∨ i = 5 ∨ i = 6 ∨ i = 7 := by omega
      have HFI := Aside0.mk hfi
      clear hfi hlt
      rcases hc with rfl | rfl | rfl | rfl | rfl | rfl | rfl | rfl
      · have HC2 : Aside0 (Calls Tryz.prog 176 #[.int .i64 (bits .or .i64 (S : Int) 1), .int .i64 1, .pointer (some ⟨bv, 0, none⟩), .pointer (some ⟨bp, 0, none⟩), .pointer (some ⟨bn, 0, none⟩)] wr.drew fun e w' => e = .returned (.bool false) ∧ Env8 bt bh bo bv bp bn w' ∧ Turn bo wr.drew w') := HC
        have b1 : bits .and .i64 255 1 = 1 := by rfl
        clear HC
        go_wp2
        go_still_tail 13, (by kernel_rfl)
        change wpList _ _ _ _ _ (World.drew wr)
        go_wp2_with (go_at_call 176; (with_reducible refine HC2.out.mono ?_); rintro e w2 ⟨rfl, he2, ht2⟩; have E2 := Aside0.mk he2; have HT2 := Aside0.mk ((HT.out.drew).trans ht2); clear he2 ht2)
        go_roundg q'
        case measure => omega
        case rel => exact ⟨1, by go_num, by omega, by have := HFI.out; omega, E2, HT2⟩
      · have HC2 : Aside0 (Calls Tryz.prog 176 #[.int .i64 (bits .or .i64 (S : Int) 2), .int .i64 2, .pointer (some ⟨bv, 0, none⟩), .pointer (some ⟨bp, 0, none⟩), .pointer (some ⟨bn, 0, none⟩)] wr.drew fun e w' => e = .returned (.bool false) ∧ Env8 bt bh bo bv bp bn w' ∧ Turn bo wr.drew w') := HC
        have b1 : bits .and .i64 127 1 = 1 := by rfl
        clear HC
        go_wp2
        go_still_tail 13, (by kernel_rfl)
        change wpList _ _ _ _ _ (World.drew wr)
        go_wp2_with (go_at_call 176; (with_reducible refine HC2.out.mono ?_); rintro e w2 ⟨rfl, he2, ht2⟩; have E2 := Aside0.mk he2; have HT2 := Aside0.mk ((HT.out.drew).trans ht2); clear he2 ht2)
        go_roundg q'
        case measure => omega
        case rel => exact ⟨2, by go_num, by omega, by have := HFI.out; omega, E2, HT2⟩
      · have HC2 : Aside0 (Calls Tryz.prog 176 #[.int .i64 (bits .or .i64 (S : Int) 4), .int .i64 3, .pointer (some ⟨bv, 0, none⟩), .pointer (some ⟨bp, 0, none⟩), .pointer (some ⟨bn, 0, none⟩)] wr.drew fun e w' => e = .returned (.bool false) ∧ Env8 bt bh bo bv bp bn w' ∧ Turn bo wr.drew w') := HC
        have b1 : bits .and .i64 63 1 = 1 := by rfl
        clear HC
        go_wp2
        go_still_tail 13, (by kernel_rfl)
        change wpList _ _ _ _ _ (World.drew wr)
        go_wp2_with (go_at_call 176; (with_reducible refine HC2.out.mono ?_); rintro e w2 ⟨rfl, he2, ht2⟩; have E2 := Aside0.mk he2; have HT2 := Aside0.mk ((HT.out.drew).trans ht2); clear he2 ht2)
        go_roundg q'
        case measure => omega
        case rel => exact ⟨3, by go_num, by omega, by have := HFI.out; omega, E2, HT2⟩
      · have HC2 : Aside0 (Calls Tryz.prog 176 #[.int .i64 (bits .or .i64 (S : Int) 8), .int .i64 4, .pointer (some ⟨bv, 0, none⟩), .pointer (some ⟨bp, 0, none⟩), .pointer (some ⟨bn, 0, none⟩)] wr.drew fun e w' => e = .returned (.bool false) ∧ Env8 bt bh bo bv bp bn w' ∧ Turn bo wr.drew w') := HC
        have b1 : bits .and .i64 31 1 = 1 := by rfl
        clear HC
        go_wp2
        go_still_tail 13, (by kernel_rfl)
        change wpList _ _ _ _ _ (World.drew wr)
        go_wp2_with (go_at_call 176; (with_reducible refine HC2.out.mono ?_); rintro e w2 ⟨rfl, he2, ht2⟩; have E2 := Aside0.mk he2; have HT2 := Aside0.mk ((HT.out.drew).trans ht2); clear he2 ht2)
        go_roundg q'
        case measure => omega
        case rel => exact ⟨4, by go_num, by omega, by have := HFI.out; omega, E2, HT2⟩
      · have HC2 : Aside0 (Calls Tryz.prog 176 #[.int .i64 (bits .or .i64 (S : Int) 16), .int .i64 5, .pointer (some ⟨bv, 0, none⟩), .pointer (some ⟨bp, 0, none⟩), .pointer (some ⟨bn, 0, none⟩)] wr.drew fun e w' => e = .returned (.bool false) ∧ Env8 bt bh bo bv bp bn w' ∧ Turn bo wr.drew w') := HC
        have b1 : bits .and .i64 15 1 = 1 := by rfl
        clear HC
        go_wp2
        go_still_tail 13, (by kernel_rfl)
        change wpList _ _ _ _ _ (World.drew wr)
        go_wp2_with (go_at_call 176; (with_reducible refine HC2.out.mono ?_); rintro e w2 ⟨rfl, he2, ht2⟩; have E2 := Aside0.mk he2; have HT2 := Aside0.mk ((HT.out.drew).trans ht2); clear he2 ht2)
        go_roundg q'
        case measure => omega
        case rel => exact ⟨5, by go_num, by omega, by have := HFI.out; omega, E2, HT2⟩
      · have HC2 : Aside0 (Calls Tryz.prog 176 #[.int .i64 (bits .or .i64 (S : Int) 32), .int .i64 6, .pointer (some ⟨bv, 0, none⟩), .pointer (some ⟨bp, 0, none⟩), .pointer (some ⟨bn, 0, none⟩)] wr.drew fun e w' => e = .returned (.bool false) ∧ Env8 bt bh bo bv bp bn w' ∧ Turn bo wr.drew w') := HC
        have b1 : bits .and .i64 7 1 = 1 := by rfl
        clear HC
        go_wp2
        go_still_tail 13, (by kernel_rfl)
        change wpList _ _ _ _ _ (World.drew wr)
        go_wp2_with (go_at_call 176; (with_reducible refine HC2.out.mono ?_); rintro e w2 ⟨rfl, he2, ht2⟩; have E2 := Aside0.mk he2; have HT2 := Aside0.mk ((HT.out.drew).trans ht2); clear he2 ht2)
        go_roundg q'
        case measure => omega
        case rel => exact ⟨6, by go_num, by omega, by have := HFI.out; omega, E2, HT2⟩
      · have HC2 : Aside0 (Calls Tryz.prog 176 #[.int .i64 (bits .or .i64 (S : Int) 64), .int .i64 7, .pointer (some ⟨bv, 0, none⟩), .pointer (some ⟨bp, 0, none⟩), .pointer (some ⟨bn, 0, none⟩)] wr.drew fun e w' => e = .returned (.bool false) ∧ Env8 bt bh bo bv bp bn w' ∧ Turn bo wr.drew w') := HC
        have b1 : bits .and .i64 3 1 = 1 := by rfl
        clear HC
        go_wp2
        go_still_tail 13, (by kernel_rfl)
        change wpList _ _ _ _ _ (World.drew wr)
        go_wp2_with (go_at_call 176; (with_reducible refine HC2.out.mono ?_); rintro e w2 ⟨rfl, he2, ht2⟩; have E2 := Aside0.mk he2; have HT2 := Aside0.mk ((HT.out.drew).trans ht2); clear he2 ht2)
        go_roundg q'
        case measure => omega
        case rel => exact ⟨7, by go_num, by omega, by have := HFI.out; omega, E2, HT2⟩
      · have HC2 : Aside0 (Calls Tryz.prog 176 #[.int .i64 (bits .or .i64 (S : Int) 128), .int .i64 8, .pointer (some ⟨bv, 0, none⟩), .pointer (some ⟨bp, 0, none⟩), .pointer (some ⟨bn, 0, none⟩)] wr.drew fun e w' => e = .returned (.bool false) ∧ Env8 bt bh bo bv bp bn w' ∧ Turn bo wr.drew w') := HC
        have b1 : bits .and .i64 1 1 = 1 := by rfl
        clear HC
        go_wp2
        go_still_tail 13, (by kernel_rfl)
        change wpList _ _ _ _ _ (World.drew wr)
        go_wp2_with (go_at_call 176; (with_reducible refine HC2.out.mono ?_); rintro e w2 ⟨rfl, he2, ht2⟩; have E2 := Aside0.mk he2; have HT2 := Aside0.mk ((HT.out.drew).trans ht2); clear he2 ht2)
        go_roundg q'
        case measure => omega
        case rel => exact ⟨8, by go_num, by omega, by have := HFI.out; omega, E2, HT2⟩
    · obtain rfl : i = 8 := by omega
      go_wp2
      go_ret
      exact ⟨rfl, E.out, HT.out⟩
end Go.Proofs.YtldohjlcckbfaaaGreatDoor.Hand
