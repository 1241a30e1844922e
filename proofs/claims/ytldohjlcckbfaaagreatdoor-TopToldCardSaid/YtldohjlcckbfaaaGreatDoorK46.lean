/- A part of the proof that pomadetop.TopTold returns true for every input: HandY, HandZ. No condition beyond those that each theorem states. -/
import Derived.StillTailTactics
import Derived.Test.YtldohjlcckbfaaaGreatDoorK45
namespace Go.Proofs.YtldohjlcckbfaaaGreatDoor.Hand
open Go.RowKit Go.Proofs.YtldohjlcckbfaaaGreatDoorW.PrintWords Go.Proofs.YtldohjlcckbfaaaGreatDoorW.PrintLast Go.Proofs.YtldohjlcckbfaaaGreatDoorW.PrintMore
set_option linter.unusedVariables false
set_option linter.unusedSimpArgs false
open Go.Proofs.YtldohjlcckbfaaaGreatDoor.Pre
theorem own_nums {w : World} {base : Nat} {ok : Nat → Prop} {v : Value} {xs : List Int} (h : Kd.R (Kd.int .i64) 3 w base ok v xs) : w.ownsRow base 3 1 v xs.length (xs.map (Value.int .i64)) := by
  obtain ⟨_, inner, ho, hr1, hr2⟩ := h
  have e : inner = xs.map (Value.int .i64) := by
    apply List.ext_getElem?
    intro j
    by_cases hj : j < xs.length
    · have h1 := hr2 j xs[j] (List.getElem?_eq_getElem hj)
      have h2 : (inner.drop (j * 1)).take 1 = [Value.int .i64 xs[j]] := h1
      have h3 : ((inner.drop (j * 1)).take 1)[0]? = some (Value.int .i64 xs[j]) := by rw [h2]; rfl
      rw [List.getElem?_take, if_pos (by omega), List.getElem?_drop, Nat.mul_one, Nat.add_zero] at h3
      rw [h3, List.getElem?_map, List.getElem?_eq_getElem hj]; rfl
    · rw [List.getElem?_eq_none (by rw [hr1]; show xs.length * 1 ≤ j; omega), List.getElem?_eq_none (by rw [List.length_map]; omega)]
  rw [← e]
  exact ho
structure KEnv (W : World) (bt bh bo bp bv bn : Nat) (xs : List Int) (w : World) : Prop where
  below : Below W.heap.size W w
  lo : W.heap.size ≤ bo
  ne : bt ≠ bo ∧ bh ≠ bo ∧ bp ≠ bo ∧ bv ≠ bo ∧ bn ≠ bo
  t : TownAt bt w
  h : w.heap[bh]? = some (.cells #[.func (.func 88) #[] #[.pointer (some ⟨bt, 0, none⟩)]] 90 (0, 0))
  o : ∃ v, w.heap[bo]? = some (.cells #[v] 22 (0, 0)) ∧ w.ownsRow (bo + 1) 3 1 v xs.length (xs.map (Value.int .i64))
  p : w.heap[bp]? = some (.cells #[.int .i64 7] 3 (0, 0))
  v : w.heap[bv]? = some (.cells #[.func (.func 136) #[] #[.pointer (some ⟨bo, 0, none⟩), .pointer (some ⟨bh, 0, none⟩)]] 90 (0, 0))
  n : w.heap[bn]? = some (.cells #[.func (.func 176) #[] #[.pointer (some ⟨bv, 0, none⟩), .pointer (some ⟨bp, 0, none⟩), .pointer (some ⟨bn, 0, none⟩)]] 156 (0, 0))
theorem heapAt {w w' : World} {b : Nat} {o : Obj} (h : w.heap[b]? = some o) (hb : Below w.heap.size w w') : w'.heap[b]? = some o := (hb.5 _ (Array.getElem?_eq_some_iff.1 h).1).trans h
theorem KEnv.keep {W : World} {bt bh bo bp bv bn : Nat} {xs : List Int} {w w' : World} (k : KEnv W bt bh bo bp bv bn xs w) (hb : Below w.heap.size w w') : KEnv W bt bh bo bp bv bn xs w' where
  below := k.below.trans (hb.mono k.below.size)
  lo := k.lo
  ne := k.ne
  t := k.t.below hb
  h := heapAt k.h hb
  o := by
    obtain ⟨v, h1, h2⟩ := k.o
    exact ⟨v, heapAt h1 hb, pw_own_below h2 hb⟩
  p := heapAt k.p hb
  v := heapAt k.v hb
  n := heapAt k.n hb
theorem KEnv.store {W : World} {bt bh bo bp bv bn : Nat} {xs ys : List Int} {w : World} (k : KEnv W bt bh bo bp bv bn xs w) {v : Value} (hv : w.ownsRow (bo + 1) 3 1 v ys.length (ys.map (Value.int .i64))) : KEnv W bt bh bo bp bv bn ys (w.setCell ⟨bo, 0, none⟩ v) where
  below := k.below.setCell (by exact k.lo) _
  lo := k.lo
  ne := k.ne
  t := ⟨by rw [Below.heap_setCell _ _ _ _ k.ne.1]; exact k.t.at_⟩
  h := by rw [Below.heap_setCell _ _ _ _ k.ne.2.1]; exact k.h
  o := by
    obtain ⟨u, h1, h2⟩ := k.o
    refine ⟨v, ?_, own_setCell hv (fun e => ?_) _⟩
    · rw [heap_setCell_same w bo 0 _ _ _ h1]; rfl
    · have := own_base hv _ e.symm
      change bo + 1 ≤ bo at this
      omega
  p := by rw [Below.heap_setCell _ _ _ _ k.ne.2.2.1]; exact k.p
  v := by rw [Below.heap_setCell _ _ _ _ k.ne.2.2.2.1]; exact k.v
  n := by rw [Below.heap_setCell _ _ _ _ k.ne.2.2.2.2]; exact k.n
theorem cellY {w : World} {b : Nat} {v : Value} {T : Nat} (h : w.heap[b]? = some (.cells #[v] T (0, 0))) : w.cell? ⟨b, 0, none⟩ = some v := by
  simp only [World.cell?, h]; rfl
theorem freeAt {w : World} {b : Nat} {v : Value} {T : Nat} (h : w.heap[b]? = some (.cells #[v] T (0, 0))) : w.frozen? ⟨b, 0, none⟩ = false := by
  simp only [World.frozen?, h]; rfl
set_option maxHeartbeats 4000000 in
set_option maxRecDepth 100000 in
theorem has_0 (bt : Nat) (w : World) (hT : TownAt bt w) :
    Calls Tryz.prog 88 #[.int .i64 0, .pointer (some ⟨bt, 0, none⟩)] w fun e w' => e = .returned (.bool false) ∧ Below w.heap.size w w' := by
  have q0 := hT.cell 0 _ rfl
  have q1 := hT.cell 1 _ rfl
  have q2 := hT.cell 2 _ rfl
  have q3 := hT.cell 3 _ rfl
  have q4 := hT.cell 4 _ rfl
  have q5 := hT.cell 5 _ rfl
  have q6 := hT.cell 6 _ rfl
  have q7 := hT.cell 7 _ rfl
  have q8 := hT.cell 8 _ rfl
  have q9 := hT.cell 9 _ rfl
  have q10 := hT.cell 10 _ rfl
  have q11 := hT.cell 11 _ rfl
  have q12 := hT.cell 12 _ rfl
  have hlt := hT.lt
  clear hT
  go_enter Tryz.func88, Tryz.ntmps88
  go_wp2
  go_region_law (go_simp; (first | (go_at_call 90; ((with_reducible refine (ever_calls _).mono ?_); rintro e w1 ⟨rfl, rfl⟩)) | (go_at_call 89; ((refine (kernel_0 _).mono ?_); rintro e w1 ⟨rfl, hb⟩))))
  all_goals go_wp2
  all_goals go_ret
  all_goals refine ⟨rfl, Below.trans ?_ (hb.mono (by simp))⟩
  all_goals repeat (first | exact Below.refl _ _ | apply below_drew1 | apply below_alloc)
set_option maxHeartbeats 4000000 in
set_option maxRecDepth 100000 in
theorem visit_0 (W : World) (bt bh bo bp bv bn : Nat) (xs : List Int) (w : World) (k : KEnv W bt bh bo bp bv bn xs w) :
    Calls Tryz.prog 136 #[.int .i64 0, .pointer (some ⟨bo, 0, none⟩), .pointer (some ⟨bh, 0, none⟩)] w fun e w' => e = .returned (.bool false) ∧ KEnv W bt bh bo bp bv bn [] w' := by
  have K0 := Aside0.mk k
  clear k
  go_enter Tryz.func136, Tryz.ntmps136
  go_wp2_with fail
  refine (shave_members.calls 20 0 [] _ (by decide +kernel)).mono ?_
  rintro e w1 ⟨v, rfl, hr0, hb⟩
  obtain ⟨A, c, rfl⟩ := Kd.R_slice hr0
  have hr : Kd.R (Kd.int .i64) 3 w1 w.heap.size (fun _ => True) (.slice A 0 c) [] := hr0
  have hbo : bo < w.heap.size := by
    obtain ⟨v, h1, _⟩ := K0.out.o
    exact (Array.getElem?_eq_some_iff.1 h1).1
  have K1 := Aside0.mk (K0.out.keep hb)
  have K2 := Aside0.mk (K1.out.store (own_lower1 (own_nums hr) (by omega)))
  obtain ⟨u, hu, _⟩ := K1.out.o
  have c1 := cellY hu
  have f1 := freeAt hu
  have c2 := cellY K2.out.h
  clear K0 hr hr0 hb hu
  go_wp2_with (go_at_call 88; refine (has_0 bt _ K2.out.t).mono ?_; rintro e w2 ⟨rfl, hb⟩)
  have K3 := Aside0.mk (K2.out.keep hb)
  clear K2 hb c2
  go_ret
  exact ⟨rfl, K3.out⟩
set_option maxHeartbeats 4000000 in
set_option maxRecDepth 100000 in
theorem has_1 (bt : Nat) (w : World) (hT : TownAt bt w) :
    Calls Tryz.prog 88 #[.int .i64 1, .pointer (some ⟨bt, 0, none⟩)] w fun e w' => e = .returned (.bool false) ∧ Below w.heap.size w w' := by
  have q0 := hT.cell 0 _ rfl
  have q1 := hT.cell 1 _ rfl
  have q2 := hT.cell 2 _ rfl
  have q3 := hT.cell 3 _ rfl
  have q4 := hT.cell 4 _ rfl
  have q5 := hT.cell 5 _ rfl
  have q6 := hT.cell 6 _ rfl
  have q7 := hT.cell 7 _ rfl
  have q8 := hT.cell 8 _ rfl
  have q9 := hT.cell 9 _ rfl
  have q10 := hT.cell 10 _ rfl
  have q11 := hT.cell 11 _ rfl
  have q12 := hT.cell 12 _ rfl
  have hlt := hT.lt
  clear hT
  go_enter Tryz.func88, Tryz.ntmps88
  go_wp2
  go_region_law (go_simp; (first | (go_at_call 90; ((with_reducible refine (ever_calls _).mono ?_); rintro e w1 ⟨rfl, rfl⟩)) | (go_at_call 89; ((refine (kernel_1 _).mono ?_); rintro e w1 ⟨rfl, hb⟩))))
  all_goals go_wp2
  all_goals go_ret
  all_goals refine ⟨rfl, Below.trans ?_ (hb.mono (by simp))⟩
  all_goals repeat (first | exact Below.refl _ _ | apply below_drew1 | apply below_alloc)
set_option maxHeartbeats 4000000 in
set_option maxRecDepth 100000 in
theorem visit_1 (W : World) (bt bh bo bp bv bn : Nat) (xs : List Int) (w : World) (k : KEnv W bt bh bo bp bv bn xs w) :
    Calls Tryz.prog 136 #[.int .i64 1, .pointer (some ⟨bo, 0, none⟩), .pointer (some ⟨bh, 0, none⟩)] w fun e w' => e = .returned (.bool false) ∧ KEnv W bt bh bo bp bv bn [0] w' := by
  have K0 := Aside0.mk k
  clear k
  go_enter Tryz.func136, Tryz.ntmps136
  go_wp2_with fail
  refine (shave_members.calls 20 1 [0] _ (by decide +kernel)).mono ?_
  rintro e w1 ⟨v, rfl, hr0, hb⟩
  obtain ⟨A, c, rfl⟩ := Kd.R_slice hr0
  have hr : Kd.R (Kd.int .i64) 3 w1 w.heap.size (fun _ => True) (.slice A 1 c) [0] := hr0
  have hbo : bo < w.heap.size := by
    obtain ⟨v, h1, _⟩ := K0.out.o
    exact (Array.getElem?_eq_some_iff.1 h1).1
  have K1 := Aside0.mk (K0.out.keep hb)
  have K2 := Aside0.mk (K1.out.store (own_lower1 (own_nums hr) (by omega)))
  obtain ⟨u, hu, _⟩ := K1.out.o
  have c1 := cellY hu
  have f1 := freeAt hu
  have c2 := cellY K2.out.h
  clear K0 hr hr0 hb hu
  go_wp2_with (go_at_call 88; refine (has_1 bt _ K2.out.t).mono ?_; rintro e w2 ⟨rfl, hb⟩)
  have K3 := Aside0.mk (K2.out.keep hb)
  clear K2 hb c2
  go_ret
  exact ⟨rfl, K3.out⟩
set_option maxHeartbeats 4000000 in
set_option maxRecDepth 100000 in
theorem has_3 (bt : Nat) (w : World) (hT : TownAt bt w) :
    Calls Tryz.prog 88 #[.int .i64 3, .pointer (some ⟨bt, 0, none⟩)] w fun e w' => e = .returned (.bool false) ∧ Below w.heap.size w w' := by
  have q0 := hT.cell 0 _ rfl
  have q1 := hT.cell 1 _ rfl
  have q2 := hT.cell 2 _ rfl
  have q3 := hT.cell 3 _ rfl
  have q4 := hT.cell 4 _ rfl
  have q5 := hT.cell 5 _ rfl
  have q6 := hT.cell 6 _ rfl
  have q7 := hT.cell 7 _ rfl
  have q8 := hT.cell 8 _ rfl
  have q9 := hT.cell 9 _ rfl
  have q10 := hT.cell 10 _ rfl
  have q11 := hT.cell 11 _ rfl
  have q12 := hT.cell 12 _ rfl
  have hlt := hT.lt
  clear hT
  go_enter Tryz.func88, Tryz.ntmps88
  go_wp2
  go_region_law (go_simp; (first | (go_at_call 90; ((with_reducible refine (ever_calls _).mono ?_); rintro e w1 ⟨rfl, rfl⟩)) | (go_at_call 89; ((refine (kernel_3 _).mono ?_); rintro e w1 ⟨rfl, hb⟩))))
  all_goals go_wp2
  all_goals go_ret
  all_goals refine ⟨rfl, Below.trans ?_ (hb.mono (by simp))⟩
  all_goals repeat (first | exact Below.refl _ _ | apply below_drew1 | apply below_alloc)
set_option maxHeartbeats 4000000 in
set_option maxRecDepth 100000 in
theorem visit_3 (W : World) (bt bh bo bp bv bn : Nat) (xs : List Int) (w : World) (k : KEnv W bt bh bo bp bv bn xs w) :
    Calls Tryz.prog 136 #[.int .i64 3, .pointer (some ⟨bo, 0, none⟩), .pointer (some ⟨bh, 0, none⟩)] w fun e w' => e = .returned (.bool false) ∧ KEnv W bt bh bo bp bv bn [0, 1] w' := by
  have K0 := Aside0.mk k
  clear k
  go_enter Tryz.func136, Tryz.ntmps136
  go_wp2_with fail
  refine (shave_members.calls 20 3 [0, 1] _ (by decide +kernel)).mono ?_
  rintro e w1 ⟨v, rfl, hr0, hb⟩
  obtain ⟨A, c, rfl⟩ := Kd.R_slice hr0
  have hr : Kd.R (Kd.int .i64) 3 w1 w.heap.size (fun _ => True) (.slice A 2 c) [0, 1] := hr0
  have hbo : bo < w.heap.size := by
    obtain ⟨v, h1, _⟩ := K0.out.o
    exact (Array.getElem?_eq_some_iff.1 h1).1
  have K1 := Aside0.mk (K0.out.keep hb)
  have K2 := Aside0.mk (K1.out.store (own_lower1 (own_nums hr) (by omega)))
  obtain ⟨u, hu, _⟩ := K1.out.o
  have c1 := cellY hu
  have f1 := freeAt hu
  have c2 := cellY K2.out.h
  clear K0 hr hr0 hb hu
  go_wp2_with (go_at_call 88; refine (has_3 bt _ K2.out.t).mono ?_; rintro e w2 ⟨rfl, hb⟩)
  have K3 := Aside0.mk (K2.out.keep hb)
  clear K2 hb c2
  go_ret
  exact ⟨rfl, K3.out⟩
set_option maxHeartbeats 4000000 in
set_option maxRecDepth 100000 in
theorem has_7 (bt : Nat) (w : World) (hT : TownAt bt w) :
    Calls Tryz.prog 88 #[.int .i64 7, .pointer (some ⟨bt, 0, none⟩)] w fun e w' => e = .returned (.bool false) ∧ Below w.heap.size w w' := by
  have q0 := hT.cell 0 _ rfl
  have q1 := hT.cell 1 _ rfl
  have q2 := hT.cell 2 _ rfl
  have q3 := hT.cell 3 _ rfl
  have q4 := hT.cell 4 _ rfl
  have q5 := hT.cell 5 _ rfl
  have q6 := hT.cell 6 _ rfl
  have q7 := hT.cell 7 _ rfl
  have q8 := hT.cell 8 _ rfl
  have q9 := hT.cell 9 _ rfl
  have q10 := hT.cell 10 _ rfl
  have q11 := hT.cell 11 _ rfl
  have q12 := hT.cell 12 _ rfl
  have hlt := hT.lt
  clear hT
  go_enter Tryz.func88, Tryz.ntmps88
  go_wp2
  go_region_law (go_simp; (first | (go_at_call 90; ((with_reducible refine (ever_calls _).mono ?_); rintro e w1 ⟨rfl, rfl⟩)) | (go_at_call 89; ((refine (kernel_7 _).mono ?_); rintro e w1 ⟨rfl, hb⟩))))
  all_goals go_wp2
  all_goals go_ret
  all_goals refine ⟨rfl, Below.trans ?_ (hb.mono (by simp))⟩
  all_goals repeat (first | exact Below.refl _ _ | apply below_drew1 | apply below_alloc)
set_option maxHeartbeats 4000000 in
set_option maxRecDepth 100000 in
theorem visit_7 (W : World) (bt bh bo bp bv bn : Nat) (xs : List Int) (w : World) (k : KEnv W bt bh bo bp bv bn xs w) :
    Calls Tryz.prog 136 #[.int .i64 7, .pointer (some ⟨bo, 0, none⟩), .pointer (some ⟨bh, 0, none⟩)] w fun e w' => e = .returned (.bool false) ∧ KEnv W bt bh bo bp bv bn [0, 1, 2] w' := by
  have K0 := Aside0.mk k
  clear k
  go_enter Tryz.func136, Tryz.ntmps136
  go_wp2_with fail
  refine (shave_members.calls 20 7 [0, 1, 2] _ (by decide +kernel)).mono ?_
  rintro e w1 ⟨v, rfl, hr0, hb⟩
  obtain ⟨A, c, rfl⟩ := Kd.R_slice hr0
  have hr : Kd.R (Kd.int .i64) 3 w1 w.heap.size (fun _ => True) (.slice A 3 c) [0, 1, 2] := hr0
  have hbo : bo < w.heap.size := by
    obtain ⟨v, h1, _⟩ := K0.out.o
    exact (Array.getElem?_eq_some_iff.1 h1).1
  have K1 := Aside0.mk (K0.out.keep hb)
  have K2 := Aside0.mk (K1.out.store (own_lower1 (own_nums hr) (by omega)))
  obtain ⟨u, hu, _⟩ := K1.out.o
  have c1 := cellY hu
  have f1 := freeAt hu
  have c2 := cellY K2.out.h
  clear K0 hr hr0 hb hu
  go_wp2_with (go_at_call 88; refine (has_7 bt _ K2.out.t).mono ?_; rintro e w2 ⟨rfl, hb⟩)
  have K3 := Aside0.mk (K2.out.keep hb)
  clear K2 hb c2
  go_ret
  exact ⟨rfl, K3.out⟩
set_option maxHeartbeats 4000000 in
set_option maxRecDepth 100000 in
theorem has_5 (bt : Nat) (w : World) (hT : TownAt bt w) :
    Calls Tryz.prog 88 #[.int .i64 5, .pointer (some ⟨bt, 0, none⟩)] w fun e w' => e = .returned (.bool true) ∧ Below w.heap.size w w' := by
  have q0 := hT.cell 0 _ rfl
  have q1 := hT.cell 1 _ rfl
  have q2 := hT.cell 2 _ rfl
  have q3 := hT.cell 3 _ rfl
  have q4 := hT.cell 4 _ rfl
  have q5 := hT.cell 5 _ rfl
  have q6 := hT.cell 6 _ rfl
  have q7 := hT.cell 7 _ rfl
  have q8 := hT.cell 8 _ rfl
  have q9 := hT.cell 9 _ rfl
  have q10 := hT.cell 10 _ rfl
  have q11 := hT.cell 11 _ rfl
  have q12 := hT.cell 12 _ rfl
  have hlt := hT.lt
  clear hT
  go_enter Tryz.func88, Tryz.ntmps88
  go_wp2
  go_region_law (go_simp; (first | (go_at_call 90; ((with_reducible refine (ever_calls _).mono ?_); rintro e w1 ⟨rfl, rfl⟩)) | (go_at_call 89; ((refine (kernel_5 _).mono ?_); rintro e w1 ⟨rfl, hb⟩))))
  all_goals go_wp2
  all_goals go_ret
  all_goals refine ⟨rfl, Below.trans ?_ (hb.mono (by simp))⟩
  all_goals repeat (first | exact Below.refl _ _ | apply below_drew1 | apply below_alloc)
set_option maxHeartbeats 4000000 in
set_option maxRecDepth 100000 in
theorem visit_5 (W : World) (bt bh bo bp bv bn : Nat) (xs : List Int) (w : World) (k : KEnv W bt bh bo bp bv bn xs w) :
    Calls Tryz.prog 136 #[.int .i64 5, .pointer (some ⟨bo, 0, none⟩), .pointer (some ⟨bh, 0, none⟩)] w fun e w' => e = .returned (.bool true) ∧ KEnv W bt bh bo bp bv bn [0, 2] w' := by
  have K0 := Aside0.mk k
  clear k
  go_enter Tryz.func136, Tryz.ntmps136
  go_wp2_with fail
  refine (shave_members.calls 20 5 [0, 2] _ (by decide +kernel)).mono ?_
  rintro e w1 ⟨v, rfl, hr0, hb⟩
  obtain ⟨A, c, rfl⟩ := Kd.R_slice hr0
  have hr : Kd.R (Kd.int .i64) 3 w1 w.heap.size (fun _ => True) (.slice A 2 c) [0, 2] := hr0
  have hbo : bo < w.heap.size := by
    obtain ⟨v, h1, _⟩ := K0.out.o
    exact (Array.getElem?_eq_some_iff.1 h1).1
  have K1 := Aside0.mk (K0.out.keep hb)
  have K2 := Aside0.mk (K1.out.store (own_lower1 (own_nums hr) (by omega)))
  obtain ⟨u, hu, _⟩ := K1.out.o
  have c1 := cellY hu
  have f1 := freeAt hu
  have c2 := cellY K2.out.h
  clear K0 hr hr0 hb hu
  go_wp2_with (go_at_call 88; refine (has_5 bt _ K2.out.t).mono ?_; rintro e w2 ⟨rfl, hb⟩)
  have K3 := Aside0.mk (K2.out.keep hb)
  clear K2 hb c2
  go_ret
  exact ⟨rfl, K3.out⟩
end Go.Proofs.YtldohjlcckbfaaaGreatDoor.Hand
namespace Go.Proofs.YtldohjlcckbfaaaGreatDoor.Hand
open Go.RowKit Go.Proofs.YtldohjlcckbfaaaGreatDoorW.PrintWords Go.Proofs.YtldohjlcckbfaaaGreatDoorW.PrintLast Go.Proofs.YtldohjlcckbfaaaGreatDoorW.PrintMore
set_option linter.unusedVariables false
set_option linter.unusedSimpArgs false
open Go.Proofs.YtldohjlcckbfaaaGreatDoor.Pre
set_option maxHeartbeats 4000000 in
set_option maxRecDepth 100000 in
theorem on_7 (W : World) (bt bh bo bp bv bn : Nat) (xs : List Int) (w : World) (k : KEnv W bt bh bo bp bv bn xs w) :
    Calls Tryz.prog 176 #[.int .i64 7, .int .i64 3, .pointer (some ⟨bv, 0, none⟩), .pointer (some ⟨bp, 0, none⟩), .pointer (some ⟨bn, 0, none⟩)] w fun e w' => e = .returned (.bool false) ∧ KEnv W bt bh bo bp bv bn [0, 1, 2] w' := by
  have K0 := Aside0.mk k
  have c0 := cellY k.v
  clear k
  go_enter Tryz.func176, Tryz.ntmps176
  go_wp2_with (go_at_call 136; refine (visit_7 W bt bh bo bp bv bn _ _ K0.out).mono ?_; rintro e w1 ⟨rfl, kk⟩; have K1 := Aside0.mk kk; have p1 := cellY kk.p; have n1 := cellY kk.n; clear kk K0 c0)
  refine wp_loop_rounds 1 ?_
  rw [rounds_succ]
  go_wp2
  go_ret
  exact ⟨rfl, K1.out⟩
set_option maxHeartbeats 4000000 in
set_option maxRecDepth 100000 in
theorem on_3 (W : World) (bt bh bo bp bv bn : Nat) (xs : List Int) (w : World) (k : KEnv W bt bh bo bp bv bn xs w) :
    Calls Tryz.prog 176 #[.int .i64 3, .int .i64 2, .pointer (some ⟨bv, 0, none⟩), .pointer (some ⟨bp, 0, none⟩), .pointer (some ⟨bn, 0, none⟩)] w fun e w' => e = .returned (.bool false) ∧ KEnv W bt bh bo bp bv bn [0, 1, 2] w' := by
  have K0 := Aside0.mk k
  have c0 := cellY k.v
  clear k
  have d2 : bits .and .i64 1 1 = 1 := by rfl
  have o2 : bits .or .i64 3 4 = 7 := by rfl
  go_enter Tryz.func176, Tryz.ntmps176
  go_wp2_with (go_at_call 136; refine (visit_3 W bt bh bo bp bv bn _ _ K0.out).mono ?_; rintro e w1 ⟨rfl, kk⟩; have K1 := Aside0.mk kk; have p1 := cellY kk.p; have n1 := cellY kk.n; clear kk K0 c0)
  refine wp_loop_rounds 2 ?_
  rw [rounds_succ]
  go_wp2
  go_still_tail 13, (by kernel_rfl)
  change wpList _ _ _ _ _ (World.drew w1)
  have Kd := Aside0.mk (K1.out.keep (below_drew1 (Below.refl w1.heap.size w1)))
  go_wp2_with (go_at_call 176; refine (on_7 W bt bh bo bp bv bn _ _ Kd.out).mono ?_; rintro e w2 ⟨rfl, kk⟩; clear Kd)
  have K2 := Aside0.mk kk
  have p2 := cellY kk.p
  have n2 := cellY kk.n
  clear kk K1 p1 n1
  rw [rounds_succ]
  go_wp2
  go_ret
  exact ⟨rfl, K2.out⟩
set_option maxHeartbeats 4000000 in
set_option maxRecDepth 100000 in
theorem on_5 (W : World) (bt bh bo bp bv bn : Nat) (xs : List Int) (w : World) (k : KEnv W bt bh bo bp bv bn xs w) :
    Calls Tryz.prog 176 #[.int .i64 5, .int .i64 3, .pointer (some ⟨bv, 0, none⟩), .pointer (some ⟨bp, 0, none⟩), .pointer (some ⟨bn, 0, none⟩)] w fun e w' => e = .returned (.bool true) ∧ KEnv W bt bh bo bp bv bn [0, 2] w' := by
  have K0 := Aside0.mk k
  have c0 := cellY k.v
  clear k
  go_enter Tryz.func176, Tryz.ntmps176
  go_wp2_with (go_at_call 136; refine (visit_5 W bt bh bo bp bv bn _ _ K0.out).mono ?_; rintro e w1 ⟨rfl, kk⟩; have K1 := Aside0.mk kk; have p1 := cellY kk.p; have n1 := cellY kk.n; clear kk K0 c0)
  go_ret
  exact ⟨rfl, K1.out⟩
set_option maxHeartbeats 4000000 in
set_option maxRecDepth 100000 in
theorem on_1 (W : World) (bt bh bo bp bv bn : Nat) (xs : List Int) (w : World) (k : KEnv W bt bh bo bp bv bn xs w) :
    Calls Tryz.prog 176 #[.int .i64 1, .int .i64 1, .pointer (some ⟨bv, 0, none⟩), .pointer (some ⟨bp, 0, none⟩), .pointer (some ⟨bn, 0, none⟩)] w fun e w' => e = .returned (.bool true) ∧ KEnv W bt bh bo bp bv bn [0, 2] w' := by
  have K0 := Aside0.mk k
  have c0 := cellY k.v
  clear k
  have d1 : bits .and .i64 3 1 = 1 := by rfl
  have o1 : bits .or .i64 1 2 = 3 := by rfl
  have d2 : bits .and .i64 1 1 = 1 := by rfl
  have o2 : bits .or .i64 1 4 = 5 := by rfl
  go_enter Tryz.func176, Tryz.ntmps176
  go_wp2_with (go_at_call 136; refine (visit_1 W bt bh bo bp bv bn _ _ K0.out).mono ?_; rintro e w1 ⟨rfl, kk⟩; have K1 := Aside0.mk kk; have p1 := cellY kk.p; have n1 := cellY kk.n; clear kk K0 c0)
  refine wp_loop_rounds 3 ?_
  rw [rounds_succ]
  go_wp2
  go_still_tail 13, (by kernel_rfl)
  change wpList _ _ _ _ _ (World.drew w1)
  have Kd := Aside0.mk (K1.out.keep (below_drew1 (Below.refl w1.heap.size w1)))
  go_wp2_with (go_at_call 176; refine (on_3 W bt bh bo bp bv bn _ _ Kd.out).mono ?_; rintro e w2 ⟨rfl, kk⟩; clear Kd)
  have K2 := Aside0.mk kk
  have p2 := cellY kk.p
  have n2 := cellY kk.n
  clear kk K1 p1 n1
  rw [rounds_succ]
  go_wp2
  go_still_tail 13, (by kernel_rfl)
  change wpList _ _ _ _ _ (World.drew w2)
  have Kd := Aside0.mk (K2.out.keep (below_drew1 (Below.refl w2.heap.size w2)))
  go_wp2_with (go_at_call 176; refine (on_5 W bt bh bo bp bv bn _ _ Kd.out).mono ?_; rintro e w3 ⟨rfl, kk⟩; clear Kd)
  have K3 := Aside0.mk kk
  have p3 := cellY kk.p
  have n3 := cellY kk.n
  clear kk K2 p2 n2
  go_ret
  exact ⟨rfl, K3.out⟩
set_option maxHeartbeats 4000000 in
set_option maxRecDepth 100000 in
theorem on_0 (W : World) (bt bh bo bp bv bn : Nat) (xs : List Int) (w : World) (k : KEnv W bt bh bo bp bv bn xs w) :
    Calls Tryz.prog 176 #[.int .i64 0, .int .i64 0, .pointer (some ⟨bv, 0, none⟩), .pointer (some ⟨bp, 0, none⟩), .pointer (some ⟨bn, 0, none⟩)] w fun e w' => e = .returned (.bool true) ∧ KEnv W bt bh bo bp bv bn [0, 2] w' := by
  have K0 := Aside0.mk k
  have c0 := cellY k.v
  clear k
  have d0 : bits .and .i64 7 1 = 1 := by rfl
  have o0 : bits .or .i64 0 1 = 1 := by rfl
  have d1 : bits .and .i64 3 1 = 1 := by rfl
  have o1 : bits .or .i64 0 2 = 2 := by rfl
  have d2 : bits .and .i64 1 1 = 1 := by rfl
  have o2 : bits .or .i64 0 4 = 4 := by rfl
  go_enter Tryz.func176, Tryz.ntmps176
  go_wp2_with (go_at_call 136; refine (visit_0 W bt bh bo bp bv bn _ _ K0.out).mono ?_; rintro e w1 ⟨rfl, kk⟩; have K1 := Aside0.mk kk; have p1 := cellY kk.p; have n1 := cellY kk.n; clear kk K0 c0)
  refine wp_loop_rounds 2 ?_
  rw [rounds_succ]
  go_wp2
  go_still_tail 13, (by kernel_rfl)
  change wpList _ _ _ _ _ (World.drew w1)
  have Kd := Aside0.mk (K1.out.keep (below_drew1 (Below.refl w1.heap.size w1)))
  go_wp2_with (go_at_call 176; refine (on_1 W bt bh bo bp bv bn _ _ Kd.out).mono ?_; rintro e w2 ⟨rfl, kk⟩; clear Kd)
  have K2 := Aside0.mk kk
  have p2 := cellY kk.p
  have n2 := cellY kk.n
  clear kk K1 p1 n1
  go_ret
  exact ⟨rfl, K2.out⟩
end Go.Proofs.YtldohjlcckbfaaaGreatDoor.Hand
