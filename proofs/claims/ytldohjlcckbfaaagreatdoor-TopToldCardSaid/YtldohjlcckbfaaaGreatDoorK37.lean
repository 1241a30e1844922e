/- A part of the proof that pomadetop.TopTold returns true for every input: HandUs, HandVa, HandVb. No condition beyond those that each theorem states. -/
import Derived.Test.YtldohjlcckbfaaaGreatDoorK36
namespace Go.Proofs.YtldohjlcckbfaaaGreatDoor.Hand
open Go.RowKit Go.Proofs.YtldohjlcckbfaaaGreatDoorW.PrintWords Go.Proofs.YtldohjlcckbfaaaGreatDoorW.PrintLast Go.Proofs.YtldohjlcckbfaaaGreatDoorW.PrintMore
set_option linter.unusedVariables false
set_option linter.unusedSimpArgs false
open Go.Proofs.YtldohjlcckbfaaaGreatDoor.Pre
open TopWords
theorem on8 (bt bh bo bv bp bn : Nat) : ∀ (m frm S : Nat), 8 - frm ≤ m → frm ≤ 8 → S < 256 → ∀ w, Env8 bt bh bo bv bp bn w →
    Calls Tryz.prog 176 #[.int .i64 S, .int .i64 frm, .pointer (some ⟨bv, 0, none⟩), .pointer (some ⟨bp, 0, none⟩), .pointer (some ⟨bn, 0, none⟩)] w fun e w' => e = .returned (.bool false) ∧ Env8 bt bh bo bv bp bn w' ∧ Turn bo w w' := by
  intro m
  induction m with
  | zero =>
    intro frm S hm hf hS w he
    exact on8_step frm S hf hS bt bh bo bv bp bn (fun i h1 h2 => absurd h2 (by omega)) w he
  | succ m ih =>
    intro frm S hm hf hS w he
    refine on8_step frm S hf hS bt bh bo bv bp bn (fun i h1 h2 W hW => ?_) w he
    obtain ⟨e1, e2⟩ := set_or ⟨S, hS⟩ ⟨i, h2⟩
    rw [show bits .or .i64 (S : Int) ((2 ^ i : Nat) : Int) = ((S ||| 2 ^ i : Nat) : Int) from e1]
    exact ih (i + 1) (S ||| 2 ^ i) (by omega) (by omega) e2 W hW
theorem env8_at (bt bh bo : Nat) (w : World) (hne : bt ≠ bo ∧ bh ≠ bo) (hT : Town8At bt w)
    (hh : w.heap[bh]? = some (.cells #[.func (.func 88) #[] #[.pointer (some ⟨bt, 0, none⟩)]] 90 (0, 0)))
    (ho : w.heap[bo]? = some (.cells #[.slice none 0 0] 22 (0, 0))) :
    Env8 bt bh bo (w.heap.size + 1) w.heap.size (w.heap.size + 1 + 1)
      (((w.alloc (.cells #[.int .i64 255] 3)).alloc (.cells #[.func (.func 136) #[] #[.pointer (some ⟨bo, 0, none⟩), .pointer (some ⟨bh, 0, none⟩)]] 90)).alloc
        (.cells #[.func (.func 176) #[] #[.pointer (some ⟨w.heap.size + 1, 0, none⟩), .pointer (some ⟨w.heap.size, 0, none⟩), .pointer (some ⟨w.heap.size + 1 + 1, 0, none⟩)]] 156)) := by
  have hbo := (Array.getElem?_eq_some_iff.1 ho).1
  obtain ⟨n, hn⟩ : ∃ n, w.heap.size = n := ⟨_, rfl⟩
  have B1 := below_alloc (Below.refl _ w) (.cells #[.int .i64 255] 3)
  have p1 := heap_new w (.cells #[.int .i64 255] 3)
  have z1 : (w.alloc (.cells #[.int .i64 255] 3)).heap.size = n + 1 := by simp [hn]
  obtain ⟨w1, e1⟩ : ∃ w1, w.alloc (.cells #[.int .i64 255] 3) = w1 := ⟨_, rfl⟩
  rw [e1] at B1 p1 z1 ⊢
  rw [hn] at p1 ⊢
  have B2 := below_alloc (Below.refl _ w1) (.cells #[.func (.func 136) #[] #[.pointer (some ⟨bo, 0, none⟩), .pointer (some ⟨bh, 0, none⟩)]] 90)
  have v2 := heap_new w1 (.cells #[.func (.func 136) #[] #[.pointer (some ⟨bo, 0, none⟩), .pointer (some ⟨bh, 0, none⟩)]] 90)
  have z2 : (w1.alloc (.cells #[.func (.func 136) #[] #[.pointer (some ⟨bo, 0, none⟩), .pointer (some ⟨bh, 0, none⟩)]] 90)).heap.size = n + 1 + 1 := by simp [z1]
  obtain ⟨w2, e2⟩ : ∃ w2, w1.alloc (.cells #[.func (.func 136) #[] #[.pointer (some ⟨bo, 0, none⟩), .pointer (some ⟨bh, 0, none⟩)]] 90) = w2 := ⟨_, rfl⟩
  rw [e2] at B2 v2 z2 ⊢
  rw [z1] at v2
  obtain ⟨ob, hob⟩ : ∃ ob : Obj, .cells #[.func (.func 176) #[] #[.pointer (some ⟨n + 1, 0, none⟩), .pointer (some ⟨n, 0, none⟩), .pointer (some ⟨n + 1 + 1, 0, none⟩)]] 156 (0, 0) = ob := ⟨_, rfl⟩
  have B3 := below_alloc (Below.refl _ w2) ob
  have v3 := heap_new w2 ob
  rw [z2] at v3
  rw [hob]
  have t2 := B2.trans (B3.mono B2.size)
  have t1 := B1.trans (t2.mono B1.size)
  refine ⟨⟨hne.1, hne.2, by omega, by omega, by omega⟩, hT.below t1, blk_below hh t1, ⟨_, blk_below ho t1, _, _, _, rfl⟩, blk_below v2 B3, blk_below p1 t2, ?_⟩
  rw [v3, hob]
set_option maxHeartbeats 4000000 in
set_option maxRecDepth 100000 in
theorem each8 (bt bh bo : Nat) (w : World) (hne : bt ≠ bo ∧ bh ≠ bo) (hT : Town8At bt w)
    (hh : w.heap[bh]? = some (.cells #[.func (.func 88) #[] #[.pointer (some ⟨bt, 0, none⟩)]] 90 (0, 0)))
    (ho : w.heap[bo]? = some (.cells #[.slice none 0 0] 22 (0, 0))) :
    Calls Tryz.prog 135 #[.int .i64 255, .func (.func 136) #[] #[.pointer (some ⟨bo, 0, none⟩), .pointer (some ⟨bh, 0, none⟩)]] w fun e w' => e = .returned (.bool false) ∧ Turn bo w w' := by
  have hmf : ∀ (fn : Fn) (first cap : Array Value) (w : World), (Instr.makeFunc fn first cap).run Tryz.prog w = .ok (.func fn first cap) w := fun _ _ _ _ => rfl
  have HE := Aside0.mk (env8_at bt bh bo w hne hT hh ho)
  have HB := Aside0.mk (below_alloc (below_alloc (below_alloc (Below.refl _ w) (.cells #[.int .i64 255] 3)) (.cells #[.func (.func 136) #[] #[.pointer (some ⟨bo, 0, none⟩), .pointer (some ⟨bh, 0, none⟩)]] 90)) (.cells #[.func (.func 176) #[] #[.pointer (some ⟨w.heap.size + 1, 0, none⟩), .pointer (some ⟨w.heap.size, 0, none⟩), .pointer (some ⟨w.heap.size + 1 + 1, 0, none⟩)]] 156))
  clear hT hh ho
  go_enter Tryz.func135, Tryz.ntmps135
  go_wp2_with (go_at_call 176; refine (on8 bt bh bo _ _ _ 8 0 0 (by decide) (by decide) (by decide) _ HE.out).mono ?_; rintro e w1 ⟨rfl, he, ht⟩; have HT := Aside0.mk ht; clear he ht)
  go_ret
  exact ⟨rfl, (Turn.of_below HB.out).trans HT.out⟩
set_option maxHeartbeats 4000000 in
set_option maxRecDepth 100000 in
theorem first8 (bt : Nat) (w : World) (hT : Town8At bt w) :
    Calls Tryz.prog 87 #[.agg town8, .func (.func 88) #[] #[.pointer (some ⟨bt, 0, none⟩)]] w fun e w' => e = .returned (.tuple #[.slice none 0 0, .int .i64 10]) ∧ Below w.heap.size w w' := by
  have hmf : ∀ (fn : Fn) (first cap : Array Value) (w : World), (Instr.makeFunc fn first cap).run Tryz.prog w = .ok (.func fn first cap) w := fun _ _ _ _ => rfl
  have hlt := hT.lt
  have B1 := below_alloc (Below.refl _ w) (.cells town8 147)
  have B2 := below_alloc B1 (.cells #[.func (.func 88) #[] #[.pointer (some ⟨bt, 0, none⟩)]] 90)
  have B3 := below_alloc B2 (.cells #[.slice none 0 0] 22)
  have B4 := Aside0.mk (below_alloc B3 (.cells town8 147))
  have T4 := Aside0.mk (hT.below B4.out)
  have h2 := heap_new (w.alloc (.cells town8 147)) (.cells #[.func (.func 88) #[] #[.pointer (some ⟨bt, 0, none⟩)]] 90)
  have h3 := heap_new ((w.alloc (.cells town8 147)).alloc (.cells #[.func (.func 88) #[] #[.pointer (some ⟨bt, 0, none⟩)]] 90)) (.cells #[.slice none 0 0] 22)
  have h2' := blk_below (blk_below h2 (below_alloc (Below.refl _ _) (.cells #[.slice none 0 0] 22))) (below_alloc (Below.refl _ _) (.cells town8 147))
  have h3' := blk_below h3 (below_alloc (Below.refl _ _) (.cells town8 147))
  simp only [World.size_alloc] at h2' h3'
  have H2 := Aside0.mk h2'
  have H3 := Aside0.mk h3'
  clear B1 B2 B3 h2 h3 h2' h3' hT
  go_enter Tryz.func87, Tryz.ntmps87
  go_wp2_with (first | (go_at_call 90; ((with_reducible refine (ever8_calls _).mono ?_); rintro e w1 ⟨rfl, rfl⟩)) | (go_at_call 135; ((refine (each8 bt (w.heap.size + 1) (w.heap.size + 1 + 1) _ (by omega) T4.out H2.out H3.out).mono ?_); rintro e w2 ⟨rfl, ht⟩; have HT := Aside0.mk ht; clear ht)))
  have hb4 := B4.out
  have hb5 := hb4.trans (HT.out.below (B := w.heap.size) (by omega) hb4.size)
  exact bodyPost_ret (v := .tuple #[.slice none 0 0, .int .i64 10]) (by simp [results, Tryz.results87, go_sem]) rfl ⟨rfl, hb5⟩
set_option maxHeartbeats 4000000 in
set_option maxRecDepth 100000 in
theorem of8 (b : Nat) (cap : Nat) (w : World) (h0 : w.cell? ⟨b, 0, none⟩ = some (.int .i64 0)) (h1 : w.cell? ⟨b, 1, none⟩ = some (.int .i64 0)) (hb : b < w.heap.size) :
    Calls Tryz.prog 82 #[.int .i64 8, .slice (some ⟨b, 0, none⟩) 1 cap] w fun e w' => e = .returned (.tuple #[.agg town8, .int .i64 0]) ∧ Below w.heap.size w w' := by
  have n1 : ¬ b = w.heap.size + 1 := by omega
  have n2 : ¬ b = w.heap.size := by omega
  have n3 : ¬ b = w.heap.size + 1 + 1 := by omega
  have n4 : ¬ w.heap.size + 1 = b := by omega
  have n5 : b < w.heap.size + 1 := by omega
  have n6 : b < w.heap.size + 1 + 1 := by omega
  have b1 : bits .or .i64 0 1 = 1 := by rfl
  go_enter Tryz.func82, Tryz.ntmps82
  go_wp2
  refine wp_loop_rounds 2 ?_
  rw [rounds_succ]
  go_wp2
  go_region
  go_wp2
  rw [rounds_succ]
  go_wp2
  refine bodyPost_ret (v := .tuple #[.agg town8, .int .i64 0]) (by simp [results, Tryz.results82, go_sem]) rfl ⟨rfl, ?_⟩
  repeat (first | exact Below.refl _ _ | apply below_drew1 | apply below_alloc)
set_option maxHeartbeats 4000000 in
set_option maxRecDepth 100000 in
theorem kernel_none (b : Nat) (cap : Nat) (w : World) (h0 : w.cell? ⟨b, 0, none⟩ = some (.int .i64 0)) (h1 : w.cell? ⟨b, 1, none⟩ = some (.int .i64 0)) (hb : b < w.heap.size) :
    Calls Tryz.prog 47 #[.int .i64 8, .slice (some ⟨b, 0, none⟩) 1 cap] w fun e w' => e = .returned (.tuple #[.slice none 0 0, .int .i64 10]) ∧ Below w.heap.size w w' := by
  have hmf : ∀ (fn : Fn) (first cap : Array Value) (w : World), (Instr.makeFunc fn first cap).run Tryz.prog w = .ok (.func fn first cap) w := fun _ _ _ _ => rfl
  go_enter Tryz.func47, Tryz.ntmps47
  go_wp2_with fail
  refine (of8 b cap _ h0 h1 hb).mono ?_
  rintro e w1 ⟨rfl, hb1⟩
  have HB := Aside0.mk (below_alloc hb1 (.cells town8 147))
  clear hb1 h0 h1
  go_wp2_with (go_at_call 87; refine (first8 w1.heap.size _ (Town8At.new w1)).mono ?_; rintro e w2 ⟨rfl, hb2⟩; have HB2 := Aside0.mk (HB.out.trans (hb2.mono HB.out.size)); clear hb2)
  exact bodyPost_ret (v := .tuple #[.slice none 0 0, .int .i64 10]) (by simp [results, Tryz.results47, go_sem]) rfl ⟨rfl, HB2.out⟩
theorem TAt.arc1 {w : World} {v : Value} (h : TAt w 2 v [.int .i64 0, .int .i64 0] 1) : ∃ g, v = .slice (some ⟨g, 0, none⟩) 1 1 ∧ w.cell? ⟨g, 0, none⟩ = some (.int .i64 0) ∧ w.cell? ⟨g, 1, none⟩ = some (.int .i64 0) := by
  rcases h.lies with ⟨_, h0⟩ | ⟨g, rfl, _, _, hc⟩
  · omega
  · exact ⟨g, rfl, hc 0 _ rfl, hc 1 _ rfl⟩
set_option maxHeartbeats 4000000 in
set_option maxRecDepth 100000 in
theorem shave_F (q : Nat) (S : Sh) (hA : S.arcs = [.int .i64 0, .int .i64 0]) (hA2 : S.narcs = 1) (a0 a1 a2 a3 : Value) (w : World) (hs : ShopT w q S) :
    Calls Tryz.prog 121 #[.pointer (some ⟨q, 0, none⟩), .agg #[a0, a1, a2, a3]] w fun e w' => e = .returned (.string ⟨#[110, 111, 110, 101]⟩) ∧ Below w.heap.size w w' := by
  obtain ⟨vs, va, vc, vm, vb, P0, t1, t2, t3, t4, t5⟩ := hs.at_
  rw [hA, hA2] at t2
  obtain ⟨g, rfl, x0, x1⟩ := t2.arc1
  have hb0 := below_alloc (Below.refl _ w) (Obj.cells #[a0, a1, a2, a3] 129)
  have y33 : (w.alloc (Obj.cells #[a0, a1, a2, a3] 129)).cell? ⟨q, 33, none⟩ = some (.slice (some ⟨g, 0, none⟩) 1 1) := pw_cell_below hb0 (by rw [blk_cell P0]; cases S.b <;> rfl)
  have HK := Aside0.mk (kernel_none g 1 _ (pw_cell_below hb0 x0) (pw_cell_below hb0 x1) (World.block_lt_of_cell? _ _ (pw_cell_below hb0 x0)))
  have HB0 := Aside0.mk hb0
  clear hs P0 t1 t2 t3 t4 t5 hb0 x0 x1
  go_enter Tryz.func121, Tryz.ntmps121
  go_wp2_with (go_at_call 47; refine HK.out.mono ?_; rintro e w1 ⟨rfl, hb1⟩; have HB1 := Aside0.mk (HB0.out.trans (hb1.mono HB0.out.size)); clear hb1)
  go_ret
  exact ⟨rfl, HB1.out⟩
set_option maxHeartbeats 2000000 in
set_option maxRecDepth 100000 in
theorem exec_shave (w : World) (hG : Glob w) (p : Nat) (hs : ShopAt w p shD) :
    Calls Tryz.prog 14 #[.pointer (some ⟨p, 0, none⟩), .string ⟨#[115, 104, 97, 118, 101]⟩] w fun e w' => e = .returned (.string ⟨#[110, 111, 110, 101]⟩) ∧ Below w.heap.size w w' := by
  have hl : lineOf [(⟨#[115, 104, 97, 118, 101]⟩ : ByteArray)] = ⟨#[115, 104, 97, 118, 101]⟩ := lineOf_one _
  have := exec_look verb_shave [] (fun y hy => absurd hy (by simp)) (by decide +kernel) (by decide) (by decide) (by decide) (fun a k W => W.heap[a]? = some (argsA a (.slice none 0 0) (.slice none 0 0) (.slice none 0 0) (lineOf [⟨#[115, 104, 97, 118, 101]⟩]))) w hG p shD hs ⟨#[110, 111, 110, 101]⟩ (enters_of Tryz.func121 (by kernel_rfl) rfl)
    (fun a W ha _ => ha) (fun a k W hk => absurd hk (Nat.not_lt_zero k)) (fun a W h => ⟨_, _, _, h⟩) (fun a k W W' h hb => blk_below h hb)
    (fun W q a v0 v1 v2 hb hq _ _ => shave_F q shD rfl rfl v0 v1 v2 _ W hq)
  rw [hl] at this
  exact this
end Go.Proofs.YtldohjlcckbfaaaGreatDoor.Hand
namespace Go.Proofs.YtldohjlcckbfaaaGreatDoor.Hand
open Go.RowKit Go.Proofs.YtldohjlcckbfaaaGreatDoorW.PrintWords Go.Proofs.YtldohjlcckbfaaaGreatDoorW.PrintLast Go.Proofs.YtldohjlcckbfaaaGreatDoorW.PrintMore
set_option linter.unusedVariables false
set_option linter.unusedSimpArgs false
open Go.Proofs.YtldohjlcckbfaaaGreatDoor.Pre
open TopWords
def bitOf (s i : Nat) : Bool := decide (s / 2 ^ i % 2 = 1)
def memL (s i : Nat) : List Int := ((List.range i).filter (bitOf s)).map fun (j : Nat) => (j : Int)
theorem memL_succ (s i : Nat) : memL s (i + 1) = if bitOf s i = true then memL s i ++ [(i : Int)] else memL s i := by
  unfold memL
  rw [List.range_succ, List.filter_append, List.map_append]
  by_cases h : bitOf s i = true
  · rw [if_pos h]
    simp [List.filter_cons, h]
  · rw [if_neg h]
    simp [List.filter_cons, h]
theorem memL_stop (s i : Nat) (h : s / 2 ^ i = 0) : ∀ d, memL s (i + d) = memL s i
  | 0 => rfl
  | d + 1 => by
    rw [← Nat.add_assoc, memL_succ, memL_stop s i h d]
    have h2 : s / 2 ^ (i + d) = 0 := by
      rw [Nat.pow_add, ← Nat.div_div_eq_div_mul, h, Nat.zero_div]
    rw [if_neg]
    unfold bitOf
    rw [h2]
    simp
theorem memL_len (s : Nat) : ∀ i, (memL s i).length ≤ i
  | 0 => by simp [memL]
  | i + 1 => by
    have := memL_len s i
    rw [memL_succ]
    split
    · simp; omega
    · omega
theorem and_bit : ∀ t : Fin 1024, bits .and .i64 (t.val : Int) 1 = ((t.val % 2 : Nat) : Int) := by decide +kernel
set_option maxHeartbeats 4000000 in
set_option maxRecDepth 100000 in
theorem truth_members (s : Nat) (hs : s < 1024) (w : World) :
    Calls Tryz.prog 195 #[.int .i64 s] w fun e w' => ∃ v, e = .returned v ∧ w'.ownsRow w.heap.size 3 1 v (memL s 10).length (nums .i64 (memL s 10)) ∧ Below w.heap.size w w' := by
  have info3 : (Tryz.prog.info? 3).map (fun i => (i.zero, i.size, i.bytes)) = some (some (.int .i64 0), 1, 8) := by kernel_rfl
  obtain ⟨i0, hi0, hz0, hz1, hz2⟩ := info_parts info3
  clear info3
  go_enter Tryz.func195, Tryz.ntmps195
  go_wp2
  go_loopg [3, 4] 10 (fun q v3 v4 wr => ∃ i : Nat, v4 = .int .i64 i ∧ i + q = 10 ∧ Aside0 (wr.ownsRow w.heap.size 3 1 v3 (memL s i).length (nums .i64 (memL s i))) ∧ Aside0 (Below w.heap.size w wr))
  case atStart => exact ⟨0, rfl, rfl, ⟨own_nil _ _ _ _⟩, ⟨Below.refl _ _⟩⟩
  case round =>
    obtain ⟨i, rfl, hiq, HO, HB⟩ := hrel
    obtain ⟨t, ht⟩ : ∃ t, s / 2 ^ i = t := ⟨_, rfl⟩
    have htl : t ≤ s := by rw [← ht]; exact Nat.div_le_self _ _
    have hx : (s : Int) / 2 ^ i = (t : Int) := by rw [← ht]; simp
    have HS := Aside0.mk (memL_succ s i)
    have HST := Aside0.mk (fun h : t = 0 => memL_stop s i (ht.trans h) (10 - i))
    have hbt : bitOf s i = decide (t % 2 = 1) := by unfold bitOf; rw [ht]
    have hab := and_bit ⟨t, by omega⟩
    have H10 := Aside0.mk (show i = 10 → t = 0 from fun h => by rw [← ht, h]; exact Nat.div_eq_of_lt (by omega))
    have HLen := Aside0.mk (memL_len s i)
    have hi10 : i ≤ 10 := by omega
    clear ht
    by_cases h0 : 0 < t
    · have hlt : i < 10 := by
        rcases Nat.lt_or_ge i 10 with h | h
        · exact h
        · have := H10.out (by omega); omega
      obtain ⟨q', rfl⟩ : ∃ q, gk = q + 1 := ⟨gk - 1, by omega⟩
      by_cases h1 : t % 2 = 1
      · have hb : bits .and .i64 (t : Int) 1 = 1 := by rw [hab, h1]; rfl
        rw [hbt, decide_eq_true h1, if_pos rfl] at HS
        clear hab hbt h1
        go_wp2_with (at_builtin; refine wpList_append_own _ rfl _ _ 22 rfl w.heap.size 3 i0 (.int .i64 0) 1 8 Tryz.underlying22 hi0 hz0 hz1 hz2 rfl (by decide) _ _ _ rfl (HO.out.alloc _) ⟨wr.heap.size, 0, none⟩ 1 1 [.int .i64 (i : Int)] rfl rfl ?c1 ?c2 ?c3 ?c4 ?c5 ?_)
        case c1 => intro j u hj; rw [Addr.add_lit, Nat.zero_add, blk_cell (heap_new wr _)]; simpa using hj
        case c2 => intro u hu; rw [List.mem_singleton] at hu; subst hu; rfl
        case c3 => have := HLen.out; simp only [maxLen]; omega
        case c4 => have := HLen.out; omega
        case c5 => have q := HB.out.size; simp only [size_alloc]; omega
        intro v' w2 hown hgrow hiff
        have HO2 := Aside0.mk hown
        have HB2 := Aside0.mk (show Below w.heap.size w w2 from (HB.out.alloc HB.out.size (Obj.cells #[Value.int .i64 (i : Int)] 3)).grown hgrow (by have q := HB.out.size; simp only [size_alloc]; omega) (fun j hj => own_base HO.out j hj))
        clear hgrow hown hiff
        go_wp2
        go_roundg q'
        case measure => omega
        case rel => exact ⟨i + 1, by go_num, by omega, ⟨by rw [HS.out, List.length_append, nums_snoc]; exact HO2.out⟩, HB2⟩
      · have h1' : t % 2 = 0 := by omega
        have hb : bits .and .i64 (t : Int) 1 = 0 := by rw [hab, h1']; rfl
        rw [hbt, decide_eq_false h1, if_neg (by simp)] at HS
        clear hab hbt h1 h1'
        go_wp2
        go_roundg q'
        case measure => omega
        case rel => exact ⟨i + 1, by go_num, by omega, ⟨by rw [HS.out]; exact HO.out⟩, HB⟩
    · obtain rfl : t = 0 := by omega
      have hst := HST.out rfl
      rw [show i + (10 - i) = 10 by omega] at hst
      have HST2 := Aside0.mk hst
      clear hst hab hbt
      go_wp2
      go_ret
      exact ⟨_, rfl, by rw [HST2.out]; exact HO.out, HB.out⟩
end Go.Proofs.YtldohjlcckbfaaaGreatDoor.Hand
namespace Go.Proofs.YtldohjlcckbfaaaGreatDoor.Hand
open Go.RowKit Go.Proofs.YtldohjlcckbfaaaGreatDoorW.PrintWords Go.Proofs.YtldohjlcckbfaaaGreatDoorW.PrintLast Go.Proofs.YtldohjlcckbfaaaGreatDoorW.PrintMore
set_option linter.unusedVariables false
set_option linter.unusedSimpArgs false
open Go.Proofs.YtldohjlcckbfaaaGreatDoor.Pre
open TopWords
def bin (B : List Int) : Prop := B.length = 10 ∧ ∀ x ∈ B, x = 48 ∨ x = 49
theorem bin_at {B : List Int} (h : bin B) {j : Nat} (hj : j < 10) : B[j]? = some 48 ∨ B[j]? = some 49 := by
  have hl : j < B.length := by rw [h.1]; exact hj
  rw [List.getElem?_eq_getElem hl]
  rcases h.2 _ (List.getElem_mem hl) with e | e
  · left; rw [e]
  · right; rw [e]
theorem str_first (a : Int) (t : List Int) (h : a = 48 ∨ a = 49) : v0 (strOfNums (a :: t)) = a := by
  rcases h with rfl | rfl
  · unfold v0 strOfNums
    simp
    rfl
  · unfold v0 strOfNums
    simp
    rfl
def BytesAt (w : World) (q : Nat) (B : List Int) : Prop := ∀ (j : Nat) x, B[j]? = some x → w.cell? ⟨q, j, none⟩ = some (.int .u8 x)
theorem BytesAt.C {w : World} {q : Nat} {B : List Int} (h : BytesAt w q B) (hl : B.length = 10) : Kd.C (Kd.int .u8) w (some ⟨q, 0, none⟩) 10 B := by
  refine Kd.C_of_reads (enc := Value.int .u8) (d := (0 : Int)) ⟨hl, by omega, fun _ => ⟨⟨q, 0, none⟩, rfl, fun j hj => ?_⟩⟩
  rw [Addr.add_lit, Nat.zero_add, h j B[j] (List.getElem?_eq_getElem (by omega))]
  simp [List.getD_eq_getElem?_getD, List.getElem?_eq_getElem (show j < B.length by omega)]
theorem bytes_below {w w' : World} {q : Nat} {B : List Int} (h : BytesAt w q B) (hb : Below w.heap.size w w') : BytesAt w' q B := fun j x hj => pw_cell_below hb (h j x hj)
def wrong (B : List Int) (x : Nat) : Bool := val x (B.getD 0 0) != B.getD x 0
set_option maxHeartbeats 4000000 in
set_option maxRecDepth 100000 in
theorem conset_calls (x : Nat) (hx : x < 10) (bs bv g c q c2 : Nat) (B : List Int) (hB : bin B) (w : World) (hs : w.cell? ⟨bs, 0, none⟩ = some (.slice (some ⟨g, 0, none⟩) 10 c)) (hf : FrmRow w g) (hv : w.cell? ⟨bv, 0, none⟩ = some (.slice (some ⟨q, 0, none⟩) 10 c2)) (hq : BytesAt w q B) :
    Calls Tryz.prog 233 #[.int .i64 x, .pointer (some ⟨bs, 0, none⟩), .pointer (some ⟨bv, 0, none⟩)] w fun e w' => e = .returned (.bool (wrong B x)) ∧ Below w.heap.size w w' := by
  have hm : ∀ w v, (method 429 270 v "pomade/truth.value").run Tryz.prog w = .ok (292, v) w := fun _ _ => by kernel_rfl
  have hm2 : ∀ w v, (method 429 267 v "pomade/truth.value").run Tryz.prog w = .ok (288, v) w := fun _ _ => by kernel_rfl
  obtain ⟨a, t, rfl⟩ : ∃ a t, B = a :: t := by
    cases B with
    | nil => exact absurd hB.1 (by decide)
    | cons a t => exact ⟨a, t, rfl⟩
  have ha := hB.2 a (by simp)
  have hv0 := str_first a t ha
  have hcb := Kd.C_string (P := Tryz.prog) (c := c2) Tryz.underlying98 Tryz.underlying5 Tryz.underlying9 (hq.C hB.1)
  obtain ⟨bx, hbx⟩ : ∃ b, (a :: t).getD x 0 = b := ⟨_, rfl⟩
  have hxc : w.cell? ⟨q, x, none⟩ = some (.int .u8 bx) := hq x bx (by
    rw [← hbx, List.getD_eq_getElem?_getD]
    have hl : x < (a :: t).length := by rw [hB.1]; exact hx
    rw [List.getElem?_eq_getElem hl]; rfl)
  have HW := Aside0.mk (show wrong (a :: t) x = (val x a != bx) by unfold wrong; rw [hbx]; rfl)
  have hf2 := hf x hx
  obtain ⟨S, hS⟩ : ∃ S, strOfNums (a :: t) = S := ⟨_, rfl⟩
  rw [hS] at hv0 hcb
  have hSs : 0 < S.size := by
    rcases Nat.eq_zero_or_pos S.size with h0 | h0
    · unfold v0 at hv0
      rw [dif_neg (by omega)] at hv0
      omega
    · exact h0
  have HNV := Aside0.mk (fun W => not_val S hSs W)
  rw [hv0] at HNV
  have HCV := Aside0.mk (fun W => const_val0 S W)
  have hlt1 : (0 : Int) ≤ (x : Int) := by omega
  have hlt2 : (x : Int) < 10 := by omega
  have HB0 := Aside0.mk (below_drew (Below.refl w.heap.size w))
  have s1 : w.drew.cell? ⟨bs, 0, none⟩ = some (.slice (some ⟨g, 0, none⟩) 10 c) := hs
  have s2 : w.drew.cell? ⟨bv, 0, none⟩ = some (.slice (some ⟨q, 0, none⟩) 10 c2) := hv
  have s3 : w.drew.cell? ⟨q, x, none⟩ = some (.int .u8 bx) := hxc
  have hcv : ∀ W, BytesAt W q (a :: t) → (convert 98 9 (.slice (some ⟨q, 0, none⟩) 10 c2)).run Tryz.prog W = .ok (.string S) W := fun W hW => (Kd.C_string (P := Tryz.prog) (c := c2) Tryz.underlying98 Tryz.underlying5 Tryz.underlying9 (hW.C hB.1)).trans (by rw [hS])
  have s5 : BytesAt w.drew q (a :: t) := fun j y hj => hq j y hj
  have HF := Aside0.mk (show frm x = if x = 0 then gN else gC from rfl)
  have HVl := Aside0.mk (show val x a = if x = 0 then opp a else 48 from rfl)
  clear hB hq hf hs hv hxc hv0 hS hSs hbx ha hx hcb
  by_cases h0 : x = 0
  · rw [HF.out, if_pos h0] at hf2
    rw [if_pos h0] at HVl
    have s4 : w.drew.cell? ⟨g, x, none⟩ = some gN := hf2
    have H0 := Aside0.mk h0
    clear h0 hf2
    go_enter Tryz.func233, Tryz.ntmps233
    go_wp2
    go_region_held3 (fun w' => w'.cell? ⟨bs, 0, none⟩ = some (.slice (some ⟨g, 0, none⟩) 10 c) ∧ w'.cell? ⟨bv, 0, none⟩ = some (.slice (some ⟨q, 0, none⟩) 10 c2) ∧ w'.cell? ⟨q, x, none⟩ = some (.int .u8 bx) ∧ w'.cell? ⟨g, x, none⟩ = some gN ∧ BytesAt w' q (a :: t)) (first | (exact ⟨s1, s2, s3, s4, s5⟩) | (exact ⟨z1, z2, z3, z4, z5⟩)) (((with_reducible refine (HNV.out _).mono ?_); rintro e w1 ⟨rfl, hb1⟩; have HB1 := Aside0.mk (HB0.out.trans hb1); have z1 := pw_cell_below hb1 s1; have z2 := pw_cell_below hb1 s2; have z3 := pw_cell_below hb1 s3; have z4 := pw_cell_below hb1 s4; have z5 := bytes_below s5 hb1; clear hb1))
    go_wp2
    go_ret
    exact ⟨by rw [HW.out, HVl.out]; rfl, HB1.out⟩
  · rw [HF.out, if_neg h0] at hf2
    rw [if_neg h0] at HVl
    have s4 : w.drew.cell? ⟨g, x, none⟩ = some gC := hf2
    have H0 := Aside0.mk h0
    clear h0 hf2
    go_enter Tryz.func233, Tryz.ntmps233
    go_wp2
    go_region_held3 (fun w' => w'.cell? ⟨bs, 0, none⟩ = some (.slice (some ⟨g, 0, none⟩) 10 c) ∧ w'.cell? ⟨bv, 0, none⟩ = some (.slice (some ⟨q, 0, none⟩) 10 c2) ∧ w'.cell? ⟨q, x, none⟩ = some (.int .u8 bx) ∧ w'.cell? ⟨g, x, none⟩ = some gC ∧ BytesAt w' q (a :: t)) (first | (exact ⟨s1, s2, s3, s4, s5⟩) | (exact ⟨z1, z2, z3, z4, z5⟩)) (((with_reducible refine (HCV.out _).mono ?_); rintro e w1 ⟨rfl, hb1⟩; have HB1 := Aside0.mk (HB0.out.trans hb1); have z1 := pw_cell_below hb1 s1; have z2 := pw_cell_below hb1 s2; have z3 := pw_cell_below hb1 s3; have z4 := pw_cell_below hb1 s4; have z5 := bytes_below s5 hb1; clear hb1))
    go_wp2
    go_ret
    exact ⟨by rw [HW.out, HVl.out]; rfl, HB1.out⟩
end Go.Proofs.YtldohjlcckbfaaaGreatDoor.Hand
