/- A part of the proof that pomadetop.TopTold returns true for every input: HandVh, HandVj. No condition beyond those that each theorem states. -/
import Derived.Test.YtldohjlcckbfaaaGreatDoorK31
import Derived.Test.YtldohjlcckbfaaaGreatDoorK39
namespace Go.Proofs.YtldohjlcckbfaaaGreatDoor.Hand
open Go.RowKit Go.Proofs.YtldohjlcckbfaaaGreatDoorW.PrintWords Go.Proofs.YtldohjlcckbfaaaGreatDoorW.PrintLast Go.Proofs.YtldohjlcckbfaaaGreatDoorW.PrintMore
set_option linter.unusedVariables false
set_option linter.unusedSimpArgs false
open Go.Proofs.YtldohjlcckbfaaaGreatDoor.Pre
open TopWords
structure CoreEnv (w0 : World) (bs ba g c go : Nat) (G : Nat → Nat) (b8 s : Nat) (v7 : Value) (w : World) : Prop where
  box : w.heap[bs]? = some (.cells #[.slice (some ⟨g, 0, none⟩) 10 c] 151 (0, 0))
  arcs : w.heap[ba]? = some (.cells #[.slice (some ⟨go, 0, none⟩) 10 10] 246 (0, 0))
  out : w.heap[go]? = some (.cells (outC G 10) 249 (0, 0))
  rows : ∀ i, i < 10 → w.heap[G i]? = some (.cells (signC (decide (i = 0))) 283 (0, 0))
  frm : FrmRow w g
  set : w.heap[b8]? = some (.cells #[.int .i64 s] 3 (0, 0))
  cores : (s = 1 ∧ v7 = .slice none 0 0) ∨ (1 < s ∧ ∃ q d, v7 = .slice (some ⟨q, 0, none⟩) 1 d ∧ 1 ≤ d ∧ w.cell? ⟨q, 0, none⟩ = some (.int .i64 1))
  below : Below w0.heap.size w0 w
theorem CoreEnv.step {w0 w w' : World} {bs ba g c go b8 s : Nat} {G : Nat → Nat} {v7 : Value} (e : CoreEnv w0 bs ba g c go G b8 s v7 w) (hb : Below w.heap.size w w') : CoreEnv w0 bs ba g c go G b8 s v7 w' :=
  ⟨blk_below e.box hb, blk_below e.arcs hb, blk_below e.out hb, fun i hi => blk_below (e.rows i hi) hb, fun j hj => pw_cell_below hb (e.frm j hj), blk_below e.set hb,
    e.cores.imp id fun ⟨h1, q, d, h2, h3, h4⟩ => ⟨h1, q, d, h2, h3, pw_cell_below hb h4⟩, e.below.trans (hb.mono e.below.size)⟩
theorem CoreEnv.next {w0 w : World} {bs ba g c go b8 s : Nat} {G : Nat → Nat} {v7 v8 : Value} (e : CoreEnv w0 bs ba g c go G b8 s v7 w)
    (hv : 1 < s + 1 ∧ ∃ q d, v8 = .slice (some ⟨q, 0, none⟩) 1 d ∧ 1 ≤ d ∧ w.cell? ⟨q, 0, none⟩ = some (.int .i64 1)) :
    CoreEnv w0 bs ba g c go G w.heap.size (s + 1) v8 (w.alloc (.cells #[.int .i64 ((s : Int) + 1)] 3)) := by
  have hb : Below w.heap.size w (w.alloc (.cells #[.int .i64 ((s : Int) + 1)] 3)) := below_alloc (Below.refl _ w) _
  have e' := e.step hb
  obtain ⟨h1, q, d, h2, h3, h4⟩ := hv
  exact ⟨e'.box, e'.arcs, e'.out, e'.rows, e'.frm, heap_new w _, .inr ⟨h1, q, d, h2, h3, pw_cell_below hb h4⟩, e'.below⟩
theorem nilC (w : World) : Kd.C (Kd.int .i64) w none 0 [] := Kd.C_of_reads (enc := Value.int .i64) (d := (0 : Int)) ⟨rfl, by omega, fun h => absurd h (by decide)⟩
theorem oneC {w : World} {q : Nat} (h : w.cell? ⟨q, 0, none⟩ = some (.int .i64 1)) : Kd.C (Kd.int .i64) w (some ⟨q, 0, none⟩) 1 [1] :=
  Kd.C_of_reads (enc := Value.int .i64) (d := (0 : Int)) ⟨rfl, by omega, fun _ => ⟨⟨q, 0, none⟩, rfl, fun j hj => by
    obtain rfl : j = 0 := by omega
    rw [Addr.add_lit, Nat.zero_add]
    exact h⟩⟩
theorem closed_calls {w0 w : World} {bs ba g c go b8 s : Nat} {G : Nat → Nat} {v7 : Value} (hs : s < 1024) (e : CoreEnv w0 bs ba g c go G b8 s v7 w) (B : Nat) (A1 : Option Addr) (c1 : Nat) (ho : w.ownsRow B 3 1 (.slice A1 (memL s 10).length c1) (memL s 10).length (nums .i64 (memL s 10))) :
    Calls Tryz.prog 48 #[.slice A1 (memL s 10).length c1, .func (.func 196) #[] #[.pointer (some ⟨bs, 0, none⟩), .pointer (some ⟨ba, 0, none⟩), .pointer (some ⟨b8, 0, none⟩)]] w fun e' w' => e' = .returned (.bool false) ∧ CoreEnv w0 bs ba g c go G b8 s v7 w' := by
  have h := containsFuncI 196 #[.pointer (some ⟨bs, 0, none⟩), .pointer (some ⟨ba, 0, none⟩), .pointer (some ⟨b8, 0, none⟩)] (enters_of Tryz.func196 (by kernel_rfl) rfl) (memL s 10) A1 c1 (by have := memL_len s 10; omega)
    (fun W => CoreEnv w0 bs ba g c go G b8 s v7 W ∧ W.ownsRow B 3 1 (.slice A1 (memL s 10).length c1) (memL s 10).length (nums .i64 (memL s 10)))
    (fun W hW => by
      obtain ⟨A', c', he, hr⟩ := own_reads hW.2
      cases he
      exact Kd.C_of_reads (enc := Value.int .i64) (d := (0 : Int)) hr)
    (fun _ => false)
    (fun x hx W hW => by
      obtain ⟨j, rfl, hj, hjb⟩ := memL_in s 10 x hx
      refine (core1_calls bs ba b8 g c go G j s hj hs (fun h0 => by rw [h0] at hjb; exact hjb) W (cellAt hW.1.box) (cellAt hW.1.arcs) (cellAt hW.1.set) hW.1.out (hW.1.rows j hj)).mono ?_
      rintro e W' ⟨rfl, hb⟩
      exact ⟨rfl, hW.1.step hb, pw_own_below hW.2 hb⟩) w ⟨e, ho⟩
  refine h.mono ?_
  rintro e' w' ⟨rfl, h1, _⟩
  exact ⟨by rw [List.any_eq_false.2 (fun x _ => by simp)], h1⟩
theorem cores_nil {w0 w : World} {bs ba g c go b8 s : Nat} {G : Nat → Nat} {v7 : Value} (e : CoreEnv w0 bs ba g c go G b8 s v7 w) :
    Calls Tryz.prog 48 #[.slice none 0 0, .func (.func 199) #[] #[.pointer (some ⟨b8, 0, none⟩)]] w fun e' w' => e' = .returned (.bool false) ∧ CoreEnv w0 bs ba g c go G b8 s v7 w' :=
  containsFuncI 199 #[.pointer (some ⟨b8, 0, none⟩)] (enters_of Tryz.func199 (by kernel_rfl) rfl) [] none 0 (by decide) (fun W => CoreEnv w0 bs ba g c go G b8 s v7 W) (fun W _ => nilC W) (fun _ => false) (fun x hx => absurd hx (by simp)) w e
theorem cores_one {w0 w : World} {bs ba g c go b8 s : Nat} {G : Nat → Nat} {v7 : Value} (e : CoreEnv w0 bs ba g c go G b8 s v7 w) (hs : s < 1024) (hb : bitOf s 0 = true) (q d : Nat) (hv : v7 = .slice (some ⟨q, 0, none⟩) 1 d) (h1 : 1 < s) :
    Calls Tryz.prog 48 #[.slice (some ⟨q, 0, none⟩) 1 d, .func (.func 199) #[] #[.pointer (some ⟨b8, 0, none⟩)]] w fun e' w' => e' = .returned (.bool true) ∧ CoreEnv w0 bs ba g c go G b8 s v7 w' :=
  containsFuncI 199 #[.pointer (some ⟨b8, 0, none⟩)] (enters_of Tryz.func199 (by kernel_rfl) rfl) [1] (some ⟨q, 0, none⟩) d (by decide) (fun W => CoreEnv w0 bs ba g c go G b8 s v7 W)
    (fun W hW => by
      rcases hW.cores with ⟨e1, _⟩ | ⟨_, q', d', e2, _, hc⟩
      · omega
      · rw [hv] at e2
        cases e2
        exact oneC hc)
    (fun _ => true)
    (fun x hx W hW => by
      obtain rfl := List.mem_singleton.1 hx
      refine (core2_calls b8 s (andNot_one ⟨s, hs⟩ (by unfold bitOf at hb; simpa using hb)) W (cellAt hW.set)).mono ?_
      rintro e' W' ⟨rfl, rfl⟩
      exact ⟨rfl, hW⟩) w e
set_option maxHeartbeats 4000000 in
set_option maxRecDepth 100000 in
theorem core_calls (g0 cap : Nat) (w : World) (h : SenRow w g0) :
    Calls Tryz.prog 166 #[.slice (some ⟨g0, 0, none⟩) 10 cap] w fun e w' => ∃ g' c', e = .returned (.tuple #[.slice (some ⟨g', 0, none⟩) 1 c', .int .i64 0]) ∧ w'.cell? ⟨g', 0, none⟩ = some (.int .i64 0) ∧ Below w.heap.size w w' := by
  have hmf : ∀ (fn : Fn) (first cap : Array Value) (w : World), (Instr.makeFunc fn first cap).run Tryz.prog w = .ok (.func fn first cap) w := fun _ _ _ _ => rfl
  have info3 : (Tryz.prog.info? 3).map (fun i => (i.zero, i.size, i.bytes)) = some (some (.int .i64 0), 1, 8) := by kernel_rfl
  obtain ⟨i0, hi0, hz0, hz1, hz2⟩ := info_parts info3
  have HO := Aside0.mk (of_10 g0 cap w h)
  clear h info3
  go_enter Tryz.func166, Tryz.ntmps166
  go_wp2_with (first | (go_at_call 84; refine HO.out.mono ?_; rintro e w1 ⟨g, c, rfl, hg1, hf, hb1⟩; have HB1 := Aside0.mk hb1; have HX1 := Aside0.mk (heap_new w1 (Obj.cells #[.slice (some ⟨g, 0, none⟩) 10 c] 151)); have HY1 := Aside0.mk (below_alloc (Below.refl _ w1) (Obj.cells #[.slice (some ⟨g, 0, none⟩) 10 c] 151)); have HF1 := Aside0.mk (show FrmRow (w1.alloc (Obj.cells #[.slice (some ⟨g, 0, none⟩) 10 c] 151)) g from fun j hj => pw_cell_below HY1.out (hf j hj)); clear hf hb1 hg1) | (go_at_call 194; refine (arcs_calls g c _ HF1.out).mono ?_; rintro e w2 ⟨go, G, rfl, ho2, hr2, hb2⟩; have HR2 := Aside0.mk (And.intro ho2 hr2); have HB2 := Aside0.mk hb2; clear ho2 hr2 hb2))
  have hb3 := below_alloc (below_alloc (Below.refl _ w2) (Obj.cells #[.slice (some ⟨go, 0, none⟩) 10 10] 246)) (Obj.cells #[.int .i64 1] 3)
  have hx2 := blk_below (heap_new w2 (Obj.cells #[.slice (some ⟨go, 0, none⟩) 10 10] 246)) (below_alloc (Below.refl _ _) (Obj.cells #[.int .i64 1] 3))
  have hx3 := heap_new (w2.alloc (Obj.cells #[.slice (some ⟨go, 0, none⟩) 10 10] 246)) (Obj.cells #[.int .i64 1] 3)
  rw [size_alloc] at hx3
  obtain ⟨w3, e3⟩ : ∃ w3, (w2.alloc (Obj.cells #[.slice (some ⟨go, 0, none⟩) 10 10] 246)).alloc (Obj.cells #[.int .i64 1] 3) = w3 := ⟨_, rfl⟩
  rw [e3] at hb3 hx2 hx3 ⊢
  obtain ⟨bs, hbs⟩ : ∃ b, w1.heap.size = b := ⟨_, rfl⟩
  obtain ⟨ba, hba⟩ : ∃ b, w2.heap.size = b := ⟨_, rfl⟩
  have hsz := HB1.out.size
  have hy := HY1.out
  have h23 := HB2.out.trans (hb3.mono HB2.out.size)
  have hB3 : Below w.heap.size w w3 := (HB1.out.trans (hy.mono hsz)).trans (h23.mono (Nat.le_trans hsz hy.size))
  have HE := Aside0.mk (CoreEnv.mk (w0 := w) (bs := bs) (ba := ba) (g := g) (c := c) (go := go) (G := G) (b8 := ba + 1) (s := 1) (v7 := .slice none 0 0) (w := w3) (by rw [← hbs]; exact blk_below HX1.out h23) (by rw [← hba]; exact hx2) (blk_below HR2.out.1 hb3) (fun i hi => blk_below (HR2.out.2 i hi) hb3) (fun j hj => pw_cell_below h23 (HF1.out j hj)) (by rw [← hba]; exact hx3) (.inl ⟨rfl, rfl⟩) hB3)
  rw [hbs, hba]
  clear hb3 hx2 hx3 e3 hsz hy h23 hB3 hbs hba HF1 HX1 HY1 HB1 HB2 HR2 HO
  go_loopg [7, 8] 1023 (fun q v7 v8 wr => ∃ (s b8 : Nat), v8 = .pointer (some ⟨b8, 0, none⟩) ∧ s + q = 1024 ∧ 1 ≤ s ∧ Aside0 (CoreEnv w bs ba g c go G b8 s v7 wr))
  case atStart => exact ⟨1, ba + 1, rfl, rfl, Nat.le_refl 1, HE⟩
  case round =>
    obtain ⟨s, b8, rfl, hsq, hs1, HEr⟩ := hrel
    have x8 := cellAt HEr.out.set
    have x4 := cellAt HEr.out.box
    by_cases hlt : s < 1024
    · obtain ⟨q, rfl⟩ : ∃ q, gk = q + 1 := ⟨gk - 1, by omega⟩
      have hd : decide ((s : Int) < 1024) = true := decide_eq_true (by omega)
      go_wp2
      go_quiet (fail)
      have HE1 := Aside0.mk (HEr.out.step (pw_below_drewN (Below.refl _ wr) nq))
      obtain ⟨w1, hw1⟩ : ∃ W, wr.drewN nq = W := ⟨_, rfl⟩
      rw [hw1] at HE1 ⊢
      clear hw1 x8 x4
      have x8 := cellAt HE1.out.set
      have x4 := cellAt HE1.out.box
      have hws : wrap64 ((s : Int) + 1) = ((s + 1 : Nat) : Int) := by unfold wrap64; omega
      have HLT := Aside0.mk hlt
      have HM := Aside0.mk (truth_members s hlt w1)
      cases hbit : bitOf s 0
      · have hs2 : ∃ q d, u7 = .slice (some ⟨q, 0, none⟩) 1 d ∧ 1 ≤ d := by
          rcases HE1.out.cores with ⟨e1, _⟩ | ⟨_, q', d', e2, e3, _⟩
          · rw [e1] at hbit
            exact absurd hbit (by decide)
          · exact ⟨q', d', e2, e3⟩
        obtain ⟨q0, d0, rfl, hd0⟩ := hs2
        have HBit := Aside0.mk hbit
        clear hbit
        go_wp2_with (first | (go_at_call 195; (with_reducible refine HM.out.mono ?_); rintro e w2 ⟨v, rfl, ho, hb2⟩; obtain ⟨A1, c1, rfl⟩ := own_slice ho; have HC := Aside0.mk (closed_calls HLT.out (HE1.out.step hb2) _ A1 c1 ho); clear ho hb2) | (go_at_call 48; (with_reducible refine HC.out.mono ?_); rintro e w3 ⟨rfl, he3⟩; have HE3 := Aside0.mk he3; have HCs := Aside0.mk (consistent_calls g c s HLT.out w3 he3.frm); rw [HBit.out] at HCs; have y4 := cellAt he3.box; have y8 := cellAt he3.set; clear he3) | (go_at_call 198; (with_reducible refine HCs.out.mono ?_); rintro e w4 ⟨rfl, hb4⟩; have HE4 := Aside0.mk (HE3.out.step hb4); have z8 := cellAt HE4.out.set; clear hb4))
        have HF := Aside0.mk (HE4.out.next (by rcases HE4.out.cores with ⟨e1, e2⟩ | e3
                                               · cases e2
                                               · exact ⟨by omega, e3.2⟩))
        go_roundg q
        case measure => omega
        case rel => exact ⟨s + 1, _, rfl, by omega, by omega, HF⟩
      · by_cases hs2 : s = 1
        · subst hs2
          obtain rfl : u7 = .slice none 0 0 := by
            rcases HE1.out.cores with ⟨_, e2⟩ | ⟨e1, _⟩
            · exact e2
            · omega
          have hb1 := Aside0.mk hbit
          go_wp2_with (first | (go_at_call 195; (refine HM.out.mono ?_); rintro e w2 ⟨v, rfl, ho, hb2⟩; obtain ⟨A1, c1, rfl⟩ := own_slice ho; have HC := Aside0.mk (closed_calls HLT.out (HE1.out.step hb2) _ A1 c1 ho); clear ho hb2) | (go_at_call 48; refine HC.out.mono ?_; clear HC; rintro e w3 ⟨rfl, he3⟩; have HE3 := Aside0.mk he3; have HCs := Aside0.mk (consistent_calls g c 1 HLT.out w3 he3.frm); rw [hb1.out] at HCs; have y4 := cellAt he3.box; have y8 := cellAt he3.set; clear he3) | (go_at_call 198; (refine HCs.out.mono ?_); rintro e w4 ⟨rfl, hb4⟩; have HE4 := Aside0.mk (HE3.out.step hb4); have HN4 := Aside0.mk (cores_nil HE4.out); clear hb4) | (go_at_call 48; refine HN4.out.mono ?_; clear HN4; rintro e w5 ⟨rfl, he5⟩; have HE5 := Aside0.mk he5; have z8 := cellAt he5.set; clear he5) | (at_builtin; refine wpList_append_own _ rfl _ _ 22 rfl w.heap.size 3 i0 (.int .i64 0) 1 8 Tryz.underlying22 hi0 hz0 hz1 hz2 rfl (by decide) (.slice none 0 0) 0 [] rfl (own_nil _ _ _ _) ⟨w5.heap.size, 0, none⟩ 1 1 [.int .i64 1] rfl rfl ?c1 ?c2 ?c3 ?c4 ?c5 ?_))
          case c1 => intro j u hj; rw [Addr.add_lit, Nat.zero_add, blk_cell (heap_new w5 _)]; simpa using hj
          case c2 => intro u hu; rw [List.mem_singleton] at hu; subst hu; rfl
          case c3 => decide
          case c4 => decide
          case c5 => have h1 := HE5.out.below.size; simp only [size_alloc]; omega
          intro v' w6 hown hgrow hiff
          obtain ⟨q1, d1, rfl, _, _⟩ := hown.form (by decide)
          have hb6 : Below w5.heap.size w5 w6 := (below_alloc (Below.refl _ w5) (Obj.cells #[Value.int .i64 1] 3)).grown hgrow (by simp only [size_alloc]; omega) (fun k hk => by simp [Value.ownBlock] at hk)
          have hd1 : 1 ≤ d1 := by
            rcases hown.2 with ⟨e, _⟩ | ⟨g9, cap9, cur9, e, _, _, h9, _⟩
            · cases e
            · cases e; exact h9
          have HE6 := Aside0.mk (HE5.out.step hb6)
          have hcell := hown.cells rfl 0 (.int .i64 1) rfl
          rw [Addr.add_lit, Nat.zero_add] at hcell
          have HF := Aside0.mk (HE6.out.next (v8 := .slice (some ⟨q1, 0, none⟩) 1 d1) ⟨by omega, q1, d1, rfl, hd1, hcell⟩)
          have z9 := cellAt HE6.out.set
          clear hown hgrow hiff hb6 hcell
          go_wp2
          go_roundg q
          case measure => omega
          case rel => exact ⟨2, _, rfl, by omega, by omega, HF⟩
        · have hs3 : ∃ q d, u7 = .slice (some ⟨q, 0, none⟩) 1 d ∧ 1 ≤ d := by
            rcases HE1.out.cores with ⟨e1, _⟩ | ⟨_, q', d', e2, e3, _⟩
            · exact absurd e1 hs2
            · exact ⟨q', d', e2, e3⟩
          obtain ⟨q0, d0, rfl, hd0⟩ := hs3
          have HBit := Aside0.mk hbit
          have HS2 := Aside0.mk hs2
          clear hbit hs2
          go_wp2_with (first | (go_at_call 195; (with_reducible refine HM.out.mono ?_); rintro e w2 ⟨v, rfl, ho, hb2⟩; obtain ⟨A1, c1, rfl⟩ := own_slice ho; have HC := Aside0.mk (closed_calls HLT.out (HE1.out.step hb2) _ A1 c1 ho); clear ho hb2) | (go_at_call 48; (with_reducible refine HC.out.mono ?_); clear HC; rintro e w3 ⟨rfl, he3⟩; have HE3 := Aside0.mk he3; have HCs := Aside0.mk (consistent_calls g c s HLT.out w3 he3.frm); rw [HBit.out] at HCs; have y4 := cellAt he3.box; have y8 := cellAt he3.set; clear he3) | (go_at_call 198; (with_reducible refine HCs.out.mono ?_); rintro e w4 ⟨rfl, hb4⟩; have HE4 := Aside0.mk (HE3.out.step hb4); have HN4 := Aside0.mk (cores_one HE4.out HLT.out HBit.out q0 d0 rfl (by have := HS2.out; omega)); clear hb4) | (go_at_call 48; (with_reducible refine HN4.out.mono ?_); clear HN4; rintro e w5 ⟨rfl, he5⟩; have HE5 := Aside0.mk he5; have z8 := cellAt he5.set; clear he5))
          have HF := Aside0.mk (HE5.out.next (by rcases HE5.out.cores with ⟨e1, e2⟩ | e3
                                                 · cases e2
                                                 · exact ⟨by omega, e3.2⟩))
          go_roundg q
          case measure => omega
          case rel => exact ⟨s + 1, _, rfl, by omega, by omega, HF⟩
    · obtain rfl : s = 1024 := by omega
      have hd : decide ((1024 : Int) < 1024) = false := by decide
      go_wp2
      go_quiet (fail)
      have HE1 := Aside0.mk (HEr.out.step (pw_below_drewN (Below.refl _ wr) nq))
      obtain ⟨w1, hw1⟩ : ∃ W, wr.drewN nq = W := ⟨_, rfl⟩
      rw [hw1] at HE1 ⊢
      clear hw1 x8 x4
      rcases HE1.out.cores with ⟨e1, _⟩ | ⟨_, q0, d0, rfl, _, hc0⟩
      · omega
      · have HL := Aside0.mk (lists_one q0 d0 w1 hc0)
        clear hc0
        go_wp2_with (first | (go_at_call 201; refine HL.out.mono ?_; rintro e w2 ⟨g2, c2, q2, d2, rfl, h1, h2, hb2⟩; have HB2 := Aside0.mk hb2; have HX2 := Aside0.mk h2; have HMn := Aside0.mk (fun v => min_one g2 c2 q2 d2 v w2 h1); clear h1 h2 hb2) | (go_at_call 200; refine (HMn.out _).mono ?_; rintro e w3 ⟨rfl, hw⟩; rw [hw]; clear hw w3))
        exact bodyPost_ret (v := .tuple #[.slice (some ⟨q2, 0, none⟩) 1 d2, .int .i64 0]) (by simp [results, Tryz.results166, go_sem]) rfl ⟨q2, d2, rfl, HX2.out, HE1.out.below.trans (HB2.out.mono HE1.out.below.size)⟩
end Go.Proofs.YtldohjlcckbfaaaGreatDoor.Hand
namespace Go.Proofs.YtldohjlcckbfaaaGreatDoor.Hand
open Go.RowKit Go.Proofs.YtldohjlcckbfaaaGreatDoorW.PrintWords Go.Proofs.YtldohjlcckbfaaaGreatDoorW.PrintLast Go.Proofs.YtldohjlcckbfaaaGreatDoorW.PrintMore
set_option linter.unusedVariables false
set_option linter.unusedSimpArgs false
open Go.Proofs.YtldohjlcckbfaaaGreatDoor.Pre
open TopWords
theorem shop_34 (b : Bool) (vs va vc vm vb : Value) : (shopC b vs va vc vm vb)[34]? = some vc := by cases b <;> rfl
theorem greedy_one (g c : Nat) (w : World) (h : w.cell? ⟨g, 0, none⟩ = some (.int .i64 1)) :
    Calls Tryz.prog 158 #[.slice (some ⟨g, 0, none⟩) 1 c, .int .i64 0] w fun e w' => ∃ g', e = .returned (.tuple #[.slice (some ⟨g', 0, none⟩) 1 1, .int .i64 0]) ∧ w'.cell? ⟨g', 0, none⟩ = some (.int .i64 0) ∧ Below w.heap.size w w' := by
  have HL := Aside0.mk (looked_one g c w h)
  have HG := Aside0.mk (greedy_calls g c w h)
  clear h
  go_enter Tryz.func158, Tryz.ntmps158
  go_wp2_with (first | (go_at_call 188; refine HL.out.mono ?_; rintro e w1 ⟨rfl, rfl⟩) | (go_at_call 189; refine HG.out.mono ?_; rintro e w2 ⟨rfl, hx, hb⟩; have HX := Aside0.mk (And.intro hx hb); clear hx hb))
  exact bodyPost_ret (v := .tuple #[.slice (some ⟨_, 0, none⟩) 1 1, .int .i64 0]) (by simp [results, Tryz.results158, go_sem]) rfl ⟨_, rfl, HX.out.1, HX.out.2⟩
theorem LAt.one1 {w : World} {v : Value} (h : LAt w 1 v [.int .i64 1] 1) : ∃ g c, v = .slice (some ⟨g, 0, none⟩) 1 c ∧ w.cell? ⟨g, 0, none⟩ = some (.int .i64 1) := by
  rcases h.lies with ⟨_, h0⟩ | ⟨g, c, rfl, _, _, hc⟩
  · omega
  · exact ⟨g, c, rfl, hc 0 _ rfl⟩
set_option maxHeartbeats 4000000 in
set_option maxRecDepth 100000 in
theorem pay_calls (q g0 c0 : Nat) (v1 v2 v3 : Value) (S : Sh) (hA : S.amts = []) (hC : S.coins = [.int .i64 1]) (w0 w : World) (hG : Glob w0) (hb0 : Below w0.heap.size w0 w) (hq0 : w0.heap.size ≤ q) (hq : q < w.heap.size)
    (h0 : w.cell? ⟨g0, 0, none⟩ = some (.int .i64 4)) (h1 : w.cell? ⟨g0, 1, none⟩ = some (.int .i64 4)) (hs : ShopTX (· < q) w q S) :
    Calls Tryz.prog 111 #[.pointer (some ⟨q, 0, none⟩), .agg #[.slice (some ⟨g0, 0, none⟩) 2 c0, v1, v2, v3]] w fun e w' => e = .returned (.string ⟨#[48]⟩) ∧ ShopX (fun g => g < q ∨ w.heap.size ≤ g) w' q (S.paid 4) ∧ Turn q w w' := by
  have HG := Aside0.mk (And.intro hG (And.intro hb0 hq0))
  have hA0 := heap_new w (Obj.cells #[.slice (some ⟨g0, 0, none⟩) 2 c0, v1, v2, v3] 129)
  have hbA := below_alloc (Below.refl _ w) (Obj.cells #[.slice (some ⟨g0, 0, none⟩) 2 c0, v1, v2, v3] 129)
  have y0 := pw_cell_below hbA h0
  have y1 := pw_cell_below hbA h1
  have HS := Aside0.mk (hs.below hbA)
  have hqA : q < (w.alloc (Obj.cells #[.slice (some ⟨g0, 0, none⟩) 2 c0, v1, v2, v3] 129)).heap.size := by rw [size_alloc]; omega
  have hszA : w.heap.size ≤ (w.alloc (Obj.cells #[.slice (some ⟨g0, 0, none⟩) 2 c0, v1, v2, v3] 129)).heap.size := hbA.size
  have HBA := Aside0.mk hbA
  clear hs h0 h1 hG hb0 hq0 hbA
  go_enter Tryz.func111, Tryz.ntmps111
  go_wp2
  obtain ⟨b, hb⟩ : ∃ b, w.heap.size = b := ⟨_, rfl⟩
  obtain ⟨w1, e1⟩ : ∃ w1, w.alloc (Obj.cells #[.slice (some ⟨g0, 0, none⟩) 2 c0, v1, v2, v3] 129) = w1 := ⟨_, rfl⟩
  rw [e1] at hA0 y0 y1 HS hqA hszA HBA ⊢
  rw [hb] at hA0 ⊢
  have x0 : w1.cell? ⟨b, 0, none⟩ = some (.slice (some ⟨g0, 0, none⟩) 2 c0) := by rw [blk_cell hA0]; rfl
  have HZ := Aside0.mk (And.intro hb (And.intro hszA hq))
  clear hA0 hb e1 hszA hq
  have y0d : w1.drew.cell? ⟨g0, 0, none⟩ = some (.int .i64 4) := y0
  have y1d : w1.drew.cell? ⟨g0, 1, none⟩ = some (.int .i64 4) := y1
  have x0d : w1.drew.cell? ⟨b, 0, none⟩ = some (.slice (some ⟨g0, 0, none⟩) 2 c0) := x0
  have hqd : q < w1.drew.heap.size := hqA
  have HP := Aside0.mk (fun hs => put_calls q S hA 4 w1.drew hqd hs)
  have HS1 := Aside0.mk (HP.out (HS.out.below (below_drew (Below.refl _ w1))))
  clear hqA hqd
  go_region
  clear x0 y0 y1 x0d y0d y1d
  go_wp2_with (first | (go_at_call 153; refine (ensure_ok _ _).mono ?_; rintro e w6 ⟨rfl, hw⟩; rw [hw]; clear hw w6) | (go_at_call 157; refine HS1.out.mono ?_; rintro e w2 ⟨rfl, hx2, ht2⟩; obtain ⟨vs, va, vc, vm, vb, P2, t1, t2, t3, t4, t5⟩ := hx2.at_; have hl := t3.lies; rw [show (S.paid 4).coins = [.int .i64 1] from hC] at hl; obtain ⟨gc, cc, rfl, hcc⟩ := LAt.one1 hl; have z34 : w2.cell? ⟨q, 34, none⟩ = some (.slice (some ⟨gc, 0, none⟩) 1 cc) := (by rw [blk_cell P2]; exact shop_34 _ _ _ _ _ _); have HX2 := Aside0.mk (And.intro hx2 ht2); have HGr := Aside0.mk (greedy_one gc cc w2 hcc); clear hx2 ht2 P2 t1 t2 t3 t4 t5 hl hcc) | (go_at_call 158; refine HGr.out.mono ?_; rintro e w3 ⟨g3, rfl, hx3, hb3⟩; have HX3 := Aside0.mk (And.intro hx3 hb3); clear hx3 hb3) | (go_at_call 154; refine (must_ok _).mono ?_; rintro e w6 ⟨rfl, hw⟩; rw [hw]; clear hw w6))
  have ht : Turn q w w3 := (Turn.of_below (p := q) HBA.out).trans ((Turn.of_below (p := q) (below_drew (Below.refl _ w1))).trans (HX2.out.2.trans (Turn.of_below HX3.out.2)))
  have HJ := Aside0.mk (joined_calls (some ⟨g3, 0, none⟩) 1 [0] (by decide) (by decide) w3 (glob_turn HG.out.1 HG.out.2.1 HG.out.2.2 ht) ⟨rfl, by decide, fun _ => ⟨⟨g3, 0, none⟩, rfl, fun j hj => by
    have hj1 : j < 1 := hj
    obtain rfl : j = 0 := by omega
    rw [Addr.add_lit, Nat.zero_add, HX3.out.1]
    rfl⟩⟩)
  rw [show lineOf (List.map itoaB [0]) = ⟨#[48]⟩ by decide +kernel] at HJ
  have HT := Aside0.mk ht
  clear ht
  go_wp2_with (go_at_call 159; refine HJ.out.mono ?_; rintro e w4 ⟨rfl, hb4⟩; have HB4 := Aside0.mk hb4; clear hb4)
  go_ret
  refine ⟨rfl, ?_, HT.out.trans (Turn.of_below HB4.out)⟩
  have hz := HZ.out
  exact ((HX2.out.1.below HX3.out.2).below HB4.out).imp (fun k hk => hk.imp id (fun h => by
    have h : w1.heap.size ≤ k := h
    omega))
set_option maxHeartbeats 2000000 in
set_option maxRecDepth 100000 in
theorem exec_pay (w : World) (hG : Glob w) (p : Nat) (hs : ShopAt w p shA) :
    Calls Tryz.prog 14 #[.pointer (some ⟨p, 0, none⟩), .string lPay] w fun e w' => e = .returned (.string ⟨#[48]⟩) ∧ ShopAt w' p shB ∧ Turn p w w' := by
  have hps : ∀ y ∈ [(⟨#[52]⟩ : ByteArray), ⟨#[52]⟩], wordB y := fun y hy => by
    rcases List.mem_cons.1 hy with rfl | hy
    · exact word_four
    · rw [List.mem_singleton] at hy; subst hy; exact word_four
  refine exec_ch verb_pay [⟨#[52]⟩, ⟨#[52]⟩] hps (by decide +kernel) (by decide) (by decide) (by decide) (fun a k W => ArgsN W a a (List.take k [4, 4]) [] lPay) w hG p shA (shA.paid 4) (by decide) shB_first hs _ (enters_of Tryz.func111 (by kernel_rfl) rfl) ?_ ?_ ?_ ?_ ?_
  · intro a W ha _
    exact ⟨Nat.le_refl _, _, _, ha, own_nil _ _ _ _, own_nil _ _ _ _⟩
  · intro a k W hk hal hb hA
    have hk2 : k < 2 := hk
    obtain rfl | rfl : k = 0 ∨ k = 1 := by omega
    · show Calls _ _ #[_, _, .string ⟨#[52]⟩] W _
      rw [itoa4]
      refine (take_i a a [] [] lPay (by decide) 4 (by decide) (by decide) W (hG.below hb) (by omega) hA).mono ?_
      rintro e W' ⟨rfl, h1, h2⟩
      exact ⟨rfl, h1, h2⟩
    · show Calls _ _ #[_, _, .string ⟨#[52]⟩] W _
      rw [itoa4]
      refine (take_i a a [4] [] lPay (by decide) 4 (by decide) (by decide) W (hG.below hb) (by omega) hA).mono ?_
      rintro e W' ⟨rfl, h1, h2⟩
      exact ⟨rfl, h1, h2⟩
  · intro a W h
    obtain ⟨_, v0, v1, h, _⟩ := h
    exact ⟨v0, v1, _, h⟩
  · intro a k W W' h hb
    exact h.below hb
  · intro W q a v0 v1 v2 hb hq1 hq2 hsq hA ha
    have hA2 : ArgsN W a a [4, 4] [] lPay := hA
    obtain ⟨_, u0, u1, h, ho0, ho1⟩ := hA2
    rw [h] at ha
    simp only [argsA, Option.some.injEq, Obj.cells.injEq, Array.mk.injEq, List.cons.injEq, and_true, true_and] at ha
    obtain ⟨rfl, rfl, rfl, _⟩ := ha
    obtain ⟨g0, c0, rfl, _, _⟩ := ho0.form (by decide)
    have x0 := ho0.cells rfl 0 (.int .i64 4) rfl
    have x1 := ho0.cells rfl 1 (.int .i64 4) rfl
    rw [Addr.add_lit, Nat.zero_add] at x0 x1
    exact pay_calls q g0 c0 _ _ _ shA rfl rfl w W hG hb hq1 hq2 x0 x1 hsq
set_option maxHeartbeats 4000000 in
set_option maxRecDepth 100000 in
theorem liar_F (q : Nat) (S : Sh) (hA : S.sents = [.string ⟨#[33, 97]⟩]) (a0 a1 a2 a3 : Value) (w : World) (hs : ShopT w q S) :
    Calls Tryz.prog 120 #[.pointer (some ⟨q, 0, none⟩), .agg #[a0, a1, a2, a3]] w fun e w' => e = .returned (.string ⟨#[97]⟩) ∧ Below w.heap.size w w' := by
  have hb0 := below_alloc (Below.refl _ w) (Obj.cells #[a0, a1, a2, a3] 129)
  have HSy := Aside0.mk (system10 q S hA _ (hs.loose.below hb0))
  have HB0 := Aside0.mk hb0
  clear hs hb0
  go_enter Tryz.func120, Tryz.ntmps120
  go_wp2_with (first | (go_at_call 161; refine HSy.out.mono ?_; rintro e w1 ⟨g, c, rfl, hr, hb1⟩; have HB1 := Aside0.mk (HB0.out.trans (hb1.mono HB0.out.size)); have HC := Aside0.mk (core_calls g c w1 hr); clear hr hb1) | (go_at_call 166; refine HC.out.mono ?_; rintro e w2 ⟨g', c', rfl, x0, hb2⟩; have HB2 := Aside0.mk (HB1.out.trans (hb2.mono HB1.out.size)); clear hb2))
  refine wp_loop_rounds 2 ?_
  rw [rounds_succ]
  go_wp2
  rw [rounds_succ]
  go_wp2
  go_ret
  exact ⟨rfl, HB2.out⟩
set_option maxHeartbeats 2000000 in
set_option maxRecDepth 100000 in
theorem exec_liar (w : World) (hG : Glob w) (p : Nat) (hs : ShopAt w p shC) :
    Calls Tryz.prog 14 #[.pointer (some ⟨p, 0, none⟩), .string ⟨#[108, 105, 97, 114]⟩] w fun e w' => e = .returned (.string ⟨#[97]⟩) ∧ Below w.heap.size w w' := by
  have hl : lineOf [(⟨#[108, 105, 97, 114]⟩ : ByteArray)] = ⟨#[108, 105, 97, 114]⟩ := lineOf_one _
  have := exec_look verb_liar [] (fun y hy => absurd hy (by simp)) (by decide +kernel) (by decide) (by decide) (by decide) (fun a k W => W.heap[a]? = some (argsA a (.slice none 0 0) (.slice none 0 0) (.slice none 0 0) (lineOf [⟨#[108, 105, 97, 114]⟩]))) w hG p shC hs ⟨#[97]⟩ (enters_of Tryz.func120 (by kernel_rfl) rfl)
    (fun a W ha _ => ha) (fun a k W hk => absurd hk (Nat.not_lt_zero k)) (fun a W h => ⟨_, _, _, h⟩) (fun a k W W' h hb => blk_below h hb)
    (fun W q a v0 v1 v2 hb hq _ _ => liar_F q shC rfl v0 v1 v2 _ W hq)
  rw [hl] at this
  exact this
end Go.Proofs.YtldohjlcckbfaaaGreatDoor.Hand
