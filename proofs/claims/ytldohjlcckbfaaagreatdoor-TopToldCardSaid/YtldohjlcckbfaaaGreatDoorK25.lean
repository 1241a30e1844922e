/- A part of the proof that pomadetop.TopTold returns true for every input: HandTj, HandTk, HandTl. No condition beyond those that each theorem states. -/
import Derived.WalkSmall
import Derived.Test.YtldohjlcckbfaaaGreatDoorK02
import Derived.Test.YtldohjlcckbfaaaGreatDoorK24
namespace Go.Proofs.YtldohjlcckbfaaaGreatDoor.Hand
open Go.RowKit Go.Proofs.YtldohjlcckbfaaaGreatDoorW.PrintWords Go.Proofs.YtldohjlcckbfaaaGreatDoorW.PrintLast Go.Proofs.YtldohjlcckbfaaaGreatDoorW.PrintMore
set_option linter.unusedVariables false
set_option linter.unusedSimpArgs false
open Go.Proofs.YtldohjlcckbfaaaGreatDoor.Pre
set_option maxHeartbeats 4000000 in
set_option maxRecDepth 100000 in
theorem look_on (vb p F : Nat) (ks : ByteArray) (least most more step : Int) (a0 a1 a2 a3 : Value) (r : ByteArray) (S : Sh) (w : World) (hv : w.heap[vb]? = some (verbO ks least most more step false F)) (hs : ShopAt w p S)
    (eg : ∀ args w, (callFunc F args).run Tryz.prog w = .ok (.enter F args) w)
    (hF : ∀ W q, Below w.heap.size w W → ShopT W q S → Calls Tryz.prog F #[.pointer (some ⟨q, 0, none⟩), .agg #[a0, a1, a2, a3]] W fun e W' => e = .returned (.string r) ∧ Below W.heap.size W W') :
    Calls Tryz.prog 286 #[.agg #[.pointer (some ⟨vb, 0, none⟩), a0, a1, a2, a3], .pointer (some ⟨p, 0, none⟩)] w fun e w' => e = .returned (.tuple #[.string r, .int .i64 0]) ∧ Below w.heap.size w w' := by
  have HA := heap_new w (Obj.cells #[.pointer (some ⟨vb, 0, none⟩), a0, a1, a2, a3] 134)
  have hb0 := below_alloc (Below.refl _ w) (Obj.cells #[.pointer (some ⟨vb, 0, none⟩), a0, a1, a2, a3] 134)
  have HF := Aside0.mk hF
  have HV := Aside0.mk hv
  have HS := Aside0.mk hs
  clear hF hv hs
  go_enter Tryz.func286, Tryz.ntmps286
  go_wp2
  obtain ⟨b, hb⟩ : ∃ b, w.heap.size = b := ⟨_, rfl⟩
  have HZ := Aside0.mk hb
  obtain ⟨w1, e1⟩ : ∃ w1, w.alloc (Obj.cells #[.pointer (some ⟨vb, 0, none⟩), a0, a1, a2, a3] 134) = w1 := ⟨_, rfl⟩
  rw [e1] at HA hb0 ⊢
  rw [hb] at HA ⊢
  have HB1 := Aside0.mk (below_drew hb0)
  clear hb hb0 e1
  have x0 : w1.drew.cell? ⟨b, 0, none⟩ = some (.pointer (some ⟨vb, 0, none⟩)) := by show w1.cell? _ = _; rw [blk_cell HA]; rfl
  have x1 : w1.drew.cell? ⟨b, 1, none⟩ = some a0 := by show w1.cell? _ = _; rw [blk_cell HA]; rfl
  have x2 : w1.drew.cell? ⟨b, 2, none⟩ = some a1 := by show w1.cell? _ = _; rw [blk_cell HA]; rfl
  have x3 : w1.drew.cell? ⟨b, 3, none⟩ = some a2 := by show w1.cell? _ = _; rw [blk_cell HA]; rfl
  have x4 : w1.drew.cell? ⟨b, 4, none⟩ = some a3 := by show w1.cell? _ = _; rw [blk_cell HA]; rfl
  have HCP := Aside0.mk (copy_calls p S w1.drew (HS.out.below HB1.out))
  clear HA
  go_region_held3 (fun w' => w'.cell? ⟨b, 0, none⟩ = some (.pointer (some ⟨vb, 0, none⟩)) ∧ w'.cell? ⟨b, 1, none⟩ = some a0 ∧ w'.cell? ⟨b, 2, none⟩ = some a1 ∧ w'.cell? ⟨b, 3, none⟩ = some a2 ∧ w'.cell? ⟨b, 4, none⟩ = some a3) (first | (exact ⟨x0, x1, x2, x3, x4⟩) | (exact ⟨y0, y1, y2, y3, y4⟩)) (first | ((with_reducible refine HCP.out.mono ?_); rintro e w2 ⟨q, rfl, hq, hsq, hb2⟩; have HB2 := Aside0.mk (HB1.out.trans (hb2.mono HB1.out.size)); have HD := Aside0.mk (done_ok vb q F ks least most more step a0 a1 a2 a3 r w2 (blk_below HV.out HB2.out) eg (fun W hW => HF.out W q (HB2.out.trans (hW.mono HB2.out.size)) (hsq.below hW))); have y0 := pw_cell_below hb2 x0; have y1 := pw_cell_below hb2 x1; have y2 := pw_cell_below hb2 x2; have y3 := pw_cell_below hb2 x3; have y4 := pw_cell_below hb2 x4; clear hb2 hsq hq) | ((with_reducible refine HD.out.mono ?_); rintro e w3 ⟨rfl, hb3⟩; have HB3 := Aside0.mk (HB2.out.trans (hb3.mono HB2.out.size)); replace y0 := pw_cell_below hb3 y0; replace y1 := pw_cell_below hb3 y1; replace y2 := pw_cell_below hb3 y2; replace y3 := pw_cell_below hb3 y3; replace y4 := pw_cell_below hb3 y4; clear hb3))
  go_wp2
  exact bodyPost_ret (v := .tuple #[.string r, .int .i64 0]) (by simp [results, Tryz.results286, go_sem]) rfl ⟨rfl, HB3.out⟩
set_option maxHeartbeats 4000000 in
set_option maxRecDepth 100000 in
theorem exec_look {i : Nat} {kw ks : ByteArray} {least most : Nat} {more : Int} {F : Nat} (hv : VerbIs i kw ks least most more false F) (ps : List ByteArray) (hps : ∀ x ∈ ps, wordB x)
    (hl : (lineOf (kw :: ps)).size ≤ 300) (hn1 : ks.size + least ≤ ps.length) (hn2 : ps.length ≤ ks.size + most) (hn3 : ps.length ≤ 100)
    (A : Nat → Nat → World → Prop) (w : World) (hG : Glob w) (p : Nat) (S : Sh) (hs : ShopAt w p S) (r : ByteArray)
    (eg : ∀ args w, (callFunc F args).run Tryz.prog w = .ok (.enter F args) w)
    (hA0 : ∀ a W, W.heap[a]? = some (argsA a (.slice none 0 0) (.slice none 0 0) (.slice none 0 0) (lineOf (kw :: ps))) → Below w.heap.size w W → A a 0 W)
    (hT : ∀ a k W (hk : k < ps.length), a < W.heap.size → Below w.heap.size w W → A a k W → Calls Tryz.prog 69 #[.pointer (some ⟨a, 0, none⟩), .int .u8 (kindF ks more k), .string ps[k]] W fun e W' => e = .returned (.bool true) ∧ A a (k + 1) W' ∧ Below a W W')
    (hE : ∀ a W, A a ps.length W → ∃ v0 v1 v2, W.heap[a]? = some (argsA a v0 v1 v2 (lineOf (kw :: ps))))
    (hAB : ∀ a k W W', A a k W → Below W.heap.size W W' → A a k W')
    (hF : ∀ W q a v0 v1 v2, Below w.heap.size w W → ShopT W q S → A a ps.length W → W.heap[a]? = some (argsA a v0 v1 v2 (lineOf (kw :: ps))) →
      Calls Tryz.prog F #[.pointer (some ⟨q, 0, none⟩), .agg #[v0, v1, v2, .string (lineOf (kw :: ps))]] W fun e W' => e = .returned (.string r) ∧ Below W.heap.size W W') :
    Calls Tryz.prog 14 #[.pointer (some ⟨p, 0, none⟩), .string (lineOf (kw :: ps))] w fun e w' => e = .returned (.string r) ∧ Below w.heap.size w w' := by
  have HP := Aside0.mk (parse_calls hv ps hps hl hn1 hn2 hn3 A w hG hA0 hT hE)
  have HOK := Aside0.mk (ok_calls p S w hs)
  have HS := Aside0.mk hs
  have HF := Aside0.mk hF
  have HAB := Aside0.mk hAB
  obtain ⟨line, hline⟩ : ∃ s, lineOf (kw :: ps) = s := ⟨_, rfl⟩
  rw [hline] at HP HF ⊢
  have hm : ∀ w v, (method 429 134 v "pomade/shop.on").run Tryz.prog w = .ok (286, v) w := fun _ _ => by kernel_rfl
  have hc : cmdT false = 134 := rfl
  clear hF hAB hs hG hA0 hT hE hl hps hline
  go_enter Tryz.func14, Tryz.ntmps14
  go_wp2_with (first | (go_at_call 32; refine HOK.out.mono ?_; rintro e w0 ⟨rfl, rfl⟩) | (go_at_call 33; refine HP.out.mono ?_; rintro e w1 ⟨vb, a, v0, v1, v2, rfl, ha, hA, hvb, hb1⟩; rw [hc]; have HB1 := Aside0.mk hb1; have HL := Aside0.mk (look_on vb p F ks least most more 0 v0 v1 v2 (.string line) r S w1 hvb (HS.out.below hb1) eg (fun W q hW hq => HF.out W q a v0 v1 v2 (hb1.trans (hW.mono hb1.size)) hq (HAB.out _ _ _ _ hA hW) (blk_below ha hW))); clear ha hA hvb hb1) | (go_at_call 286; refine HL.out.mono ?_; rintro e w2 ⟨rfl, hb2⟩; have HB2 := Aside0.mk (HB1.out.trans (hb2.mono HB1.out.size)); clear hb2))
  go_ret
  exact ⟨rfl, HB2.out⟩
end Go.Proofs.YtldohjlcckbfaaaGreatDoor.Hand
namespace Go.Proofs.YtldohjlcckbfaaaGreatDoor.Hand
open Go.RowKit Go.Proofs.YtldohjlcckbfaaaGreatDoorW.PrintWords Go.Proofs.YtldohjlcckbfaaaGreatDoorW.PrintLast Go.Proofs.YtldohjlcckbfaaaGreatDoorW.PrintMore
set_option linter.unusedVariables false
set_option linter.unusedSimpArgs false
open Go.Proofs.YtldohjlcckbfaaaGreatDoor.Pre
def refusalC (k : Int) : List PanicEntry := [{ v := .iface 240 (.agg #[.int .i64 k]), recovered := false }]
set_option maxHeartbeats 2000000 in
set_option maxRecDepth 100000 in
theorem must_ok (w : World) : Calls Tryz.prog 154 #[.int .i64 0] w fun e w' => e = .returned (.tuple #[]) ∧ w' = w := by
  go_enter Tryz.func154, Tryz.ntmps154
  go_wp2
  exact ⟨rfl, .tuple #[], (by simp [results, Tryz.results154, go_sem]), rfl, rfl⟩
set_option maxHeartbeats 2000000 in
set_option maxRecDepth 100000 in
theorem must_no (k : Int) (hk : k ≠ 0) (w : World) : Calls Tryz.prog 154 #[.int .i64 k] w fun e w' => e = .panicked (refusalC k) ∧ w' = w := by
  have hne : (k != 0) = true := bne_iff_ne.2 hk
  go_enter Tryz.func154, Tryz.ntmps154
  go_wp2
  exact ⟨rfl, rfl, rfl⟩
set_option maxHeartbeats 2000000 in
set_option maxRecDepth 100000 in
theorem ensure_ok (k : Int) (w : World) : Calls Tryz.prog 153 #[.bool true, .int .i64 k] w fun e w' => e = .returned (.tuple #[]) ∧ w' = w := by
  go_enter Tryz.func153, Tryz.ntmps153
  go_wp2
  exact ⟨rfl, .tuple #[], (by simp [results, Tryz.results153, go_sem]), rfl, rfl⟩
set_option maxHeartbeats 2000000 in
set_option maxRecDepth 100000 in
theorem ensure_no (k : Int) (hk : k ≠ 0) (w : World) : Calls Tryz.prog 153 #[.bool false, .int .i64 k] w fun e w' => e = .panicked (refusalC k) ∧ w' = w := by
  have HM := Aside0.mk (must_no k hk w)
  go_enter Tryz.func153, Tryz.ntmps153
  go_wp2_with (go_at_call 154; refine HM.out.mono ?_; rintro e w1 ⟨rfl, rfl⟩)
  exact ⟨rfl, rfl, rfl⟩
set_option maxHeartbeats 4000000 in
set_option maxRecDepth 100000 in
theorem tell_ok (q g n c : Nat) (x : ByteArray) (v0 v1 v3 : Value) (hn : 0 < n) (w : World) (hx : w.cell? ⟨g, 0, none⟩ = some (.string x)) (hG : Glob w) (h1 : (makeF x).2 = 0) (h2 : (makeF x).1.size ≤ 200) :
    Calls Tryz.prog 122 #[.pointer (some ⟨q, 0, none⟩), .agg #[v0, v1, .slice (some ⟨g, 0, none⟩) n c, v3]] w fun e w' => e = .returned (.string (makeF x).1) ∧ Below w.heap.size w w' := by
  have HM := Aside0.mk (fun W hb => make_calls x W (hG.below hb).ops)
  rw [h1] at HM
  obtain ⟨s, hs⟩ : ∃ s, (makeF x).1 = s := ⟨_, rfl⟩
  rw [hs] at HM h2 ⊢
  have hA := heap_new w (Obj.cells #[v0, v1, .slice (some ⟨g, 0, none⟩) n c, v3] 129)
  have HB1 := Aside0.mk (below_alloc (Below.refl _ w) (Obj.cells #[v0, v1, .slice (some ⟨g, 0, none⟩) n c, v3] 129))
  have c2 : (w.alloc (Obj.cells #[v0, v1, .slice (some ⟨g, 0, none⟩) n c, v3] 129)).cell? ⟨w.heap.size, 2, none⟩ = some (.slice (some ⟨g, 0, none⟩) n c) := by rw [blk_cell hA]; rfl
  have cx := pw_cell_below (below_alloc (Below.refl _ w) (Obj.cells #[v0, v1, .slice (some ⟨g, 0, none⟩) n c, v3] 129)) hx
  have l0 : (0 : Int) < (n : Int) := by omega
  have d1 : decide ((s.size : Int) ≤ 200) = true := decide_eq_true (by omega)
  clear hG hA hx h1 hs
  go_enter Tryz.func122, Tryz.ntmps122
  go_wp2_with (first | (go_at_call 12; refine (HM.out _ HB1.out).mono ?_; rintro e w1 ⟨rfl, hb⟩; have HB2 := Aside0.mk (HB1.out.trans (hb.mono HB1.out.size)); clear hb) | (go_at_call 154; refine (must_ok _).mono ?_; rintro e w2 ⟨rfl, rfl⟩) | (go_at_call 153; refine (ensure_ok _ _).mono ?_; rintro e w3 ⟨rfl, rfl⟩))
  go_ret
  exact ⟨rfl, HB2.out⟩
set_option maxHeartbeats 4000000 in
set_option maxRecDepth 100000 in
theorem tell_no (q g n c : Nat) (x : ByteArray) (v0 v1 v3 : Value) (hn : 0 < n) (w : World) (hx : w.cell? ⟨g, 0, none⟩ = some (.string x)) (hG : Glob w) (h1 : (makeF x).2 ≠ 0) :
    Calls Tryz.prog 122 #[.pointer (some ⟨q, 0, none⟩), .agg #[v0, v1, .slice (some ⟨g, 0, none⟩) n c, v3]] w fun e w' => e = .panicked (refusalC (makeF x).2) ∧ Below w.heap.size w w' := by
  have HM := Aside0.mk (fun W hb => make_calls x W (hG.below hb).ops)
  obtain ⟨s, hs⟩ : ∃ s, (makeF x).1 = s := ⟨_, rfl⟩
  obtain ⟨k, hk⟩ : ∃ k, (makeF x).2 = k := ⟨_, rfl⟩
  rw [hs, hk] at HM
  rw [hk] at h1 ⊢
  have hA := heap_new w (Obj.cells #[v0, v1, .slice (some ⟨g, 0, none⟩) n c, v3] 129)
  have HB1 := Aside0.mk (below_alloc (Below.refl _ w) (Obj.cells #[v0, v1, .slice (some ⟨g, 0, none⟩) n c, v3] 129))
  have c2 : (w.alloc (Obj.cells #[v0, v1, .slice (some ⟨g, 0, none⟩) n c, v3] 129)).cell? ⟨w.heap.size, 2, none⟩ = some (.slice (some ⟨g, 0, none⟩) n c) := by rw [blk_cell hA]; rfl
  have cx := pw_cell_below (below_alloc (Below.refl _ w) (Obj.cells #[v0, v1, .slice (some ⟨g, 0, none⟩) n c, v3] 129)) hx
  have l0 : (0 : Int) < (n : Int) := by omega
  have HK := Aside0.mk (fun W => must_no k h1 W)
  clear hG hA hx h1 hs hk
  go_enter Tryz.func122, Tryz.ntmps122
  go_wp2_with (first | (go_at_call 12; refine (HM.out _ HB1.out).mono ?_; rintro e w1 ⟨rfl, hb⟩; have HB2 := Aside0.mk (HB1.out.trans (hb.mono HB1.out.size)); clear hb) | (go_at_call 154; refine (HK.out _).mono ?_; rintro e w2 ⟨rfl, rfl⟩) | (go_at_call 153; refine (ensure_ok _ _).mono ?_; rintro e w3 ⟨rfl, rfl⟩))
  exact ⟨rfl, rfl, HB2.out⟩
set_option maxHeartbeats 4000000 in
set_option maxRecDepth 100000 in
theorem tell_long (q g n c : Nat) (x : ByteArray) (v0 v1 v3 : Value) (hn : 0 < n) (w : World) (hx : w.cell? ⟨g, 0, none⟩ = some (.string x)) (hG : Glob w) (h1 : (makeF x).2 = 0) (h2 : 200 < (makeF x).1.size) :
    Calls Tryz.prog 122 #[.pointer (some ⟨q, 0, none⟩), .agg #[v0, v1, .slice (some ⟨g, 0, none⟩) n c, v3]] w fun e w' => e = .panicked (refusalC 8) ∧ Below w.heap.size w w' := by
  have HM := Aside0.mk (fun W hb => make_calls x W (hG.below hb).ops)
  rw [h1] at HM
  obtain ⟨s, hs⟩ : ∃ s, (makeF x).1 = s := ⟨_, rfl⟩
  rw [hs] at HM h2
  have hA := heap_new w (Obj.cells #[v0, v1, .slice (some ⟨g, 0, none⟩) n c, v3] 129)
  have HB1 := Aside0.mk (below_alloc (Below.refl _ w) (Obj.cells #[v0, v1, .slice (some ⟨g, 0, none⟩) n c, v3] 129))
  have c2 : (w.alloc (Obj.cells #[v0, v1, .slice (some ⟨g, 0, none⟩) n c, v3] 129)).cell? ⟨w.heap.size, 2, none⟩ = some (.slice (some ⟨g, 0, none⟩) n c) := by rw [blk_cell hA]; rfl
  have cx := pw_cell_below (below_alloc (Below.refl _ w) (Obj.cells #[v0, v1, .slice (some ⟨g, 0, none⟩) n c, v3] 129)) hx
  have l0 : (0 : Int) < (n : Int) := by omega
  have d1 : decide ((s.size : Int) ≤ 200) = false := decide_eq_false (by omega)
  clear hG hA hx h1 hs
  go_enter Tryz.func122, Tryz.ntmps122
  go_wp2_with (first | (go_at_call 12; refine (HM.out _ HB1.out).mono ?_; rintro e w1 ⟨rfl, hb⟩; have HB2 := Aside0.mk (HB1.out.trans (hb.mono HB1.out.size)); clear hb) | (go_at_call 154; refine (must_ok _).mono ?_; rintro e w2 ⟨rfl, rfl⟩) | (go_at_call 153; refine (ensure_no 8 (by decide) _).mono ?_; rintro e w3 ⟨rfl, rfl⟩))
  exact ⟨rfl, rfl, HB2.out⟩
end Go.Proofs.YtldohjlcckbfaaaGreatDoor.Hand
namespace Go.Proofs.YtldohjlcckbfaaaGreatDoor.Hand
open Go.RowKit Go.Proofs.YtldohjlcckbfaaaGreatDoorW.PrintWords Go.Proofs.YtldohjlcckbfaaaGreatDoorW.PrintLast Go.Proofs.YtldohjlcckbfaaaGreatDoorW.PrintMore
set_option linter.unusedVariables false
set_option linter.unusedSimpArgs false
open Go.Proofs.YtldohjlcckbfaaaGreatDoor.Pre
set_option maxHeartbeats 4000000 in
set_option maxRecDepth 100000 in
theorem done_no (vb p F : Nat) (k : Int) (k0 : 0 ≤ k) (k1 : k ≤ 100) (ks : ByteArray) (least most more step : Int) (a0 a1 a2 a3 : Value) (ch : Bool) (w : World) (hG : Glob w) (hv : w.heap[vb]? = some (verbO ks least most more step ch F))
    (eg : ∀ args w, (callFunc F args).run Tryz.prog w = .ok (.enter F args) w)
    (hF : ∀ W, Below w.heap.size w W → Calls Tryz.prog F #[.pointer (some ⟨p, 0, none⟩), .agg #[a0, a1, a2, a3]] W fun e W' => e = .panicked (refusalC k) ∧ Below W.heap.size W W') :
    Calls Tryz.prog 284 #[.pointer (some ⟨vb, 0, none⟩), .pointer (some ⟨p, 0, none⟩), .agg #[a0, a1, a2, a3]] w fun e w' => e = .returned (.tuple #[.string (bangB k), .int .i64 k]) ∧ Below w.heap.size w w' := by
  have hmf : ∀ (fn : Fn) (first cap : Array Value) (w : World), (Instr.makeFunc fn first cap).run Tryz.prog w = .ok (.func fn first cap) w := fun _ _ _ _ => rfl
  have HV := Aside0.mk hv
  have HF := Aside0.mk hF
  have HGL := Aside0.mk hG
  clear hv hF hG
  go_enter_defers Tryz.func284, Tryz.ntmps284
  go_wp2
  have hvl := blk_lt HV.out
  have hA := heap_new w (Obj.cells #[a0, a1, a2, a3] 129)
  have B0 := below_alloc (Below.refl _ w) (Obj.cells #[a0, a1, a2, a3] 129)
  have z0 := size_alloc w (Obj.cells #[a0, a1, a2, a3] 129)
  obtain ⟨w1, e1⟩ : ∃ w1, w.alloc (Obj.cells #[a0, a1, a2, a3] 129) = w1 := ⟨_, rfl⟩
  rw [e1] at hA B0 z0 ⊢
  have hR := heap_new w1 (Obj.cells #[Value.string ⟨#[]⟩] 9)
  have hA := heap_old w1 (Obj.cells #[Value.string ⟨#[]⟩] 9) hA
  have B1 := below_alloc B0 (Obj.cells #[Value.string ⟨#[]⟩] 9)
  have z1 := size_alloc w1 (Obj.cells #[Value.string ⟨#[]⟩] 9)
  obtain ⟨w2, e2⟩ : ∃ w2, w1.alloc (Obj.cells #[Value.string ⟨#[]⟩] 9) = w2 := ⟨_, rfl⟩
  rw [e2] at hA hR B1 z1 ⊢
  have hE := heap_new w2 (Obj.cells #[Value.int .i64 0] 25)
  have hA := heap_old w2 (Obj.cells #[Value.int .i64 0] 25) hA
  have hR := heap_old w2 (Obj.cells #[Value.int .i64 0] 25) hR
  have B2 := below_alloc B1 (Obj.cells #[Value.int .i64 0] 25)
  have z2 := size_alloc w2 (Obj.cells #[Value.int .i64 0] 25)
  obtain ⟨w3, e3⟩ : ∃ w3, w2.alloc (Obj.cells #[Value.int .i64 0] 25) = w3 := ⟨_, rfl⟩
  rw [e3] at hA hR hE B2 z2 ⊢
  rw [z1, z0] at hE
  rw [z0] at hR
  obtain ⟨b, hb⟩ : ∃ b, w.heap.size = b := ⟨_, rfl⟩
  have HZ := Aside0.mk hb
  rw [hb] at hA hR hE hvl ⊢
  have HB3 := Aside0.mk B2
  have HR := Aside0.mk hR
  have HE := Aside0.mk hE
  have HV3 := Aside0.mk (blk_below HV.out B2)
  have HA := Aside0.mk hA
  have hsz3 : w3.heap.size = b + 3 := by omega
  have HC := Aside0.mk (HF.out w3.drew (below_drew HB3.out))
  have v6 : w3.cell? ⟨vb, 6, none⟩ = some (.func (.func F) #[] #[]) := by have := HV3.out; unfold verbO at this; rw [blk_cell this]; rfl
  have c0 : w3.cell? ⟨b, 0, none⟩ = some a0 := by rw [blk_cell HA.out]; rfl
  have c1 : w3.cell? ⟨b, 1, none⟩ = some a1 := by rw [blk_cell HA.out]; rfl
  have c2 : w3.cell? ⟨b, 2, none⟩ = some a2 := by rw [blk_cell HA.out]; rfl
  have c3 : w3.cell? ⟨b, 3, none⟩ = some a3 := by rw [blk_cell HA.out]; rfl
  have HSZ := Aside0.mk hsz3
  clear e1 e2 e3 z0 z1 z2 B0 B1 B2 hA hR hE hb hsz3
  refine wp_region_any (by kernel_rfl) ?_
  refine wpAny_take (i := 0) (v := ?_) rfl (by kernel_rfl) (by kernel_rfl) (by kernel_rfl) (fun c a w h => Leaves_congr (fun w => by simp [results, Tryz.results284, Act.put]) _ _ _ h) (Or.inl ⟨by rfl, ?_⟩) ?_
  case refine_2 => intro w; go_simp; try with_reducible rfl
  try simp only [Act.put, List.setIfInBounds_toArray, List.set_cons_zero, List.set_cons_succ]
  refine wpAny_take (i := 1) (v := ?_) rfl (by kernel_rfl) (by kernel_rfl) (by kernel_rfl) (fun c a w h => Leaves_congr (fun w => by simp [results, Tryz.results284, Act.put]) _ _ _ h) (Or.inl ⟨by rfl, ?_⟩) ?_
  case refine_2 => intro w; go_simp; try with_reducible rfl
  try simp only [Act.put, List.setIfInBounds_toArray, List.set_cons_zero, List.set_cons_succ]
  refine wpAny_take (i := 2) (v := ?_) rfl (by kernel_rfl) (by kernel_rfl) (by kernel_rfl) (fun c a w h => Leaves_congr (fun w => by simp [results, Tryz.results284, Act.put]) _ _ _ h) (Or.inl ⟨by rfl, ?_⟩) ?_
  case refine_2 => intro w; go_simp; try with_reducible rfl
  try simp only [Act.put, List.setIfInBounds_toArray, List.set_cons_zero, List.set_cons_succ]
  refine wpAny_take (i := 4) (v := ?_) rfl (by kernel_rfl) (by kernel_rfl) (by kernel_rfl) (fun c a w h => Leaves_congr (fun w => by simp [results, Tryz.results284, Act.put]) _ _ _ h) (Or.inl ⟨by rfl, ?_⟩) ?_
  case refine_2 => intro w; go_simp; try with_reducible rfl
  try simp only [Act.put, List.setIfInBounds_toArray, List.set_cons_zero, List.set_cons_succ]
  have e6 : w3.drew.cell? ⟨vb, 6, none⟩ = some (.func (.func F) #[] #[]) := v6
  have e0 : w3.drew.cell? ⟨b, 0, none⟩ = some a0 := c0
  have e1 : w3.drew.cell? ⟨b, 1, none⟩ = some a1 := c1
  have e2 : w3.drew.cell? ⟨b, 2, none⟩ = some a2 := c2
  have e3 : w3.drew.cell? ⟨b, 3, none⟩ = some a3 := c3
  have HX : ∀ Q : Prop, Q → Q := fun _ h => h
  refine wpAny_ready (rs := [3, 5]) (by kernel_rfl) (by simp) ?_
  refine AllReady.cons rfl (fun K hK => ?_) (AllReady.cons rfl (fun K hK => ?_) AllReady.nil)
  · go_simp
    refine hK _ _ ?_; clear hK K
    refine wpAny_ready (rs := [5]) (by kernel_rfl) (by simp) ?_
    refine AllReady.cons rfl (fun K hK => ?_) AllReady.nil
    go_simp
    refine hK _ _ ?_; clear hK K
    refine wpAny_ready (rs := [6]) (by kernel_rfl) (by simp) ?_
    refine AllReady.cons rfl (fun K hK => ?_) AllReady.nil
    go_simp
    refine HC.out.mono ?_
    rintro e w4 ⟨rfl, hb4⟩
    have HB4 := (below_drew HB3.out).trans (hb4.mono (by have := HB3.out.size; exact this))
    have HR4 := blk_below (blk_drew HR.out) hb4
    have HE4 := blk_below (blk_drew HE.out) hb4
    refine leaves_cons (f := 285) (args := #[.pointer (some ⟨b + 1, 0, none⟩), .pointer (some ⟨b + 1 + 1, 0, none⟩)]) (by simp) (by simp [go_sem]) ?_
    refine (catch_panicking (b + 1) (b + 1 + 1) k k0 k1 [] w4 (HGL.out.below HB4) _ _ HR4 HE4 (by omega)).mono ?_
    rintro e u' w5 ⟨rfl, rfl, X1, X2, hbk⟩
    have t1 := cellAt X1
    have t2 := cellAt X2
    have hz := HZ.out
    have HB6 := HB4.trans (hbk _ (by omega) (by omega) (by have := HB4.size; omega))
    simp [Leaves, settle, results, Tryz.results284, go_sem, t1, t2, HB6]
  · go_simp
    refine hK _ _ ?_; clear hK K
    refine wpAny_ready (rs := [3]) (by kernel_rfl) (by simp) ?_
    refine AllReady.cons rfl (fun K hK => ?_) AllReady.nil
    go_simp
    refine hK _ _ ?_; clear hK K
    refine wpAny_ready (rs := [6]) (by kernel_rfl) (by simp) ?_
    refine AllReady.cons rfl (fun K hK => ?_) AllReady.nil
    go_simp
    refine HC.out.mono ?_
    rintro e w4 ⟨rfl, hb4⟩
    have HB4 := (below_drew HB3.out).trans (hb4.mono (by have := HB3.out.size; exact this))
    have HR4 := blk_below (blk_drew HR.out) hb4
    have HE4 := blk_below (blk_drew HE.out) hb4
    refine leaves_cons (f := 285) (args := #[.pointer (some ⟨b + 1, 0, none⟩), .pointer (some ⟨b + 1 + 1, 0, none⟩)]) (by simp) (by simp [go_sem]) ?_
    refine (catch_panicking (b + 1) (b + 1 + 1) k k0 k1 [] w4 (HGL.out.below HB4) _ _ HR4 HE4 (by omega)).mono ?_
    rintro e u' w5 ⟨rfl, rfl, X1, X2, hbk⟩
    have t1 := cellAt X1
    have t2 := cellAt X2
    have hz := HZ.out
    have HB6 := HB4.trans (hbk _ (by omega) (by omega) (by have := HB4.size; omega))
    simp [Leaves, settle, results, Tryz.results284, go_sem, t1, t2, HB6]
set_option maxHeartbeats 4000000 in
set_option maxRecDepth 100000 in
theorem look_no (vb p F : Nat) (k : Int) (k0 : 0 ≤ k) (k1 : k ≤ 100) (ks : ByteArray) (least most more step : Int) (a0 a1 a2 a3 : Value) (S : Sh) (w : World) (hG : Glob w) (hv : w.heap[vb]? = some (verbO ks least most more step false F)) (hs : ShopAt w p S)
    (eg : ∀ args w, (callFunc F args).run Tryz.prog w = .ok (.enter F args) w)
    (hF : ∀ W q, Below w.heap.size w W → ShopT W q S → Calls Tryz.prog F #[.pointer (some ⟨q, 0, none⟩), .agg #[a0, a1, a2, a3]] W fun e W' => e = .panicked (refusalC k) ∧ Below W.heap.size W W') :
    Calls Tryz.prog 286 #[.agg #[.pointer (some ⟨vb, 0, none⟩), a0, a1, a2, a3], .pointer (some ⟨p, 0, none⟩)] w fun e w' => e = .returned (.tuple #[.string (bangB k), .int .i64 k]) ∧ Below w.heap.size w w' := by
  have HA := heap_new w (Obj.cells #[.pointer (some ⟨vb, 0, none⟩), a0, a1, a2, a3] 134)
  have hb0 := below_alloc (Below.refl _ w) (Obj.cells #[.pointer (some ⟨vb, 0, none⟩), a0, a1, a2, a3] 134)
  have HF := Aside0.mk hF
  have HV := Aside0.mk hv
  have HS := Aside0.mk hs
  have HGL := Aside0.mk hG
  clear hF hv hs hG
  go_enter Tryz.func286, Tryz.ntmps286
  go_wp2
  obtain ⟨b, hb⟩ : ∃ b, w.heap.size = b := ⟨_, rfl⟩
  have HZ := Aside0.mk hb
  obtain ⟨w1, e1⟩ : ∃ w1, w.alloc (Obj.cells #[.pointer (some ⟨vb, 0, none⟩), a0, a1, a2, a3] 134) = w1 := ⟨_, rfl⟩
  rw [e1] at HA hb0 ⊢
  rw [hb] at HA ⊢
  have HB1 := Aside0.mk (below_drew hb0)
  clear hb hb0 e1
  have x0 : w1.drew.cell? ⟨b, 0, none⟩ = some (.pointer (some ⟨vb, 0, none⟩)) := by show w1.cell? _ = _; rw [blk_cell HA]; rfl
  have x1 : w1.drew.cell? ⟨b, 1, none⟩ = some a0 := by show w1.cell? _ = _; rw [blk_cell HA]; rfl
  have x2 : w1.drew.cell? ⟨b, 2, none⟩ = some a1 := by show w1.cell? _ = _; rw [blk_cell HA]; rfl
  have x3 : w1.drew.cell? ⟨b, 3, none⟩ = some a2 := by show w1.cell? _ = _; rw [blk_cell HA]; rfl
  have x4 : w1.drew.cell? ⟨b, 4, none⟩ = some a3 := by show w1.cell? _ = _; rw [blk_cell HA]; rfl
  have HCP := Aside0.mk (copy_calls p S w1.drew (HS.out.below HB1.out))
  clear HA
  go_region_held3 (fun w' => w'.cell? ⟨b, 0, none⟩ = some (.pointer (some ⟨vb, 0, none⟩)) ∧ w'.cell? ⟨b, 1, none⟩ = some a0 ∧ w'.cell? ⟨b, 2, none⟩ = some a1 ∧ w'.cell? ⟨b, 3, none⟩ = some a2 ∧ w'.cell? ⟨b, 4, none⟩ = some a3) (first | (exact ⟨x0, x1, x2, x3, x4⟩) | (exact ⟨y0, y1, y2, y3, y4⟩)) (first | ((with_reducible refine HCP.out.mono ?_); rintro e w2 ⟨q, rfl, hq, hsq, hb2⟩; have HB2 := Aside0.mk (HB1.out.trans (hb2.mono HB1.out.size)); have HD := Aside0.mk (done_no vb q F k k0 k1 ks least most more step a0 a1 a2 a3 false w2 (HGL.out.below HB2.out) (blk_below HV.out HB2.out) eg (fun W hW => HF.out W q (HB2.out.trans (hW.mono HB2.out.size)) (hsq.below hW))); have y0 := pw_cell_below hb2 x0; have y1 := pw_cell_below hb2 x1; have y2 := pw_cell_below hb2 x2; have y3 := pw_cell_below hb2 x3; have y4 := pw_cell_below hb2 x4; clear hb2 hsq hq) | ((with_reducible refine HD.out.mono ?_); rintro e w3 ⟨rfl, hb3⟩; have HB3 := Aside0.mk (HB2.out.trans (hb3.mono HB2.out.size)); replace y0 := pw_cell_below hb3 y0; replace y1 := pw_cell_below hb3 y1; replace y2 := pw_cell_below hb3 y2; replace y3 := pw_cell_below hb3 y3; replace y4 := pw_cell_below hb3 y4; clear hb3))
  go_wp2
  exact bodyPost_ret (v := .tuple #[.string (bangB k), .int .i64 k]) (by simp [results, Tryz.results286, go_sem]) rfl ⟨rfl, HB3.out⟩
set_option maxHeartbeats 4000000 in
set_option maxRecDepth 100000 in
theorem exec_no {i : Nat} {kw ks : ByteArray} {least most : Nat} {more : Int} {F : Nat} (hv : VerbIs i kw ks least most more false F) (ps : List ByteArray) (hps : ∀ x ∈ ps, wordB x)
    (hl : (lineOf (kw :: ps)).size ≤ 300) (hn1 : ks.size + least ≤ ps.length) (hn2 : ps.length ≤ ks.size + most) (hn3 : ps.length ≤ 100)
    (A : Nat → Nat → World → Prop) (w : World) (hG : Glob w) (p : Nat) (S : Sh) (hs : ShopAt w p S) (rc : Int) (rc0 : 0 ≤ rc) (rc1 : rc ≤ 100)
    (eg : ∀ args w, (callFunc F args).run Tryz.prog w = .ok (.enter F args) w)
    (hA0 : ∀ a W, W.heap[a]? = some (argsA a (.slice none 0 0) (.slice none 0 0) (.slice none 0 0) (lineOf (kw :: ps))) → Below w.heap.size w W → A a 0 W)
    (hT : ∀ a k W (hk : k < ps.length), a < W.heap.size → Below w.heap.size w W → A a k W → Calls Tryz.prog 69 #[.pointer (some ⟨a, 0, none⟩), .int .u8 (kindF ks more k), .string ps[k]] W fun e W' => e = .returned (.bool true) ∧ A a (k + 1) W' ∧ Below a W W')
    (hE : ∀ a W, A a ps.length W → ∃ v0 v1 v2, W.heap[a]? = some (argsA a v0 v1 v2 (lineOf (kw :: ps))))
    (hAB : ∀ a k W W', A a k W → Below W.heap.size W W' → A a k W')
    (hF : ∀ W q a v0 v1 v2, Below w.heap.size w W → ShopT W q S → A a ps.length W → W.heap[a]? = some (argsA a v0 v1 v2 (lineOf (kw :: ps))) →
      Calls Tryz.prog F #[.pointer (some ⟨q, 0, none⟩), .agg #[v0, v1, v2, .string (lineOf (kw :: ps))]] W fun e W' => e = .panicked (refusalC rc) ∧ Below W.heap.size W W') :
    Calls Tryz.prog 14 #[.pointer (some ⟨p, 0, none⟩), .string (lineOf (kw :: ps))] w fun e w' => e = .returned (.string (bangB rc)) ∧ Below w.heap.size w w' := by
  have HP := Aside0.mk (parse_calls hv ps hps hl hn1 hn2 hn3 A w hG hA0 hT hE)
  have HOK := Aside0.mk (ok_calls p S w hs)
  have HS := Aside0.mk hs
  have HGL := Aside0.mk hG
  have HF := Aside0.mk hF
  have HAB := Aside0.mk hAB
  obtain ⟨line, hline⟩ : ∃ s, lineOf (kw :: ps) = s := ⟨_, rfl⟩
  rw [hline] at HP HF ⊢
  have hm : ∀ w v, (method 429 134 v "pomade/shop.on").run Tryz.prog w = .ok (286, v) w := fun _ _ => by kernel_rfl
  have hc : cmdT false = 134 := rfl
  clear hF hAB hs hG hA0 hT hE hl hps hline
  go_enter Tryz.func14, Tryz.ntmps14
  go_wp2_with (first | (go_at_call 32; refine HOK.out.mono ?_; rintro e w0 ⟨rfl, rfl⟩) | (go_at_call 33; refine HP.out.mono ?_; rintro e w1 ⟨vb, a, v0, v1, v2, rfl, ha, hA, hvb, hb1⟩; rw [hc]; have HB1 := Aside0.mk hb1; have HL := Aside0.mk (look_no vb p F rc rc0 rc1 ks least most more 0 v0 v1 v2 (.string line) S w1 (HGL.out.below hb1) hvb (HS.out.below hb1) eg (fun W q hW hq => HF.out W q a v0 v1 v2 (hb1.trans (hW.mono hb1.size)) hq (HAB.out _ _ _ _ hA hW) (blk_below ha hW))); clear ha hA hvb hb1) | (go_at_call 286; refine HL.out.mono ?_; rintro e w2 ⟨rfl, hb2⟩; have HB2 := Aside0.mk (HB1.out.trans (hb2.mono HB1.out.size)); clear hb2))
  go_ret
  exact ⟨rfl, HB2.out⟩
end Go.Proofs.YtldohjlcckbfaaaGreatDoor.Hand
