/- A part of the proof that pomadetop.TopTold returns true for every input: HandVo, HandPe, HandRa, HandRb, MathT, EvT. No condition beyond those that each theorem states. -/
import Derived.Test.YtldohjlcckbfaaaGreatDoorRows
import Derived.OpenShut
import Derived.Deep.Strs
import Derived.Deep.DeepLaidRun
import Derived.ChangeAt
import Derived.Stop.Joined
import Derived.Lib.LaidTab
import Derived.LaidSub
import Derived.Shelf.Vars
import Derived.Test.YtldohjlcckbfaaaGreatDoorK42
import Derived.Test.YtldohjlcckbfaaaGreatDoorK49
namespace Go.Proofs.YtldohjlcckbfaaaGreatDoor.Hand
open Go.RowKit Go.Proofs.YtldohjlcckbfaaaGreatDoorW.PrintWords Go.Proofs.YtldohjlcckbfaaaGreatDoorW.PrintLast Go.Proofs.YtldohjlcckbfaaaGreatDoorW.PrintMore
set_option linter.unusedVariables false
set_option linter.unusedSimpArgs false
open Go.Proofs.YtldohjlcckbfaaaGreatDoor.Pre
open TopWords
set_option maxHeartbeats 4000000 in
set_option maxRecDepth 100000 in
theorem opened_calls (w : World) (hG : Glob w) : Calls Tryz.prog 9 #[] w fun e w' => e = .returned (.bool true) ∧ Below w.heap.size w w' := by
  have HG := Aside0.mk hG
  have HS := Aside0.mk (fun W => Print.pomadetop_seated.calls 60 true W (by decide +kernel))
  clear hG
  go_enter Tryz.func9, Tryz.ntmps9
  go_wp2_with (first | (go_at_call 10; refine (new_calls w).mono ?_; rintro e w1 ⟨p, rfl, hp, hs, hb1⟩; have HB1 := Aside0.mk hb1; have HP := Aside0.mk hp; have hR := run_calls w w1 HG.out hb1 p hp (by obtain ⟨_, _, _, _, _, h0, _⟩ := hs.at_; exact blk_lt h0) hs.loose; rw [textB_is, outRun_is] at hR; have HR := Aside0.mk hR; clear hp hs hb1 hR) | (go_at_call 29; refine HR.out.mono ?_; rintro e w2 ⟨rfl, ht⟩; have HB2 := Aside0.mk (HB1.out.trans (ht.below HP.out HB1.out.size)); clear ht) | (go_at_call 5; refine (HS.out _).mono ?_; rintro e w3 ⟨rfl, hb3⟩; have HB3 := Aside0.mk (HB2.out.trans (hb3.mono HB2.out.size)); clear hb3))
  go_ret
  exact ⟨rfl, HB3.out⟩
end Go.Proofs.YtldohjlcckbfaaaGreatDoor.Hand
namespace Go.Proofs.YtldohjlcckbfaaaGreatDoor.Hand
open Go.RowKit Go.Proofs.YtldohjlcckbfaaaGreatDoorW.PrintWords Go.Proofs.YtldohjlcckbfaaaGreatDoorW.PrintLast Go.Proofs.YtldohjlcckbfaaaGreatDoorW.PrintMore
set_option linter.unusedVariables false
set_option linter.unusedSimpArgs false
open Go.Maps Go.WideMaps Go.WideElems Go.Proofs.YtldohjlcckbfaaaGreatDoor.MathP
theorem gOps : Tryz.prog.globalNamed "pomade/parrot.operations" = some 0 := by kernel_rfl
theorem tOps : (Tryz.prog.globals[0]?).map (·.type) = some 171 := by kernel_rfl
theorem cells54 : Tryz.prog.cellsOf 169 = 3 := by kernel_rfl
theorem cells50 : Tryz.prog.cellsOf 38 = 1 := by kernel_rfl
theorem cells51 : Tryz.prog.cellsOf 96 = 1 := by kernel_rfl
theorem cells52 : Tryz.prog.cellsOf 167 = 1 := by kernel_rfl
def opsIn : DataW Unit := match (Rows.laid_pomade_parrot_operations : DataW Unit) with
  | .iface _ d => d
  | d => d
theorem opsIn_is : (Rows.laid_pomade_parrot_operations : DataW Unit) = .iface "func table" opsIn := rfl
theorem opsIn_out : opsIn.funcsOut = opsD := by kernel_rfl
theorem one_of {c : UInt8} (hc : isOp c = true) {W : World} {fuel : Nat} {v : Value} {q q2 q3 : List MemPlace} {v2 v3 : Value}
    (h1 : DataW.trod (funcToken Tryz.prog) Tryz.prog W 0 (fun _ => true) true fuel 38 [v] = some (.held (nA c), q))
    (h2 : DataW.trod (funcToken Tryz.prog) Tryz.prog W 0 (fun _ => true) true fuel 96 [v2] = some (.held (nL c), q2))
    (h3 : DataW.trod (funcToken Tryz.prog) Tryz.prog W 0 (fun _ => true) true fuel 167 [v3] = some (.held (nB c), q3)) :
    v = .func (.func (fA c)) #[] #[] ∧ v2 = .func (.func (fL c)) #[] #[] ∧ v3 = .func (.func (fB c)) #[] #[] := by
  rcases isOp_cases hc with rfl | rfl | rfl | rfl | rfl
  · exact ⟨func_of_trod (f0 := 300) Tryz.underlying38 (by kernel_rfl) h1, func_of_trod (f0 := 301) Tryz.underlying96 (by kernel_rfl) h2, func_of_trod (f0 := 302) Tryz.underlying167 (by kernel_rfl) h3⟩
  · exact ⟨func_of_trod (f0 := 102) Tryz.underlying38 (by kernel_rfl) h1, func_of_trod (f0 := 303) Tryz.underlying96 (by kernel_rfl) h2, func_of_trod (f0 := 304) Tryz.underlying167 (by kernel_rfl) h3⟩
  · exact ⟨func_of_trod (f0 := 305) Tryz.underlying38 (by kernel_rfl) h1, func_of_trod (f0 := 306) Tryz.underlying96 (by kernel_rfl) h2, func_of_trod (f0 := 307) Tryz.underlying167 (by kernel_rfl) h3⟩
  · exact ⟨func_of_trod (f0 := 308) Tryz.underlying38 (by kernel_rfl) h1, func_of_trod (f0 := 309) Tryz.underlying96 (by kernel_rfl) h2, func_of_trod (f0 := 310) Tryz.underlying167 (by kernel_rfl) h3⟩
  · exact ⟨func_of_trod (f0 := 311) Tryz.underlying38 (by kernel_rfl) h1, func_of_trod (f0 := 312) Tryz.underlying96 (by kernel_rfl) h2, func_of_trod (f0 := 313) Tryz.underlying167 (by kernel_rfl) h3⟩
set_option maxRecDepth 100000 in
theorem opVal_of {c : UInt8} (hc : isOp c = true) {W : World} {n : Nat} {v : Value} {ps : List MemPlace} (h : elemAt (funcToken Tryz.prog) Tryz.prog W 0 (fun _ => true) true n 169 v = some (opD c, ps)) : v = opVal c := by
  unfold elemAt at h
  split at h
  · rename_i hf
    obtain ⟨y0, y1, y2, m, hx, hl, h0, h1, h2⟩ := Go.Deep.trod_struct3 Tryz.underlying169 h
    rw [cells54] at hl
    dsimp only at h0 h1 h2
    rw [cells50] at h0
    rw [cells51] at h1
    rw [cells52] at h2
    unfold opD at hx
    simp only [Prod.mk.injEq, DataW.agg.injEq, List.cons.injEq, and_true] at hx
    obtain ⟨⟨e0, e1, e2⟩, _⟩ := hx
    cases v with
    | agg cs =>
      simp only [Value.cells] at hl h0 h1 h2
      obtain ⟨l⟩ := cs
      match l, hl, h0, h1, h2 with
      | [x, y, z], _, h0, h1, h2 =>
        have h0 : DataW.trod (funcToken Tryz.prog) Tryz.prog W 0 (fun _ => true) true m 38 [x] = some y0 := h0
        have h1 : DataW.trod (funcToken Tryz.prog) Tryz.prog W 0 (fun _ => true) true m 96 [y] = some y1 := h1
        have h2 : DataW.trod (funcToken Tryz.prog) Tryz.prog W 0 (fun _ => true) true m 167 [z] = some y2 := h2
        obtain ⟨d0, q0⟩ := y0
        obtain ⟨d1, q1⟩ := y1
        obtain ⟨d2, q2⟩ := y2
        dsimp only at e0 e1 e2
        subst e0 e1 e2
        obtain ⟨rfl, rfl, rfl⟩ := one_of hc h0 h1 h2
        rfl
    | _ => simp [Value.formed, Tryz.underlying169] at hf
  · cases h
set_option maxRecDepth 100000 in
theorem ops_of_laid {l : List (String × DataW Unit)} (hm : ("pomade/parrot.operations", Rows.laid_pomade_parrot_operations) ∈ l) {W : World} (h : laidMetH Tryz.prog l W) : Ops W := by
  rw [opsIn_is] at hm
  obtain ⟨g, t, cs, fuel, p, hg, ht, hv, hd⟩ := h.funcs hm
  obtain rfl := Option.some.inj (gOps.symm.trans hg)
  obtain rfl := Option.some.inj (tOps.symm.trans ht)
  rw [opsIn_out] at hd
  rcases open_map Tryz.underlying171 hd with ⟨_, hx⟩ | ⟨bm, es, clock, m, rfl, hcs, hb, _, F, hx⟩
  · simp [opsD] at hx
  · simp only [Prod.mk.injEq] at hx
    have hcell : W.cell? ⟨0, 0, none⟩ = some (.map (some bm)) := by
      have := World.var?_cell hg hv 0
      rw [Array.eq_one_of_toList hcs] at this
      simpa using this
    exact ⟨bm, es, clock, _, hcell, hb, F, hx.1, fun c hc v ps hR => opVal_of hc hR⟩
end Go.Proofs.YtldohjlcckbfaaaGreatDoor.Hand
namespace Go.Proofs.YtldohjlcckbfaaaGreatDoor.Hand
open Go.RowKit Go.Proofs.YtldohjlcckbfaaaGreatDoorW.PrintWords Go.Proofs.YtldohjlcckbfaaaGreatDoorW.PrintLast Go.Proofs.YtldohjlcckbfaaaGreatDoorW.PrintMore
set_option linter.unusedVariables false
set_option linter.unusedSimpArgs false
open Go.Proofs.YtldohjlcckbfaaaGreatDoor.Pre Go.ChangeAt
theorem gPow : Tryz.prog.globalNamed "internal/strconv.uint64pow10" = some 5 := by kernel_rfl
theorem gSteps : Tryz.prog.globalNamed "pomade/mirror.steps" = some 1 := by kernel_rfl
theorem powL_is : (Rows.topToldRow.laid).filter (fun x => x.1 == "internal/strconv.uint64pow10") = [("internal/strconv.uint64pow10", Lib.tabData .u64 Lib.pow10Tab)] := by rfl
theorem stepsL_is : (Rows.topToldRow.laid).filter (fun x => x.1 == "pomade/mirror.steps") = [("pomade/mirror.steps", Rows.laid_pomade_mirror_steps)] := by rfl
theorem laid_one {n : String} {d : DataW Unit} {W : World} (hn : (d.handleName?.isNone) = true) (h : laidMetH Tryz.prog Rows.topToldRow.laid W) (e : (Rows.topToldRow.laid).filter (fun x => x.1 == n) = [(n, d)]) : laidMet Tryz.prog [(n, d)] W := by
  have h1 := h.filter (fun x => x.1 == n)
  rw [e] at h1
  have h2 := (laidMetH_iff.1 h1).1
  rw [List.filter_cons_of_pos (by simpa using hn), List.filter_nil] at h2
  exact h2
theorem pow_of_laid {W : World} (h : laidMetH Tryz.prog Rows.topToldRow.laid W) : Lib.TabIs Tryz.prog W "internal/strconv.uint64pow10" .u64 Lib.pow10Tab :=
  Lib.tabIs_of_head gPow (t := 293) (e := 231) (n := 20) (by kernel_rfl) (by kernel_rfl) (by kernel_rfl) (by kernel_rfl) (by kernel_rfl) (laid_one (by rfl) h powL_is)
theorem int_of_one {H : Type} {enc : TypeId × Value → H} {held : Bool} {W : World} {fuel : Nat} {cs : List Value} {x : Int} {q : List MemPlace} {e : TypeId} (he : Tryz.prog.underlying e = some (.int .i64)) (h : DataW.trod enc Tryz.prog W 0 (fun _ => true) held fuel e cs = some (.lit (.int .i64 x), q)) : cs = [.int .i64 x] := by
  obtain ⟨z, hc, hd, _⟩ := DataW.trod_int he h
  simp only [Prod.mk.injEq, DataW.lit.injEq, Lit.int.injEq, true_and] at hd
  obtain ⟨rfl, _⟩ := hd
  exact hc
theorem pair_of {H : Type} {enc : TypeId × Value → H} {held : Bool} {W : World} {fuel : Nat} {cs : List Value} {x y : Int} {q : List MemPlace} (h : DataW.trod enc Tryz.prog W 0 (fun _ => true) held fuel 182 cs = some (.agg [.lit (.int .i64 x), .lit (.int .i64 y)], q)) : cs = [.int .i64 x, .int .i64 y] := by
  have c3 : Tryz.prog.cellsOf 3 = 1 := by kernel_rfl
  have c182 : Tryz.prog.cellsOf 182 = 2 := by kernel_rfl
  obtain ⟨xs, m, _, hx, hl, hn, hi⟩ := DataW.trod_array (n := 2) (e := 3) (by kernel_rfl) h
  rw [c182] at hl
  simp only [c3] at hi
  obtain ⟨a, b, rfl⟩ : ∃ a b, xs = [a, b] := by
    match xs, hn with
    | [a, b], _ => exact ⟨a, b, rfl⟩
  obtain ⟨u, v, rfl⟩ : ∃ u v, cs = [u, v] := by
    match cs, hl with
    | [u, v], _ => exact ⟨u, v, rfl⟩
  simp only [Prod.mk.injEq, DataW.agg.injEq, List.map_cons, List.map_nil, List.cons.injEq, and_true] at hx
  obtain ⟨⟨h1, h2⟩, _⟩ := hx
  obtain ⟨a1, a2⟩ := a
  obtain ⟨b1, b2⟩ := b
  dsimp only at h1 h2
  subst h1 h2
  have e0 := hi 0 (by decide)
  have e1 := hi 1 (by decide)
  have k0 := int_of_one (cs := [u]) Tryz.underlying3 e0
  have k1 := int_of_one (cs := [v]) Tryz.underlying3 e1
  simp only [List.cons.injEq, and_true] at k0 k1
  rw [k0, k1]
set_option maxRecDepth 100000 in
theorem steps_of_laid {W : World} (h : laidMetH Tryz.prog Rows.topToldRow.laid W) : StepsAt W := by
  have c182 : Tryz.prog.cellsOf 182 = 2 := by kernel_rfl
  have c183 : Tryz.prog.cellsOf 183 = 12 := by kernel_rfl
  obtain ⟨ps, ⟨g, t, cs, fuel, p, q, hg, ht, hvar, hd, _, _⟩, _⟩ := laid_one (by rfl) h stepsL_is
  obtain rfl := Option.some.inj (gSteps.symm.trans hg)
  obtain rfl := Option.some.inj ((show (Tryz.prog.globals[1]?).map (·.type) = some 183 by kernel_rfl).symm.trans ht)
  obtain ⟨xs, m, _, hx, hl, hn, hi⟩ := DataW.trod_array (n := 6) (e := 182) (by kernel_rfl) hd
  rw [c183] at hl
  simp only [c182] at hi
  obtain ⟨a, b, c, d, e, f, rfl⟩ : ∃ a b c d e f, xs = [a, b, c, d, e, f] := by
    match xs, hn with
    | [a, b, c, d, e, f], _ => exact ⟨a, b, c, d, e, f, rfl⟩
  obtain ⟨l⟩ := cs
  obtain ⟨v0, v1, v2, v3, v4, v5, v6, v7, v8, v9, v10, v11, rfl⟩ : ∃ v0 v1 v2 v3 v4 v5 v6 v7 v8 v9 v10 v11, l = [v0, v1, v2, v3, v4, v5, v6, v7, v8, v9, v10, v11] := by
    match l, hl with
    | [v0, v1, v2, v3, v4, v5, v6, v7, v8, v9, v10, v11], _ => exact ⟨v0, v1, v2, v3, v4, v5, v6, v7, v8, v9, v10, v11, rfl⟩
  unfold Rows.laid_pomade_mirror_steps at hx
  simp only [Prod.mk.injEq, DataW.agg.injEq, List.map_cons, List.map_nil, List.cons.injEq, and_true] at hx
  obtain ⟨⟨h1, h2, h3, h4, h5, h6⟩, _⟩ := hx
  obtain ⟨a1, a2⟩ := a
  obtain ⟨b1, b2⟩ := b
  obtain ⟨c1, c2⟩ := c
  obtain ⟨d1, d2⟩ := d
  obtain ⟨e1, e2⟩ := e
  obtain ⟨f1, f2⟩ := f
  dsimp only at h1 h2 h3 h4 h5 h6
  subst h1 h2 h3 h4 h5 h6
  have k0 := pair_of (cs := [v0, v1]) (hi 0 (by decide))
  have k1 := pair_of (cs := [v2, v3]) (hi 1 (by decide))
  have k2 := pair_of (cs := [v4, v5]) (hi 2 (by decide))
  have k3 := pair_of (cs := [v6, v7]) (hi 3 (by decide))
  have k4 := pair_of (cs := [v8, v9]) (hi 4 (by decide))
  have k5 := pair_of (cs := [v10, v11]) (hi 5 (by decide))
  simp only [List.cons.injEq, and_true] at k0 k1 k2 k3 k4 k5
  obtain ⟨rfl, rfl⟩ := k0
  obtain ⟨rfl, rfl⟩ := k1
  obtain ⟨rfl, rfl⟩ := k2
  obtain ⟨rfl, rfl⟩ := k3
  obtain ⟨rfl, rfl⟩ := k4
  obtain ⟨rfl, rfl⟩ := k5
  unfold World.var? at hvar
  rw [gSteps] at hvar
  simp only [Option.bind_some] at hvar
  split at hvar
  · rename_i cs t fr hh
    injection hvar with hvar
    rw [hvar] at hh
    exact ⟨_, _, hh⟩
  · cases hvar
theorem maxl_of_shape {W : World} (h : W.ShapedOpen Tryz.prog) : ∃ m, W.cell? ⟨4, 0, none⟩ = some (.int .i64 m) :=
  cell_of_shapedOpen_int h (g := 4) (t := 3) (zero := #[.int .i64 0]) (of_decide_eq_true (by kernel_rfl)) (by kernel_rfl) (by rfl) (by kernel_rfl) (by kernel_rfl) Tryz.underlying3
theorem glob_of {W : World} (h : laidMetH Tryz.prog Rows.topToldRow.laid W) (hs : W.ShapedOpen Tryz.prog) : Glob W :=
  ⟨ops_of_laid (l := Rows.topToldRow.laid) (by simp [Rows.topToldRow]) h, steps_of_laid h, pow_of_laid h, maxl_of_shape hs⟩
theorem returns_laid_shaped {H : Type} {enc : TypeId × Value → H} {a : Assume} {C : Checked} {os : Os} {f : FuncId} {fn : Func} {s : ChangeSpec} {conds : List PathCond} {apart fresh handsOn again : Bool} {X : World → Array Value → Prop}
    (hX : ∀ (w w' : World) (args : Array Value), w.heap = w'.heap → X w args → X w' args)
    (own : ownKnob C.prog.godebug = none) (started : os.Started) (noInit : C.prog.inits.idxOf? f = none) (hfn : C.prog.funcs[f]? = some fn)
    (witness : ∃ (w : World) (tape : Tape) (i : Input), w.os = os ∧ (w.forCall tape i).Shaped C.prog ∧ i.vars = [] ∧ Input.okWide C.prog (w.forCall tape i) .any w.heap.size f i ∧
      ((s.pre enc C.prog fn conds apart (w.forCall tape i).memory i.args ∧ X (w.forCall tape i).memory i.args) ∧ sizedMet enc C.prog fn (OpenSpec.ofChange s) apart (w.forCall tape i).memory i.args) ∧ a.holds C.prog (lone (Frame.enter C.prog f i.args .normal) [] (w.forCall tape i)))
    (contract : ∀ (W : World) (base : Nat) (args : Array Value) (ds gs : List (DataW H)) (before : List MemPlace),
      (∀ (j : Nat) t v, fn.params[j]? = some t → args[j]? = some v → Value.okWide C.prog W .any base t v) →
      DataW.Whole enc C.prog fn.params.toList s.vars apart W args.toList ds gs before →
      conds.all (PathCond.test C.prog ⟨fn.params.toList, ds, s.plain.varTypes C.prog, gs⟩) = true →
      (DataW.weightsEach C.prog (fn.params.toList ++ s.plain.varTypes C.prog) (ds ++ gs)).all (· ≤ reachBytes) = true → X W args → W.ShapedOpen C.prog →
      Calls C.prog f args W fun e W' => ∃ v, e = .returned v ∧ s.post enc C.prog fn apart fresh handsOn again W args v W') :
    ReturnsInHanded a C os f .any (fun w args => (s.pre enc C.prog fn conds apart w args ∧ X w args) ∧ sizedMet enc C.prog fn (OpenSpec.ofChange s) apart w args) (s.post enc C.prog fn apart fresh handsOn again) := by
  refine returnsInHanded_of_calls own started noInit witness ?_
  intro w tape i _ hsh _ hok hpre _
  obtain ⟨_, _, _, fn', hfn', _, _, _, _, hval⟩ := hok
  have e : fn' = fn := Option.some.inj (hfn'.symm.trans hfn)
  subst e
  obtain ⟨⟨⟨ds, gs, before, hw, hc⟩, hx⟩, hz⟩ := hpre
  have hw' := DataW.Whole.of_heap (w' := w.forCall tape i) (by rfl) hw
  refine (contract (w.forCall tape i) w.heap.size i.args ds gs before hval hw' hc (hz.weights hw) (hX _ _ _ (by rfl) hx) hsh).mono fun e W' ⟨v, he, hp⟩ => ?_
  subst he
  exact ChangeSpec.post_blind hp
end Go.Proofs.YtldohjlcckbfaaaGreatDoor.Hand
namespace Go.Proofs.YtldohjlcckbfaaaGreatDoor.Hand
open Go.RowKit Go.Proofs.YtldohjlcckbfaaaGreatDoorW.PrintWords Go.Proofs.YtldohjlcckbfaaaGreatDoorW.PrintLast Go.Proofs.YtldohjlcckbfaaaGreatDoorW.PrintMore
set_option linter.unusedVariables false
set_option linter.unusedSimpArgs false
open Go.ChangeAt
noncomputable def laidWorld (os : Os) : World :=
  let w0 := World.doorLaid Tryz.prog 400 os
  { w0 with heap := w0.heap.modify 2 fun
    | .cells _ t frozen => .cells (Go.Pinned.utf8FirstZ.map fun (z : Nat) => Value.int .u8 (z : Int)).toArray t frozen
    | o => o }
set_option maxRecDepth 100000 in
theorem laid_met (os : Os) (args : Array Value) : laidMetH Tryz.prog Rows.topToldRow.laid ((laidWorld os).forCall (fun _ _ => 0) ⟨#[], args, []⟩).memory :=
  laidMetH_of_parts3 (fuel := 10) (laidMet_of_run3 10 (by kernel_rfl) (by kernel_rfl) (by kernel_rfl)) (by kernel_rfl) (by kernel_rfl)
end Go.Proofs.YtldohjlcckbfaaaGreatDoor.Hand
namespace Go.Proofs.YtldohjlcckbfaaaGreatDoor.TopMath
def up (T : List Bool) (j : Nat) : Nat := (T.drop j).countP id
def scan : Nat → List Bool → Option Nat
  | d, [] => some d
  | d, true :: t => scan (d + 1) t
  | 0, false :: _ => none
  | d + 1, false :: t => scan d t
def blocks (c : List Nat) : List Bool := c.flatMap fun k => List.replicate k true ++ [false]
def Pairs (a : List Nat) : Prop := ∀ q, q < a.length → ∃ r, a[q]? = some r ∧ r < a.length ∧ a[r]? = some q ∧ r ≠ q
def part : List Bool → Nat → List Nat → List Nat → Option (List Nat)
  | [], _, [], out => some out
  | [], _, _ :: _, _ => none
  | true :: t, i, o, out => part t (i + 1) (i :: o) out
  | false :: _, _, [], _ => none
  | false :: t, i, k :: o, out => part t (i + 1) o ((out.set i k).set k i)
structure Mid (i : Nat) (o out : List Nat) : Prop where
  below : ∀ q, q ∈ o → q < i
  apart : o.Nodup
  known : ∀ q, q < i → q ∉ o → ∃ r, out[q]? = some r ∧ r < i ∧ r ∉ o ∧ out[r]? = some q ∧ r ≠ q
theorem part_is (n : Nat) : ∀ (t : List Bool) (i : Nat) (o out : List Nat), out.length = n → i + t.length = n → Mid i o out →
    (scan o.length t = some 0 → ∃ a, part t i o out = some a ∧ a.length = n ∧ Pairs a) ∧ (scan o.length t ≠ some 0 → part t i o out = none)
  | [], i, o, out, hl, hi, hm => by
    cases o with
    | nil =>
      refine ⟨fun _ => ⟨out, rfl, hl, fun q hq => ?_⟩, fun h => absurd rfl h⟩
      simp at hi
      obtain ⟨r, g1, g2, _, g4, g5⟩ := hm.known q (by omega) (by simp)
      exact ⟨r, g1, by omega, g4, g5⟩
    | cons k o => exact ⟨fun h => by simp [scan] at h, fun _ => rfl⟩
  | true :: t, i, o, out, hl, hi, hm => by
    have h : Mid (i + 1) (i :: o) out := by
      refine ⟨fun q hq => ?_, ?_, fun q hq hqo => ?_⟩
      · rcases List.mem_cons.1 hq with rfl | c
        · omega
        · have := hm.below q c; omega
      · exact List.nodup_cons.2 ⟨fun c => absurd (hm.below i c) (Nat.lt_irrefl i), hm.apart⟩
      · have h1 : q ≠ i := fun c => hqo (by rw [c]; simp)
        obtain ⟨r, g1, g2, g3, g4, g5⟩ := hm.known q (by omega) (fun c => hqo (List.mem_cons_of_mem _ c))
        exact ⟨r, g1, by omega, fun c => (List.mem_cons.1 c).elim (fun z => by omega) g3, g4, g5⟩
    have ih := part_is n t (i + 1) (i :: o) out hl (by simp at hi; omega) h
    exact ih
  | false :: t, i, [], out, _, _, _ => ⟨fun h => by simp [scan] at h, fun _ => rfl⟩
  | false :: t, i, k :: o, out, hl, hi, hm => by
    have hk := hm.below k (by simp)
    have hno := List.nodup_cons.1 hm.apart
    have hil : i < out.length := by simp at hi; omega
    have h : Mid (i + 1) o ((out.set i k).set k i) := by
      refine ⟨fun q hq => ?_, hno.2, fun q hq hqo => ?_⟩
      · have := hm.below q (List.mem_cons_of_mem _ hq); omega
      · by_cases e1 : q = k
        · subst e1
          refine ⟨i, by rw [List.getElem?_set_self (by rw [List.length_set]; omega)], by omega, fun c => absurd (hm.below i (List.mem_cons_of_mem _ c)) (Nat.lt_irrefl i), ?_, by omega⟩
          rw [List.getElem?_set_ne (by omega), List.getElem?_set_self hil]
        · by_cases e2 : q = i
          · subst e2
            refine ⟨k, by rw [List.getElem?_set_ne (by omega), List.getElem?_set_self hil], by omega, hno.1, ?_, by omega⟩
            rw [List.getElem?_set_self (by rw [List.length_set]; omega)]
          · obtain ⟨r, g1, g2, g3, g4, g5⟩ := hm.known q (by omega) (fun c => (List.mem_cons.1 c).elim e1 hqo)
            have e3 : r ≠ k := fun c => g3 (by rw [c]; simp)
            refine ⟨r, by rw [List.getElem?_set_ne (fun z => e1 z.symm), List.getElem?_set_ne (fun z => e2 z.symm), g1], by omega, fun c => g3 (List.mem_cons_of_mem _ c), ?_, g5⟩
            rw [List.getElem?_set_ne (fun z => e3 z.symm), List.getElem?_set_ne (by omega), g4]
    exact part_is n t (i + 1) o _ (by rw [List.length_set, List.length_set, hl]) (by simp at hi; omega) h
theorem part_start (s : List Bool) : (scan 0 s = some 0 → ∃ a, part s 0 [] (List.replicate s.length 0) = some a ∧ a.length = s.length ∧ Pairs a) ∧ (scan 0 s ≠ some 0 → part s 0 [] (List.replicate s.length 0) = none) :=
  part_is s.length s 0 [] _ List.length_replicate (Nat.zero_add _) ⟨fun q h => by simp at h, List.nodup_nil, fun q h => absurd h (Nat.not_lt_zero q)⟩
open Go.Proofs.YtldohjlcckbfaaaGreatDoor.Math
end Go.Proofs.YtldohjlcckbfaaaGreatDoor.TopMath
namespace Go.Proofs.YtldohjlcckbfaaaGreatDoor.Hand
open Go.RowKit Go.Proofs.YtldohjlcckbfaaaGreatDoorW.PrintWords Go.Proofs.YtldohjlcckbfaaaGreatDoorW.PrintLast Go.Proofs.YtldohjlcckbfaaaGreatDoorW.PrintMore
set_option linter.unusedVariables false
set_option linter.unusedSimpArgs false
open Go.Proofs.YtldohjlcckbfaaaGreatDoor.Print Go.Proofs.YtldohjlcckbfaaaGreatDoor.TopMath
theorem w64 {n : Int} (h : -9223372036854775808 ≤ n ∧ n ≤ 9223372036854775807) : wrap64 n = n := by unfold wrap64; omega
theorem rdb_get {T : List Bool} {i : Nat} {b : Bool} (h : T[i]? = some b) : rdOf false T (i : Int) = b := by
  unfold rdOf
  rw [Int.toNat_natCast, List.getD_eq_getElem?_getD, h]; rfl
theorem search (T : List Bool) (n : Nat) (hT : T.length = n) : ∀ (d w : Nat), w + d = n → (∃ c, w ≤ c ∧ T[c]? = some false ∧ ∀ j, w ≤ j → j < c → T[j]? = some true) ∨ (∀ j, w ≤ j → j < n → T[j]? = some true)
  | 0, w, h => .inr fun j h1 h2 => by omega
  | d + 1, w, h => by
    have hw : w < T.length := by omega
    have hg : T[w]? = some T[w] := List.getElem?_eq_getElem hw
    cases hb : T[w] with
    | false => exact .inl ⟨w, Nat.le_refl _, by rw [hg, hb], fun j h1 h2 => by omega⟩
    | true =>
      rcases search T n hT d (w + 1) (by omega) with ⟨c, h1, h2, h3⟩ | h1
      · refine .inl ⟨c, by omega, h2, fun j h4 h5 => ?_⟩
        by_cases e : j = w
        · subst e; rw [hg, hb]
        · exact h3 j (by omega) h5
      · refine .inr fun j h4 h5 => ?_
        by_cases e : j = w
        · subst e; rw [hg, hb]
        · exact h1 j (by omega) h5
end Go.Proofs.YtldohjlcckbfaaaGreatDoor.Hand
