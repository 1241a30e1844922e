-- Written by a program of this session (wip/till/genBand.py, after the print's own rows); Lean checks it.
import Derived.Test.YtnjimbgfafkogaaDoorRows
import Derived.Test.YtnjimbgfafkogaaDoorFie1
import Derived.Test.YtnjimbgfafkogaaDoorPureTillReflects
import Derived.WalkKit
import Derived.ProofKit
import Derived.OpenShut
import Derived.ShutString
import Derived.ChangeOld
import Derived.Below
import Derived.SizedLaws
import Derived.ChangeVars
import Derived.JoinedOf
import Derived.Deep.DeepLaidRun
import Derived.SevenTiedAt
import Derived.Test.YtnjimbgfafkogaaDoorTie
import Derived.Test.YtnjimbgfafkogaaDoorCards
namespace Go.Proofs.YtnjimbgfafkogaaDoor.tillReflects
open Go.ChangeShapes Go.WideShapes Go.ChangeAt Go.RowKit
open Go.ChangeMaps (open_string shut_string)
set_option linter.unusedVariables false
theorem own : ownKnob Tryd.prog.godebug = none := by kernel_rfl
/-- The settled world, the two listed tables holding what they are laid with. -/
noncomputable def laidWorld (os : Os) : World :=
  let w0 := World.holding Tryd.prog os ⟨#[], #[], []⟩
  let put (h : Array Obj) (g : Nat) (cs : Array Value) : Array Obj := h.modify g fun
    | .cells _ t frozen => .cells cs t frozen
    | o => o
  { w0 with heap := put (put w0.heap 0 (Go.Pinned.utf8FirstZ.map fun (z : Nat) => Value.int .u8 (z : Int)).toArray) 1 (([128, 191, 160, 191, 128, 159, 144, 191, 128, 143] ++ List.replicate 22 0 : List Int).map fun z => Value.int .u8 z).toArray }
theorem laid_met (os : Os) (args : Array Value) : laidMet Tryd.prog Rows.tillReflectsRow.laid ((laidWorld os).forCall (fun _ _ => 0) ⟨#[], args, []⟩).memory :=
  laidMet_of_run3 10 (by kernel_rfl) (by kernel_rfl) (by kernel_rfl)
theorem open_band {H : Type} {enc : TypeId × Value → H} {w : World} {base : Nat} {sp : Nat → Bool} {held : Bool} {r : Reach} {b0 : Nat} {v : Value} {d : DataW H} {ps : List MemPlace}
    (hval : Value.okWide Tryd.prog w r b0 46 v) (hd : DataW.Trod enc Tryd.prog w base sp held 46 v d ps) :
    ∃ x0 x1 x2 x3 x4 : Int, v = .agg #[.int .i64 x0, .int .i64 x1, .int .i64 x2, .int .i64 x3, .int .i64 x4] ∧ d = .agg [.lit (.int .i64 x0), .lit (.int .i64 x1), .lit (.int .i64 x2), .lit (.int .i64 x3), .lit (.int .i64 x4)] ∧ ps = [] ∧
      (Lit.int .i64 x0).wf = true ∧ (Lit.int .i64 x1).wf = true ∧ (Lit.int .i64 x2).wf = true ∧ (Lit.int .i64 x3).wf = true ∧ (Lit.int .i64 x4).wf = true := by
  have hc3 : Tryd.prog.cellsOf 3 = 1 := by kernel_rfl
  have hc46 : Tryd.prog.cellsOf 46 = 5 := by kernel_rfl
  unfold Value.okWide at hval
  rw [Tryd.underlying46] at hval
  obtain ⟨cs, rfl, hcs, _⟩ := hval
  obtain ⟨fuel, hy⟩ := hd
  obtain ⟨ys, m, _, hx, hl, hyl, hf⟩ := DataW.trod_struct Tryd.underlying46 hy
  match ys, hyl with
  | [y0, y1, y2, y3, y4], _ =>
  have hy0 := hf 0 _ rfl
  have hy1 := hf 1 _ rfl
  have hy2 := hf 2 _ rfl
  have hy3 := hf 3 _ rfl
  have hy4 := hf 4 _ rfl
  rw [hc46] at hcs
  obtain ⟨l⟩ := cs
  match l, hcs with
  | [c0, c1, c2, c3, c4], _ =>
  simp [hc3, Value.cells] at hy0 hy1 hy2 hy3 hy4
  obtain ⟨x0, e0, rfl, s0⟩ := DataW.trod_int Tryd.underlying3 hy0
  obtain ⟨x1, e1, rfl, s1⟩ := DataW.trod_int Tryd.underlying3 hy1
  obtain ⟨x2, e2, rfl, s2⟩ := DataW.trod_int Tryd.underlying3 hy2
  obtain ⟨x3, e3, rfl, s3⟩ := DataW.trod_int Tryd.underlying3 hy3
  obtain ⟨x4, e4, rfl, s4⟩ := DataW.trod_int Tryd.underlying3 hy4
  simp at e0 e1 e2 e3 e4 hx
  subst e0 e1 e2 e3 e4
  obtain ⟨rfl, rfl⟩ := hx
  exact ⟨x0, x1, x2, x3, x4, rfl, rfl, rfl, s0, s1, s2, s3, s4⟩
theorem shut_band {H : Type} {enc : TypeId × Value → H} (w : World) (base : Nat) (sp : Nat → Bool) (held : Bool) {x0 x1 x2 x3 x4 : Int}
    (s0 : (Lit.int .i64 x0).wf = true) (s1 : (Lit.int .i64 x1).wf = true) (s2 : (Lit.int .i64 x2).wf = true) (s3 : (Lit.int .i64 x3).wf = true) (s4 : (Lit.int .i64 x4).wf = true) :
    DataW.Trod enc Tryd.prog w base sp held 46 (.agg #[.int .i64 x0, .int .i64 x1, .int .i64 x2, .int .i64 x3, .int .i64 x4]) (.agg [.lit (.int .i64 x0), .lit (.int .i64 x1), .lit (.int .i64 x2), .lit (.int .i64 x3), .lit (.int .i64 x4)]) [] := by
  have hc3 : Tryd.prog.cellsOf 3 = 1 := by kernel_rfl
  have hc46 : Tryd.prog.cellsOf 46 = 5 := by kernel_rfl
  exact ⟨2, by simp [DataW.trod, Value.cells, Tryd.underlying46, Tryd.underlying3, hc3, hc46, s0, s1, s2, s3, s4, List.range]⟩
set_option maxRecDepth 100000 in
theorem lifted (os : Os) (started : os.Started) (H : Type) (enc : TypeId × Value → H) :
    ReturnsInHanded {} Tryd.checked os 13 .any (fun w args => (Rows.tillReflectsSpec.pre enc Tryd.prog Tryd.f13 [] false w args ∧ laidMet Tryd.prog Rows.tillReflectsRow.laid w) ∧ sizedMet enc Tryd.prog Tryd.f13 (OpenSpec.ofChange Rows.tillReflectsSpec) false w args)
      (Rows.tillReflectsSpec.post enc Tryd.prog Tryd.f13 false true false false) := by
  refine returnsInHanded_of_change_and (C := Tryd.checked) (X := fun w _ => laidMet Tryd.prog Rows.tillReflectsRow.laid w) (fun _ _ _ hh h => h.of_heap hh) own started (by kernel_rfl) Tryd.func13
    (ChangeSpec.witness_at (enc := enc) (C := Tryd.checked) (os := os) (X := fun w _ => laidMet Tryd.prog Rows.tillReflectsRow.laid w) false (laidWorld os) #[.agg #[.int .i64 0, .int .i64 0, .int .i64 0, .int .i64 0, .int .i64 0]] 8 rfl (by kernel_rfl) (by kernel_rfl) (by kernel_rfl) (by kernel_rfl) (by kernel_rfl) (laid_met os _)) ?_
  intro W base args ds gs before hval0 hW hcnd hsz0 hL _
  have hval : ∀ (j : Nat) t v, Tryd.f13.params[j]? = some t → args[j]? = some v → Value.okWide Tryd.prog W .any base t v := hval0
  have hW' := hW
  obtain ⟨p, q, hA0, hV, rfl, hfz, hnd⟩ := hW
  have hA : DataW.TrodAll enc Tryd.prog W 0 (fun _ => true) true Tryd.f13.params.toList args.toList ds p := hA0
  rw [Tryd.params13] at hA hval
  obtain ⟨v0, vs0, d0, ds0, p0, q0, hargs, rfl, rfl, h0, r0⟩ := trodAll_cons hA
  obtain ⟨rfl, rfl, rfl⟩ := trodAll_nil r0
  obtain rfl : args = #[v0] := by cases args; simp_all
  obtain ⟨rfl, rfl⟩ := trodVars_none hV
  obtain ⟨a0, a1, a2, a3, a4, rfl, rfl, rfl, w0, w1, w2, w3, w4⟩ := open_band (hval 0 46 v0 rfl rfl) h0
  clear hA0 hval0 hsz0
  obtain ⟨k, hk⟩ := Pure.TillReflects a0 a1 a2 a3 a4
  refine (Fie.pomadelaw09_TillReflects.calls k a0 a1 a2 a3 a4 true W hk).mono fun e W' ⟨he, bel⟩ => ?_
  subst he
  exact ⟨_, rfl, _, _, _, [], _, [], hW', trodAll_mk1 (shut_bool Tryd.underlying4 _), (trodAll_cons_mk (shut_band _ _ _ _ w0 w1 w2 w3 w4) trodAll_mk0), rfl, bel.frame _, fun h => by cases h⟩
theorem over : Rows.tillReflectsRow.holds Tryd.pinned (OpenSpec.ofChange Rows.tillReflectsSpec) :=
  OpenClaim.holds_of_wide 13 Tryd.f13 rfl rfl rfl rfl rfl rfl rfl ⟨rfl, rfl, rfl, rfl, rfl⟩ rfl rfl rfl rfl rfl (by kernel_rfl) Tryd.func13 (by kernel_rfl)
    (of_decide_eq_true (by kernel_rfl)) (by unfold Func.isWrapper; first | (rw [if_pos (by decide +kernel)]; kernel_rfl) | (rw [if_neg (by decide +kernel)]; exact ⟨rfl, rfl⟩))
    (fun os started H enc _ => lifted os started H enc)
theorem proved : Rows.TillReflectsCardSaid :=
  Claim7.holds_tied_plain_at .later [] [.data, .pinned] true (true, "beca19dee12693aa1c3767bd58f186dd076d0d308b2e624e82c15273f055620d") false
    over (fun _ h => by cases h) (by kernel_rfl) (fun _ h => by cases h) tillReflects_row_tie rfl ⟨rfl, rfl⟩ (by kernel_rfl) rfl
    (fun f fn hf hfn => by
      obtain rfl : f = 13 := Option.some.inj ((show Tryd.prog.funcNamed "pomade/pomadelaw09.TillReflects" = some 13 by kernel_rfl).symm.trans hf) |>.symm
      obtain rfl : fn = Tryd.f13 := (Option.some.inj (Tryd.func13.symm.trans hfn)).symm
      exact ⟨by kernel_rfl, fun j t ht => by
          rw [Tryd.params13] at ht
          rcases j with _ | j
          · obtain rfl : t = 46 := by simpa using ht.symm
            exact (show Tryd.prog.wantsStandIn 46 = false by kernel_rfl)
          · simp at ht
      ⟩)
    (by kernel_rfl)
#print axioms proved
end Go.Proofs.YtnjimbgfafkogaaDoor.tillReflects
namespace Go.Proofs.YtnjimbgfafkogaaDoor
/-- The row, under a short name, for the claim. -/
theorem tillReflects_holds : Rows.TillReflectsCardSaid := tillReflects.proved
end Go.Proofs.YtnjimbgfafkogaaDoor
