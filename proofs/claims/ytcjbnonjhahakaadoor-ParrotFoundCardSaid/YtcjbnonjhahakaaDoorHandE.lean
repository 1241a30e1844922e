import Derived.Test.YtcjbnonjhahakaaDoorProg
import Derived.Below
import Derived.Deep.Draws
import Derived.Deep.AppendLies
import Derived.Maps.AppendAt
import Derived.OwnWalk
import Derived.Laws.BytesArg
import Derived.Laws.MakeOwn
import Derived.Laws.OwnMore
import Derived.Deep.OwnRows
import Derived.Tactics
import Derived.Lib.ConvBytes
import Derived.Laws.Slices
import Derived.WalkKit
import Derived.KernelRfl
import Derived.RowKit3
import Derived.Deep.LoopGhost
import Derived.Deep.QuietTactic
import Derived.BigQuiet
import Derived.WideLaws
import Derived.Deep.DeepCutAuto
import Derived.Deep.CutBlock
import Derived.Deep.RegionHeld3
import Derived.Laws.Rows
import Derived.Lib.AppendStr
import Derived.ArgAppend
import Derived.Laws.IdiomCopy
import Derived.OrdersHeld
import Derived.Laws.BitsLemmas
import Derived.RowKit
import Derived.Test.YtcjbnonjhahakaaDoorWWords
import Derived.Test.YtcjbnonjhahakaaDoorWLast
import Derived.Test.YtcjbnonjhahakaaDoorWTab
import Derived.Test.YtcjbnonjhahakaaDoorWFour
import Derived.Test.YtcjbnonjhahakaaDoorWQPut
import Derived.Test.YtcjbnonjhahakaaDoorWApart
import Derived.Test.YtcjbnonjhahakaaDoorWArr
import Derived.Test.YtcjbnonjhahakaaDoorWZeros
import Derived.Test.YtcjbnonjhahakaaDoorWFoot
import Derived.Test.YtcjbnonjhahakaaDoorWKept
import Derived.Test.YtcjbnonjhahakaaDoorWShare
import Derived.Test.YtcjbnonjhahakaaDoorWN
import Derived.Test.YtcjbnonjhahakaaDoorWFootNe
import Derived.Test.YtcjbnonjhahakaaDoorWAt
import Derived.Test.YtcjbnonjhahakaaDoorWEqStruct
import Derived.Test.YtcjbnonjhahakaaDoorWRepsOne
import Derived.Test.YtcjbnonjhahakaaDoorWInv
import Derived.Test.YtcjbnonjhahakaaDoorWInvWords
import Derived.Test.YtcjbnonjhahakaaDoorWGuard
import Derived.Test.YtcjbnonjhahakaaDoorWNEv
import Derived.Test.YtcjbnonjhahakaaDoorWMore
import Derived.Test.YtcjbnonjhahakaaDoorHandB
import Derived.Test.YtcjbnonjhahakaaDoorRows
import Derived.LaidMore
import Derived.OpenShut
import Derived.Deep.Strs
import Derived.Deep.DeepLaidRun
import Derived.ChangeAt
import Derived.Stop.Joined
namespace Go.Proofs.YtcjbnonjhahakaaDoor.Hand
open Go.RowKit Go.Proofs.YtcjbnonjhahakaaDoorW.PrintWords Go.Proofs.YtcjbnonjhahakaaDoorW.PrintLast Go.Proofs.YtcjbnonjhahakaaDoorW.PrintMore
set_option linter.unusedVariables false
set_option linter.unusedSimpArgs false

/-! What start-up lays, read for the walks; and the world in which the listed variables lie so. -/
open Go.Maps Go.WideMaps Go.WideElems Go.Proofs.YtcjbnonjhahakaaDoor.Math
theorem gOps : Tryd.prog.globalNamed "pomade/parrot.operations" = some 0 := by kernel_rfl
theorem tOps : (Tryd.prog.globals[0]?).map (·.type) = some 55 := by kernel_rfl
theorem cells54 : Tryd.prog.cellsOf 54 = 3 := by kernel_rfl
theorem cells50 : Tryd.prog.cellsOf 50 = 1 := by kernel_rfl
theorem cells51 : Tryd.prog.cellsOf 51 = 1 := by kernel_rfl
theorem cells52 : Tryd.prog.cellsOf 52 = 1 := by kernel_rfl
def opsIn : DataW Unit := match (Rows.laid_pomade_parrot_operations : DataW Unit) with
  | .iface _ d => d
  | d => d
theorem opsIn_is : (Rows.laid_pomade_parrot_operations : DataW Unit) = .iface "func table" opsIn := rfl
theorem opsIn_out : opsIn.funcsOut = opsD := by kernel_rfl
theorem one_of {c : UInt8} (hc : isOp c = true) {W : World} {fuel : Nat} {v : Value} {q q2 q3 : List MemPlace} {v2 v3 : Value}
    (h1 : DataW.trod (funcToken Tryd.prog) Tryd.prog W 0 (fun _ => true) true fuel 50 [v] = some (.held (nA c), q))
    (h2 : DataW.trod (funcToken Tryd.prog) Tryd.prog W 0 (fun _ => true) true fuel 51 [v2] = some (.held (nL c), q2))
    (h3 : DataW.trod (funcToken Tryd.prog) Tryd.prog W 0 (fun _ => true) true fuel 52 [v3] = some (.held (nB c), q3)) :
    v = .func (.func (fA c)) #[] #[] ∧ v2 = .func (.func (fL c)) #[] #[] ∧ v3 = .func (.func (fB c)) #[] #[] := by
  rcases isOp_cases hc with rfl | rfl | rfl | rfl | rfl
  · exact ⟨func_of_trod (f0 := 124) Tryd.underlying50 (by kernel_rfl) h1, func_of_trod (f0 := 125) Tryd.underlying51 (by kernel_rfl) h2, func_of_trod (f0 := 126) Tryd.underlying52 (by kernel_rfl) h3⟩
  · exact ⟨func_of_trod (f0 := 44) Tryd.underlying50 (by kernel_rfl) h1, func_of_trod (f0 := 127) Tryd.underlying51 (by kernel_rfl) h2, func_of_trod (f0 := 128) Tryd.underlying52 (by kernel_rfl) h3⟩
  · exact ⟨func_of_trod (f0 := 129) Tryd.underlying50 (by kernel_rfl) h1, func_of_trod (f0 := 130) Tryd.underlying51 (by kernel_rfl) h2, func_of_trod (f0 := 131) Tryd.underlying52 (by kernel_rfl) h3⟩
  · exact ⟨func_of_trod (f0 := 132) Tryd.underlying50 (by kernel_rfl) h1, func_of_trod (f0 := 133) Tryd.underlying51 (by kernel_rfl) h2, func_of_trod (f0 := 134) Tryd.underlying52 (by kernel_rfl) h3⟩
  · exact ⟨func_of_trod (f0 := 135) Tryd.underlying50 (by kernel_rfl) h1, func_of_trod (f0 := 136) Tryd.underlying51 (by kernel_rfl) h2, func_of_trod (f0 := 137) Tryd.underlying52 (by kernel_rfl) h3⟩
set_option maxRecDepth 100000 in
theorem opVal_of {c : UInt8} (hc : isOp c = true) {W : World} {n : Nat} {v : Value} {ps : List MemPlace} (h : elemAt (funcToken Tryd.prog) Tryd.prog W 0 (fun _ => true) true n 54 v = some (opD c, ps)) : v = opVal c := by
  unfold elemAt at h
  split at h
  · rename_i hf
    obtain ⟨y0, y1, y2, m, hx, hl, h0, h1, h2⟩ := Go.Deep.trod_struct3 Tryd.underlying54 h
    rw [cells54] at hl
    dsimp only at h0 h1 h2
    rw [cells50] at h0
    rw [cells51] at h1
    rw [cells52] at h2
    unfold opD at hx
    simp only [Prod.mk.injEq, DataW.agg.injEq, List.cons.injEq, and_true] at hx
    obtain ⟨⟨e0, e1, e2⟩, _⟩ := hx
    cases v with
    | agg cs =>
      simp only [Value.cells] at hl h0 h1 h2
      obtain ⟨l⟩ := cs
      match l, hl, h0, h1, h2 with
      | [x, y, z], _, h0, h1, h2 =>
        have h0 : DataW.trod (funcToken Tryd.prog) Tryd.prog W 0 (fun _ => true) true m 50 [x] = some y0 := h0
        have h1 : DataW.trod (funcToken Tryd.prog) Tryd.prog W 0 (fun _ => true) true m 51 [y] = some y1 := h1
        have h2 : DataW.trod (funcToken Tryd.prog) Tryd.prog W 0 (fun _ => true) true m 52 [z] = some y2 := h2
        obtain ⟨d0, q0⟩ := y0
        obtain ⟨d1, q1⟩ := y1
        obtain ⟨d2, q2⟩ := y2
        dsimp only at e0 e1 e2
        subst e0 e1 e2
        obtain ⟨rfl, rfl, rfl⟩ := one_of hc h0 h1 h2
        rfl
    | _ => simp [Value.formed, Tryd.underlying54] at hf
  · cases h
set_option maxRecDepth 100000 in
/-- The rows' condition gives the walks' hypothesis. -/
theorem ops_of_laid {l : List (String × DataW Unit)} (hm : ("pomade/parrot.operations", Rows.laid_pomade_parrot_operations) ∈ l) {W : World} (h : laidMetH Tryd.prog l W) : Ops W := by
  rw [opsIn_is] at hm
  obtain ⟨g, t, cs, fuel, p, hg, ht, hv, hd⟩ := h.funcs hm
  obtain rfl := Option.some.inj (gOps.symm.trans hg)
  obtain rfl := Option.some.inj (tOps.symm.trans ht)
  rw [opsIn_out] at hd
  rcases open_map Tryd.underlying55 hd with ⟨_, hx⟩ | ⟨bm, es, clock, m, rfl, hcs, hb, _, F, hx⟩
  · simp [opsD] at hx
  · simp only [Prod.mk.injEq] at hx
    have hcell : W.cell? ⟨0, 0, none⟩ = some (.map (some bm)) := by
      have := World.var?_cell hg hv 0
      rw [Array.eq_one_of_toList hcs] at this
      simpa using this
    exact ⟨bm, es, clock, _, hcell, hb, F, hx.1, fun c hc v ps hR => opVal_of hc hR⟩
/-- The heap that the door's own run leaves, and the pinned table put. -/
noncomputable def laidWorld (os : Os) : World :=
  let w0 := World.doorLaid Tryd.prog 54 os
  { w0 with heap := w0.heap.modify 2 fun
    | .cells _ t frozen => .cells (Go.Pinned.utf8FirstZ.map fun (z : Nat) => Value.int .u8 (z : Int)).toArray t frozen
    | o => o }
set_option maxRecDepth 100000 in
theorem laid_met (os : Os) (args : Array Value) : laidMetH Tryd.prog [("unicode/utf8.acceptRanges", Rows.laid_unicode_utf8_acceptRanges), ("pomade/parrot.operations", Rows.laid_pomade_parrot_operations), ("unicode/utf8.first", Rows.laid_unicode_utf8_first)] ((laidWorld os).forCall (fun _ _ => 0) ⟨#[], args, []⟩).memory :=
  laidMetH_of_parts3 (fuel := 10) (laidMet_of_run3 10 (by kernel_rfl) (by kernel_rfl) (by kernel_rfl)) (by kernel_rfl) (by kernel_rfl)

end Go.Proofs.YtcjbnonjhahakaaDoor.Hand
