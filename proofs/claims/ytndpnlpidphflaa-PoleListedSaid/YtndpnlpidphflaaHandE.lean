import Derived.Test.YtndpnlpidphflaaProg
import Derived.Below
import Derived.Deep.Draws
import Derived.Deep.AppendLies
import Derived.Maps.AppendAt
import Derived.OwnWalk
import Derived.Laws.BytesArg
import Derived.Laws.MakeOwn
import Derived.Laws.OwnMore
import Derived.Deep.OwnRows
import Derived.Tactics
import Derived.Lib.ConvBytes
import Derived.Laws.Slices
import Derived.WalkKit
import Derived.KernelRfl
import Derived.RowKit3
import Derived.Deep.LoopGhost
import Derived.Deep.QuietTactic
import Derived.BigQuiet
import Derived.WideLaws
import Derived.Deep.DeepCutAuto
import Derived.Deep.CutBlock
import Derived.Deep.RegionHeld3
import Derived.Laws.Rows
import Derived.Lib.AppendStr
import Derived.ArgAppend
import Derived.Laws.IdiomCopy
import Derived.OrdersHeld
import Derived.Laws.BitsLemmas
import Derived.RowKit
import Derived.Test.YtndpnlpidphflaaWWords
import Derived.Test.YtndpnlpidphflaaWLast
import Derived.Test.YtndpnlpidphflaaWTab
import Derived.Test.YtndpnlpidphflaaWFour
import Derived.Test.YtndpnlpidphflaaWQPut
import Derived.Test.YtndpnlpidphflaaWApart
import Derived.Test.YtndpnlpidphflaaWArr
import Derived.Test.YtndpnlpidphflaaWZeros
import Derived.Test.YtndpnlpidphflaaWFoot
import Derived.Test.YtndpnlpidphflaaWKept
import Derived.Test.YtndpnlpidphflaaWShare
import Derived.Test.YtndpnlpidphflaaWN
import Derived.Test.YtndpnlpidphflaaWFootNe
import Derived.Test.YtndpnlpidphflaaWAt
import Derived.Test.YtndpnlpidphflaaWEqStruct
import Derived.Test.YtndpnlpidphflaaWRepsOne
import Derived.Test.YtndpnlpidphflaaWInv
import Derived.Test.YtndpnlpidphflaaWInvWords
import Derived.Test.YtndpnlpidphflaaWGuard
import Derived.Test.YtndpnlpidphflaaWNEv
import Derived.Test.YtndpnlpidphflaaWMore
import Derived.Test.YtndpnlpidphflaaHandA
import Derived.Test.YtndpnlpidphflaaPre1
import Derived.Test.YtndpnlpidphflaaShelfB
import Derived.Laws.CopyOwn
namespace Go.Proofs.Ytndpnlpidphflaa.Hand
open Go.RowKit Go.Proofs.YtndpnlpidphflaaW.PrintWords Go.Proofs.YtndpnlpidphflaaW.PrintLast Go.Proofs.YtndpnlpidphflaaW.PrintMore
set_option linter.unusedVariables false
set_option linter.unusedSimpArgs false

open Go.Proofs.Ytndpnlpidphflaa.Pre

/-! Cycles, with a number of rounds. -/
def cyc1 : Nat → List Int → Int → Int → Option (List Int × Int)
  | 0, _, _, _ => none
  | k + 1, l, a, long => if 0 ≤ a ∧ a < l.length then (if rd l a ≥ 0 then cyc1 k (l.set a.toNat (-1)) (rd l a) (wrap64 (long + 1)) else some (l, long)) else none
def cyc0 : Nat → List Int → List Int → Int → Option (List Int)
  | 0, _, _, _ => none
  | k + 1, l, out, i => if i < l.length then (cyc1 k l i 0).bind fun q => (if q.2 > 0 then (if out.length < 1000000 then cyc0 k q.1 (out ++ [q.2]) (wrap64 (i + 1)) else none) else cyc0 k q.1 out (wrap64 (i + 1))) else some out

theorem cyc1_mono : ∀ k l a long, LeO (cyc1 k l a long) (cyc1 (k + 1) l a long)
  | 0, _, _, _ => fun r h => by simp [cyc1] at h
  | k + 1, l, a, long => by
    unfold cyc1
    exact LeO.ite (LeO.ite (cyc1_mono k _ _ _) (LeO.refl _)) (LeO.refl _)
theorem cyc0_mono : ∀ k l out i, LeO (cyc0 k l out i) (cyc0 (k + 1) l out i)
  | 0, _, _, _ => fun r h => by simp [cyc0] at h
  | k + 1, l, out, i => by
    unfold cyc0
    exact LeO.ite (LeO.bind (cyc1_mono k _ _ _) fun q => LeO.ite (LeO.ite (cyc0_mono k _ _ _) (LeO.refl _)) (cyc0_mono k _ _ _)) (LeO.refl _)

theorem cyc1_length : ∀ k l a long r, cyc1 k l a long = some r → r.1.length = l.length
  | 0, _, _, _, _, h => by simp [cyc1] at h
  | k + 1, l, a, long, r, h => by
    unfold cyc1 at h
    split at h
    · split at h
      · have := cyc1_length k _ _ _ _ h
        simpa using this
      · simp only [Option.some.injEq] at h; subst h; rfl
    · cases h

def sortI (l : List Int) : List Int := l.mergeSort fun x y => decide (x ≤ y)

def pole_Cycles.f (k : Nat) (a0 a1 : Int) : Option (List Int × Int) :=
  (pole_listed.f a0 a1).bind fun e => if e = 0 then (cyc0 k (jst a1 a0.toNat a0.toNat).1 [] 0).bind fun out => some (sortI out, 0) else some ([], e)
theorem pole_Cycles.mono : ∀ a0 a1 k, LeO (pole_Cycles.f k a0 a1) (pole_Cycles.f (k + 1) a0 a1) := by
  intro a0 a1 k
  unfold pole_Cycles.f
  exact LeO.bind (LeO.refl _) fun e => LeO.ite (LeO.bind (cyc0_mono k _ _ _) fun _ => LeO.refl _) (LeO.refl _)

/-- The walk's state: the row that is struck out, and what has been collected. -/
def CRel (w wr : World) (g : Nat) (l : List Int) (v : Value) (out : List Int) : Prop :=
  w.heap.size ≤ g ∧ wr.heap[g]? = some (.cells (nums .i64 l).toArray 3 (0, 0)) ∧ wr.ownsRow w.heap.size 3 1 v out.length (nums .i64 out) ∧ v.ownBlock ≠ some g ∧ Below w.heap.size w wr ∧ out.length ≤ 1000000

theorem crel_set {w wr : World} {g : Nat} {l : List Int} {v : Value} {out : List Int} (h : CRel w wr g l v out) (j : Nat) (x : Int) : CRel w (wr.setCell ⟨g, j, none⟩ (.int .i64 x)) g (l.set j x) v out := by
  obtain ⟨h1, h2, h3, h4, h5, h6⟩ := h
  refine ⟨h1, ?_, own_setCell h3 (fun e => h4 e.symm) _, h4, h5.setCell h1 _, h6⟩
  rw [blk_set h2]
  congr 2
  apply Array.ext'
  simp [nums, List.map_set]

end Go.Proofs.Ytndpnlpidphflaa.Hand
