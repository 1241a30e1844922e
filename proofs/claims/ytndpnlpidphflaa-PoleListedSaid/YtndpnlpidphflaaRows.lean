/-
  No cell of these rows narrows 'for every input' (looked for: loops, veiled, ifaces, maps, wideKeys, modest, calm, conditions, laid).
  DERIVED. THE GIVEN ROWS OF THIS SEAT. 13 by the template 'for every input the law returns true; each argument reads behind the call as it read before'; 0 by the template 'total and deterministic' (their statements: YtndpnlpidphflaaTotals.lean).
  GIVEN WITH THE SEED: the statements are not yours to turn. If you find one false, say at which input.
  Laid BY PROGRAM, IN A SANDBOX (cutbox-rows.mjs): the forced cells as the released guide's own fill.sh prints them over the translation 8d376c152ea8ffd9… (all of the seat's roots in one cut). By AI agents, Wed Nov 11 2026. No macro, syntax, notation, axiom, sorry.
-/
import Derived.Test.YtndpnlpidphflaaChecked
import GoSem.Claim
import GoSem.ClaimJoined
import GoSem.ClaimMapViews
import Derived.JoinedTies
import Derived.KernelRfl
namespace Go.Proofs.Ytndpnlpidphflaa
/- THE CELL 'sum', in the pinned program and in every row, IS THE sha256 OF THE DUMP (.gsa) THAT YtndpnlpidphflaaProg.lean LOADS. Nothing in Lean hashes anything: it is a label: what it is worth is what the hold of that sum in a sandbox is worth. -/
noncomputable def Try.pinned : Pinned := { name := "ytndpnlpidphflaa", sum := "8d376c152ea8ffd9652f17ab18bffed8412e34389919b40dd8552218db54c0f2", checked := Try.checked }
namespace Rows
def none {H : Type} : Left H := { results := [], args := [] }

/-- 'pomadelaw06.PoleAt': WHATEVER THE INPUT: true; the input reads as it did. -/
def poleAtSpec : ChangeSpec := { name := "poleAt", fn := fun _ => fun
  | [d1, d2, d3] => { results := [.lit (.bool true)], args := [d1, d2, d3] }
  | _ => none }
def poleAtRow : OpenClaim := { program := "ytndpnlpidphflaa", sum := "8d376c152ea8ffd9652f17ab18bffed8412e34389919b40dd8552218db54c0f2", func := "pomade/pomadelaw06.PoleAt", spec := "poleAt", unfollowed := true, recurses := true, apart := false }
def PoleAtSaid : Prop := poleAtRow.holds Try.pinned (OpenSpec.ofChange poleAtSpec)

/-- ITS FALSE NEIGHBOUR: 'it returns false'. Refute it at one input. -/
def poleAtWrong : ChangeSpec := { name := "poleAt", fn := fun _ => fun
  | [d1, d2, d3] => { results := [.lit (.bool false)], args := [d1, d2, d3] }
  | _ => none }
def PoleAtWrongFalsely : Prop := poleAtRow.holds Try.pinned (OpenSpec.ofChange poleAtWrong)

/-- 'pomadelaw06.PoleHalves': WHATEVER THE INPUT: true; the input reads as it did. -/
def poleHalvesSpec : ChangeSpec := { name := "poleHalves", fn := fun _ => fun
  | [d] => { results := [.lit (.bool true)], args := [d] }
  | _ => none }
def poleHalvesRow : OpenClaim := { program := "ytndpnlpidphflaa", sum := "8d376c152ea8ffd9652f17ab18bffed8412e34389919b40dd8552218db54c0f2", func := "pomade/pomadelaw06.PoleHalves", spec := "poleHalves", unfollowed := true, recurses := true, apart := false }
def PoleHalvesSaid : Prop := poleHalvesRow.holds Try.pinned (OpenSpec.ofChange poleHalvesSpec)

/-- ITS FALSE NEIGHBOUR: 'it returns false'. Refute it at one input. -/
def poleHalvesWrong : ChangeSpec := { name := "poleHalves", fn := fun _ => fun
  | [d] => { results := [.lit (.bool false)], args := [d] }
  | _ => none }
def PoleHalvesWrongFalsely : Prop := poleHalvesRow.holds Try.pinned (OpenSpec.ofChange poleHalvesWrong)

/-- 'pomadelaw06.PoleRecurs': WHATEVER THE INPUT: true; the input reads as it did. -/
def poleRecursSpec : ChangeSpec := { name := "poleRecurs", fn := fun _ => fun
  | [d1, d2, d3] => { results := [.lit (.bool true)], args := [d1, d2, d3] }
  | _ => none }
def poleRecursRow : OpenClaim := { program := "ytndpnlpidphflaa", sum := "8d376c152ea8ffd9652f17ab18bffed8412e34389919b40dd8552218db54c0f2", func := "pomade/pomadelaw06.PoleRecurs", spec := "poleRecurs", unfollowed := true, recurses := true, apart := false }
def PoleRecursSaid : Prop := poleRecursRow.holds Try.pinned (OpenSpec.ofChange poleRecursSpec)

/-- ITS FALSE NEIGHBOUR: 'it returns false'. Refute it at one input. -/
def poleRecursWrong : ChangeSpec := { name := "poleRecurs", fn := fun _ => fun
  | [d1, d2, d3] => { results := [.lit (.bool false)], args := [d1, d2, d3] }
  | _ => none }
def PoleRecursWrongFalsely : Prop := poleRecursRow.holds Try.pinned (OpenSpec.ofChange poleRecursWrong)

/-- 'pomadelaw06.PoleTwo': WHATEVER THE INPUT: true; the input reads as it did. -/
def poleTwoSpec : ChangeSpec := { name := "poleTwo", fn := fun _ => fun
  | [d] => { results := [.lit (.bool true)], args := [d] }
  | _ => none }
def poleTwoRow : OpenClaim := { program := "ytndpnlpidphflaa", sum := "8d376c152ea8ffd9652f17ab18bffed8412e34389919b40dd8552218db54c0f2", func := "pomade/pomadelaw06.PoleTwo", spec := "poleTwo", unfollowed := true, recurses := true, apart := false }
def PoleTwoSaid : Prop := poleTwoRow.holds Try.pinned (OpenSpec.ofChange poleTwoSpec)

/-- ITS FALSE NEIGHBOUR: 'it returns false'. Refute it at one input. -/
def poleTwoWrong : ChangeSpec := { name := "poleTwo", fn := fun _ => fun
  | [d] => { results := [.lit (.bool false)], args := [d] }
  | _ => none }
def PoleTwoWrongFalsely : Prop := poleTwoRow.holds Try.pinned (OpenSpec.ofChange poleTwoWrong)

/-- 'pomadelaw06.PolePeriods': WHATEVER THE INPUT: true; the input reads as it did. -/
def polePeriodsSpec : ChangeSpec := { name := "polePeriods", fn := fun _ => fun
  | [d1, d2] => { results := [.lit (.bool true)], args := [d1, d2] }
  | _ => none }
def polePeriodsRow : OpenClaim := { program := "ytndpnlpidphflaa", sum := "8d376c152ea8ffd9652f17ab18bffed8412e34389919b40dd8552218db54c0f2", func := "pomade/pomadelaw06.PolePeriods", spec := "polePeriods", unfollowed := true, recurses := true, apart := false }
def PolePeriodsSaid : Prop := polePeriodsRow.holds Try.pinned (OpenSpec.ofChange polePeriodsSpec)

/-- ITS FALSE NEIGHBOUR: 'it returns false'. Refute it at one input. -/
def polePeriodsWrong : ChangeSpec := { name := "polePeriods", fn := fun _ => fun
  | [d1, d2] => { results := [.lit (.bool false)], args := [d1, d2] }
  | _ => none }
def PolePeriodsWrongFalsely : Prop := polePeriodsRow.holds Try.pinned (OpenSpec.ofChange polePeriodsWrong)

/-- 'pomadelaw06.PoleMirrored': WHATEVER THE INPUT: true; the input reads as it did. -/
def poleMirroredSpec : ChangeSpec := { name := "poleMirrored", fn := fun _ => fun
  | [d1, d2] => { results := [.lit (.bool true)], args := [d1, d2] }
  | _ => none }
def poleMirroredRow : OpenClaim := { program := "ytndpnlpidphflaa", sum := "8d376c152ea8ffd9652f17ab18bffed8412e34389919b40dd8552218db54c0f2", func := "pomade/pomadelaw06.PoleMirrored", spec := "poleMirrored", unfollowed := true, recurses := true, apart := false }
def PoleMirroredSaid : Prop := poleMirroredRow.holds Try.pinned (OpenSpec.ofChange poleMirroredSpec)

/-- ITS FALSE NEIGHBOUR: 'it returns false'. Refute it at one input. -/
def poleMirroredWrong : ChangeSpec := { name := "poleMirrored", fn := fun _ => fun
  | [d1, d2] => { results := [.lit (.bool false)], args := [d1, d2] }
  | _ => none }
def PoleMirroredWrongFalsely : Prop := poleMirroredRow.holds Try.pinned (OpenSpec.ofChange poleMirroredWrong)

/-- 'pomadelaw06.PoleSaved': WHATEVER THE INPUT: true; the input reads as it did. -/
def poleSavedSpec : ChangeSpec := { name := "poleSaved", fn := fun _ => fun
  | [d1, d2] => { results := [.lit (.bool true)], args := [d1, d2] }
  | _ => none }
def poleSavedRow : OpenClaim := { program := "ytndpnlpidphflaa", sum := "8d376c152ea8ffd9652f17ab18bffed8412e34389919b40dd8552218db54c0f2", func := "pomade/pomadelaw06.PoleSaved", spec := "poleSaved", unfollowed := true, recurses := true, apart := false }
def PoleSavedSaid : Prop := poleSavedRow.holds Try.pinned (OpenSpec.ofChange poleSavedSpec)

/-- ITS FALSE NEIGHBOUR: 'it returns false'. Refute it at one input. -/
def poleSavedWrong : ChangeSpec := { name := "poleSaved", fn := fun _ => fun
  | [d1, d2] => { results := [.lit (.bool false)], args := [d1, d2] }
  | _ => none }
def PoleSavedWrongFalsely : Prop := poleSavedRow.holds Try.pinned (OpenSpec.ofChange poleSavedWrong)

/-- 'pomadelaw06.PoleTurns': WHATEVER THE INPUT: true; the input reads as it did. -/
def poleTurnsSpec : ChangeSpec := { name := "poleTurns", fn := fun _ => fun
  | [d1, d2, d3] => { results := [.lit (.bool true)], args := [d1, d2, d3] }
  | _ => none }
def poleTurnsRow : OpenClaim := { program := "ytndpnlpidphflaa", sum := "8d376c152ea8ffd9652f17ab18bffed8412e34389919b40dd8552218db54c0f2", func := "pomade/pomadelaw06.PoleTurns", spec := "poleTurns", unfollowed := true, recurses := true, apart := false }
def PoleTurnsSaid : Prop := poleTurnsRow.holds Try.pinned (OpenSpec.ofChange poleTurnsSpec)

/-- ITS FALSE NEIGHBOUR: 'it returns false'. Refute it at one input. -/
def poleTurnsWrong : ChangeSpec := { name := "poleTurns", fn := fun _ => fun
  | [d1, d2, d3] => { results := [.lit (.bool false)], args := [d1, d2, d3] }
  | _ => none }
def PoleTurnsWrongFalsely : Prop := poleTurnsRow.holds Try.pinned (OpenSpec.ofChange poleTurnsWrong)

/-- 'pomadelaw06.PoleBack': WHATEVER THE INPUT: true; the input reads as it did. -/
def poleBackSpec : ChangeSpec := { name := "poleBack", fn := fun _ => fun
  | [d1, d2, d3, d4] => { results := [.lit (.bool true)], args := [d1, d2, d3, d4] }
  | _ => none }
def poleBackRow : OpenClaim := { program := "ytndpnlpidphflaa", sum := "8d376c152ea8ffd9652f17ab18bffed8412e34389919b40dd8552218db54c0f2", func := "pomade/pomadelaw06.PoleBack", spec := "poleBack", unfollowed := true, recurses := true, apart := false }
def PoleBackSaid : Prop := poleBackRow.holds Try.pinned (OpenSpec.ofChange poleBackSpec)

/-- ITS FALSE NEIGHBOUR: 'it returns false'. Refute it at one input. -/
def poleBackWrong : ChangeSpec := { name := "poleBack", fn := fun _ => fun
  | [d1, d2, d3, d4] => { results := [.lit (.bool false)], args := [d1, d2, d3, d4] }
  | _ => none }
def PoleBackWrongFalsely : Prop := poleBackRow.holds Try.pinned (OpenSpec.ofChange poleBackWrong)

/-- 'pomadelaw06.PoleBegins': WHATEVER THE INPUT: true; the input reads as it did. -/
def poleBeginsSpec : ChangeSpec := { name := "poleBegins", fn := fun _ => fun
  | [d1, d2, d3, d4] => { results := [.lit (.bool true)], args := [d1, d2, d3, d4] }
  | _ => none }
def poleBeginsRow : OpenClaim := { program := "ytndpnlpidphflaa", sum := "8d376c152ea8ffd9652f17ab18bffed8412e34389919b40dd8552218db54c0f2", func := "pomade/pomadelaw06.PoleBegins", spec := "poleBegins", unfollowed := true, recurses := true, apart := false }
def PoleBeginsSaid : Prop := poleBeginsRow.holds Try.pinned (OpenSpec.ofChange poleBeginsSpec)

/-- ITS FALSE NEIGHBOUR: 'it returns false'. Refute it at one input. -/
def poleBeginsWrong : ChangeSpec := { name := "poleBegins", fn := fun _ => fun
  | [d1, d2, d3, d4] => { results := [.lit (.bool false)], args := [d1, d2, d3, d4] }
  | _ => none }
def PoleBeginsWrongFalsely : Prop := poleBeginsRow.holds Try.pinned (OpenSpec.ofChange poleBeginsWrong)

/-- 'pomadelaw06.PoleSteps': WHATEVER THE INPUT: true; the input reads as it did. -/
def poleStepsSpec : ChangeSpec := { name := "poleSteps", fn := fun _ => fun
  | [d1, d2, d3] => { results := [.lit (.bool true)], args := [d1, d2, d3] }
  | _ => none }
def poleStepsRow : OpenClaim := { program := "ytndpnlpidphflaa", sum := "8d376c152ea8ffd9652f17ab18bffed8412e34389919b40dd8552218db54c0f2", func := "pomade/pomadelaw06.PoleSteps", spec := "poleSteps", unfollowed := true, recurses := true, apart := false }
def PoleStepsSaid : Prop := poleStepsRow.holds Try.pinned (OpenSpec.ofChange poleStepsSpec)

/-- ITS FALSE NEIGHBOUR: 'it returns false'. Refute it at one input. -/
def poleStepsWrong : ChangeSpec := { name := "poleSteps", fn := fun _ => fun
  | [d1, d2, d3] => { results := [.lit (.bool false)], args := [d1, d2, d3] }
  | _ => none }
def PoleStepsWrongFalsely : Prop := poleStepsRow.holds Try.pinned (OpenSpec.ofChange poleStepsWrong)

/-- 'pomadelaw06.PoleOrders': WHATEVER THE INPUT: true; the input reads as it did. -/
def poleOrdersSpec : ChangeSpec := { name := "poleOrders", fn := fun _ => fun
  | [d1, d2] => { results := [.lit (.bool true)], args := [d1, d2] }
  | _ => none }
def poleOrdersRow : OpenClaim := { program := "ytndpnlpidphflaa", sum := "8d376c152ea8ffd9652f17ab18bffed8412e34389919b40dd8552218db54c0f2", func := "pomade/pomadelaw06.PoleOrders", spec := "poleOrders", unfollowed := true, recurses := true, apart := false }
def PoleOrdersSaid : Prop := poleOrdersRow.holds Try.pinned (OpenSpec.ofChange poleOrdersSpec)

/-- ITS FALSE NEIGHBOUR: 'it returns false'. Refute it at one input. -/
def poleOrdersWrong : ChangeSpec := { name := "poleOrders", fn := fun _ => fun
  | [d1, d2] => { results := [.lit (.bool false)], args := [d1, d2] }
  | _ => none }
def PoleOrdersWrongFalsely : Prop := poleOrdersRow.holds Try.pinned (OpenSpec.ofChange poleOrdersWrong)

/-- 'pomadelaw06.PoleListed': WHATEVER THE INPUT: true; the input reads as it did. -/
def poleListedSpec : ChangeSpec := { name := "poleListed", fn := fun _ => fun
  | [d1, d2, d3] => { results := [.lit (.bool true)], args := [d1, d2, d3] }
  | _ => none }
def poleListedRow : OpenClaim := { program := "ytndpnlpidphflaa", sum := "8d376c152ea8ffd9652f17ab18bffed8412e34389919b40dd8552218db54c0f2", func := "pomade/pomadelaw06.PoleListed", spec := "poleListed", unfollowed := true, recurses := true, apart := false }
def PoleListedSaid : Prop := poleListedRow.holds Try.pinned (OpenSpec.ofChange poleListedSpec)

/-- ITS FALSE NEIGHBOUR: 'it returns false'. Refute it at one input. -/
def poleListedWrong : ChangeSpec := { name := "poleListed", fn := fun _ => fun
  | [d1, d2, d3] => { results := [.lit (.bool false)], args := [d1, d2, d3] }
  | _ => none }
def PoleListedWrongFalsely : Prop := poleListedRow.holds Try.pinned (OpenSpec.ofChange poleListedWrong)

/- THE SECOND FORM. 'bulk': how many values and letters a reading holds, each counted each time it is reached (what is shared counts as often as it is met; a slice's spare places count too). A statement '..UptoSaid' is the law's where the arguments, and the package variables that the reading takes, are together of bulk at most 1048576: NARROWER than '..Said'. Prove '..Said' where nothing that the law and all that it calls make is longer than what came in: it says more and counts as full. Else prove '..UptoSaid'. A law counts once. -/
mutual
def uptoBulk {H : Type} : DataW H → Nat
  | .lit (.string bytes) => bytes.length + 1
  | .lit _ => 1
  | .nil => 1
  | .ptr d => uptoBulk d + 1
  | .slice elems spare => uptoBulkAll elems + uptoBulkAll spare + 1
  | .agg parts => uptoBulkAll parts + 1
  | .iface _ d => uptoBulk d + 1
  | .map entries => uptoBulkEntries entries + 1
  | .held _ => 1
def uptoBulkAll {H : Type} : List (DataW H) → Nat
  | [] => 0
  | d :: r => uptoBulk d + uptoBulkAll r
def uptoBulkEntries {H : Type} : List (Lit × DataW H) → Nat
  | [] => 0
  | x :: r => uptoBulkEntry x + uptoBulkEntries r
def uptoBulkEntry {H : Type} : Lit × DataW H → Nat
  | (.string bytes, d) => bytes.length + uptoBulk d + 1
  | (_, d) => uptoBulk d + 1
 end
def uptoSmall : (H : Type) → List (DataW H) → Bool := fun _ ds => decide (uptoBulkAll ds ≤ 1048576)
def OpenSpec.upto (s : _root_.Go.ChangeSpec) : _root_.Go.OpenSpec := { _root_.Go.OpenSpec.ofChange s with cond := some uptoSmall }

/-- 'pomadelaw06.PoleAt', WHERE WHAT IT READS IS OF BULK AT MOST 1048576: true; the input reads as it did. -/
def poleAtUptoRow : OpenClaim := { program := "ytndpnlpidphflaa", sum := "8d376c152ea8ffd9652f17ab18bffed8412e34389919b40dd8552218db54c0f2", func := "pomade/pomadelaw06.PoleAt", spec := "poleAt", unfollowed := true, recurses := true, apart := false, narrowed := true }
def PoleAtUptoSaid : Prop := poleAtUptoRow.holds Try.pinned (OpenSpec.upto poleAtSpec)

/-- 'pomadelaw06.PoleHalves', WHERE WHAT IT READS IS OF BULK AT MOST 1048576: true; the input reads as it did. -/
def poleHalvesUptoRow : OpenClaim := { program := "ytndpnlpidphflaa", sum := "8d376c152ea8ffd9652f17ab18bffed8412e34389919b40dd8552218db54c0f2", func := "pomade/pomadelaw06.PoleHalves", spec := "poleHalves", unfollowed := true, recurses := true, apart := false, narrowed := true }
def PoleHalvesUptoSaid : Prop := poleHalvesUptoRow.holds Try.pinned (OpenSpec.upto poleHalvesSpec)

/-- 'pomadelaw06.PoleRecurs', WHERE WHAT IT READS IS OF BULK AT MOST 1048576: true; the input reads as it did. -/
def poleRecursUptoRow : OpenClaim := { program := "ytndpnlpidphflaa", sum := "8d376c152ea8ffd9652f17ab18bffed8412e34389919b40dd8552218db54c0f2", func := "pomade/pomadelaw06.PoleRecurs", spec := "poleRecurs", unfollowed := true, recurses := true, apart := false, narrowed := true }
def PoleRecursUptoSaid : Prop := poleRecursUptoRow.holds Try.pinned (OpenSpec.upto poleRecursSpec)

/-- 'pomadelaw06.PoleTwo', WHERE WHAT IT READS IS OF BULK AT MOST 1048576: true; the input reads as it did. -/
def poleTwoUptoRow : OpenClaim := { program := "ytndpnlpidphflaa", sum := "8d376c152ea8ffd9652f17ab18bffed8412e34389919b40dd8552218db54c0f2", func := "pomade/pomadelaw06.PoleTwo", spec := "poleTwo", unfollowed := true, recurses := true, apart := false, narrowed := true }
def PoleTwoUptoSaid : Prop := poleTwoUptoRow.holds Try.pinned (OpenSpec.upto poleTwoSpec)

/-- 'pomadelaw06.PolePeriods', WHERE WHAT IT READS IS OF BULK AT MOST 1048576: true; the input reads as it did. -/
def polePeriodsUptoRow : OpenClaim := { program := "ytndpnlpidphflaa", sum := "8d376c152ea8ffd9652f17ab18bffed8412e34389919b40dd8552218db54c0f2", func := "pomade/pomadelaw06.PolePeriods", spec := "polePeriods", unfollowed := true, recurses := true, apart := false, narrowed := true }
def PolePeriodsUptoSaid : Prop := polePeriodsUptoRow.holds Try.pinned (OpenSpec.upto polePeriodsSpec)

/-- 'pomadelaw06.PoleMirrored', WHERE WHAT IT READS IS OF BULK AT MOST 1048576: true; the input reads as it did. -/
def poleMirroredUptoRow : OpenClaim := { program := "ytndpnlpidphflaa", sum := "8d376c152ea8ffd9652f17ab18bffed8412e34389919b40dd8552218db54c0f2", func := "pomade/pomadelaw06.PoleMirrored", spec := "poleMirrored", unfollowed := true, recurses := true, apart := false, narrowed := true }
def PoleMirroredUptoSaid : Prop := poleMirroredUptoRow.holds Try.pinned (OpenSpec.upto poleMirroredSpec)

/-- 'pomadelaw06.PoleSaved', WHERE WHAT IT READS IS OF BULK AT MOST 1048576: true; the input reads as it did. -/
def poleSavedUptoRow : OpenClaim := { program := "ytndpnlpidphflaa", sum := "8d376c152ea8ffd9652f17ab18bffed8412e34389919b40dd8552218db54c0f2", func := "pomade/pomadelaw06.PoleSaved", spec := "poleSaved", unfollowed := true, recurses := true, apart := false, narrowed := true }
def PoleSavedUptoSaid : Prop := poleSavedUptoRow.holds Try.pinned (OpenSpec.upto poleSavedSpec)

/-- 'pomadelaw06.PoleTurns', WHERE WHAT IT READS IS OF BULK AT MOST 1048576: true; the input reads as it did. -/
def poleTurnsUptoRow : OpenClaim := { program := "ytndpnlpidphflaa", sum := "8d376c152ea8ffd9652f17ab18bffed8412e34389919b40dd8552218db54c0f2", func := "pomade/pomadelaw06.PoleTurns", spec := "poleTurns", unfollowed := true, recurses := true, apart := false, narrowed := true }
def PoleTurnsUptoSaid : Prop := poleTurnsUptoRow.holds Try.pinned (OpenSpec.upto poleTurnsSpec)

/-- 'pomadelaw06.PoleBack', WHERE WHAT IT READS IS OF BULK AT MOST 1048576: true; the input reads as it did. -/
def poleBackUptoRow : OpenClaim := { program := "ytndpnlpidphflaa", sum := "8d376c152ea8ffd9652f17ab18bffed8412e34389919b40dd8552218db54c0f2", func := "pomade/pomadelaw06.PoleBack", spec := "poleBack", unfollowed := true, recurses := true, apart := false, narrowed := true }
def PoleBackUptoSaid : Prop := poleBackUptoRow.holds Try.pinned (OpenSpec.upto poleBackSpec)

/-- 'pomadelaw06.PoleBegins', WHERE WHAT IT READS IS OF BULK AT MOST 1048576: true; the input reads as it did. -/
def poleBeginsUptoRow : OpenClaim := { program := "ytndpnlpidphflaa", sum := "8d376c152ea8ffd9652f17ab18bffed8412e34389919b40dd8552218db54c0f2", func := "pomade/pomadelaw06.PoleBegins", spec := "poleBegins", unfollowed := true, recurses := true, apart := false, narrowed := true }
def PoleBeginsUptoSaid : Prop := poleBeginsUptoRow.holds Try.pinned (OpenSpec.upto poleBeginsSpec)

/-- 'pomadelaw06.PoleSteps', WHERE WHAT IT READS IS OF BULK AT MOST 1048576: true; the input reads as it did. -/
def poleStepsUptoRow : OpenClaim := { program := "ytndpnlpidphflaa", sum := "8d376c152ea8ffd9652f17ab18bffed8412e34389919b40dd8552218db54c0f2", func := "pomade/pomadelaw06.PoleSteps", spec := "poleSteps", unfollowed := true, recurses := true, apart := false, narrowed := true }
def PoleStepsUptoSaid : Prop := poleStepsUptoRow.holds Try.pinned (OpenSpec.upto poleStepsSpec)

/-- 'pomadelaw06.PoleOrders', WHERE WHAT IT READS IS OF BULK AT MOST 1048576: true; the input reads as it did. -/
def poleOrdersUptoRow : OpenClaim := { program := "ytndpnlpidphflaa", sum := "8d376c152ea8ffd9652f17ab18bffed8412e34389919b40dd8552218db54c0f2", func := "pomade/pomadelaw06.PoleOrders", spec := "poleOrders", unfollowed := true, recurses := true, apart := false, narrowed := true }
def PoleOrdersUptoSaid : Prop := poleOrdersUptoRow.holds Try.pinned (OpenSpec.upto poleOrdersSpec)

/-- 'pomadelaw06.PoleListed', WHERE WHAT IT READS IS OF BULK AT MOST 1048576: true; the input reads as it did. -/
def poleListedUptoRow : OpenClaim := { program := "ytndpnlpidphflaa", sum := "8d376c152ea8ffd9652f17ab18bffed8412e34389919b40dd8552218db54c0f2", func := "pomade/pomadelaw06.PoleListed", spec := "poleListed", unfollowed := true, recurses := true, apart := false, narrowed := true }
def PoleListedUptoSaid : Prop := poleListedUptoRow.holds Try.pinned (OpenSpec.upto poleListedSpec)

end Rows
end Go.Proofs.Ytndpnlpidphflaa
