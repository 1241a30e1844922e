/-
  NARROWER THAN 'FOR EVERY INPUT', by the rows' own cells (each row's printed sentence says how): TillRotations: laid · TillBallots: laid · TillMirrors: laid · TillMotzkin: laid · TillBertrand: laid · TillReflected: laid · TillSides: laid · TillArcs: laid · TillCatalan: laid · TillWithin: laid · TillReflects: laid · TillWalks: laid · TillChung: laid · TillAndersen: laid · TillAhead: laid.
  DERIVED. THE GIVEN ROWS OF THIS SEAT. 15 by the template 'for every input the law returns true; each argument reads behind the call as it read before'; 0 by the template 'total and deterministic' (their statements: YtnjimbgfafkogaaDoorTotals.lean).
  GIVEN WITH THE SEED: the statements are not yours to turn. If you find one false, say at which input.
  Laid BY PROGRAM, IN A SANDBOX (cutbox-rows.mjs): the forced cells as the released guide's own fill.sh prints them over the translation 94ab2e5b4b310169… (all of the seat's roots in one cut). By AI agents, Wed Nov 11 2026. No macro, syntax, notation, axiom, sorry.
-/
import Derived.Test.YtnjimbgfafkogaaDoorChecked
import GoSem.PinnedTables
import GoSem.Claim
import GoSem.ClaimJoined
import GoSem.ClaimMapViews
import Derived.JoinedTies
import Derived.KernelRfl
namespace Go.Proofs.YtnjimbgfafkogaaDoor
/- THE CELL 'sum', in the pinned program and in every row, IS THE sha256 OF THE DUMP (.gsa) THAT YtnjimbgfafkogaaDoorProg.lean LOADS. Nothing in Lean hashes anything: it is a label: what it is worth is what the hold of that sum in a sandbox is worth. -/
noncomputable def Tryd.pinned : Pinned := { name := "ytnjimbgfafkogaadoor", sum := "94ab2e5b4b3101693a862725bfebbefa84fe028f5ae83d043fcfab6e17fbaa9f", checked := Tryd.checked }
namespace Rows
def none {H : Type} : Left H := { results := [], args := [] }

/- WHAT THE LISTED PACKAGE-LEVEL VARIABLES READ AS WHEN THE CALL BEGINS. Each datum BY PROGRAM (the guide's laid-datum.mjs) off the statement by which the dump's own 'gosem.cut.vars' lays the variable. In a bare row this is a premise. The card (YtnjimbgfafkogaaDoorCards.lean) ties it to the program's text. -/
def laid_unicode_utf8_acceptRanges {H : Type} : DataW H := .agg [.agg [.lit (.int .u8 128), .lit (.int .u8 191)], .agg [.lit (.int .u8 160), .lit (.int .u8 191)], .agg [.lit (.int .u8 128), .lit (.int .u8 159)], .agg [.lit (.int .u8 144), .lit (.int .u8 191)], .agg [.lit (.int .u8 128), .lit (.int .u8 143)], .agg [.lit (.int .u8 0), .lit (.int .u8 0)], .agg [.lit (.int .u8 0), .lit (.int .u8 0)], .agg [.lit (.int .u8 0), .lit (.int .u8 0)], .agg [.lit (.int .u8 0), .lit (.int .u8 0)], .agg [.lit (.int .u8 0), .lit (.int .u8 0)], .agg [.lit (.int .u8 0), .lit (.int .u8 0)], .agg [.lit (.int .u8 0), .lit (.int .u8 0)], .agg [.lit (.int .u8 0), .lit (.int .u8 0)], .agg [.lit (.int .u8 0), .lit (.int .u8 0)], .agg [.lit (.int .u8 0), .lit (.int .u8 0)], .agg [.lit (.int .u8 0), .lit (.int .u8 0)]]
/-- One of Go's own tables, pinned by name: the form's constant. -/
def laid_unicode_utf8_first : DataW Unit := Go.Pinned.utf8First

/-- 'pomadelaw09.TillRotations': WHATEVER THE INPUT: true; the input reads as it did. -/
def tillRotationsSpec : ChangeSpec := { name := "tillRotations", fn := fun _ => fun
  | [d] => { results := [.lit (.bool true)], args := [d] }
  | _ => none }
def tillRotationsRow : OpenClaim := { program := "ytnjimbgfafkogaadoor", sum := "94ab2e5b4b3101693a862725bfebbefa84fe028f5ae83d043fcfab6e17fbaa9f", func := "pomade/pomadelaw09.TillRotations", spec := "tillRotations", inPlace := ["internal/bytealg.IndexByteString", "internal/bytealg.IndexString"], unfollowed := true, recurses := true, named := ["unicode/utf8.first", "unicode/utf8.acceptRanges", "internal/bytealg.MaxLen"], apart := false, laid := [("unicode/utf8.acceptRanges", laid_unicode_utf8_acceptRanges), ("unicode/utf8.first", laid_unicode_utf8_first)] }
def TillRotationsSaid : Prop := tillRotationsRow.holds Tryd.pinned (OpenSpec.ofChange tillRotationsSpec)

/-- ITS FALSE NEIGHBOUR: 'it returns false'. Refute it at one input. -/
def tillRotationsWrong : ChangeSpec := { name := "tillRotations", fn := fun _ => fun
  | [d] => { results := [.lit (.bool false)], args := [d] }
  | _ => none }
def TillRotationsWrongFalsely : Prop := tillRotationsRow.holds Tryd.pinned (OpenSpec.ofChange tillRotationsWrong)

/-- 'pomadelaw09.TillBallots': WHATEVER THE INPUT: true; the input reads as it did. -/
def tillBallotsSpec : ChangeSpec := { name := "tillBallots", fn := fun _ => fun
  | [d1, d2, d3] => { results := [.lit (.bool true)], args := [d1, d2, d3] }
  | _ => none }
def tillBallotsRow : OpenClaim := { program := "ytnjimbgfafkogaadoor", sum := "94ab2e5b4b3101693a862725bfebbefa84fe028f5ae83d043fcfab6e17fbaa9f", func := "pomade/pomadelaw09.TillBallots", spec := "tillBallots", inPlace := ["internal/bytealg.IndexByteString", "internal/bytealg.IndexString"], unfollowed := true, recurses := true, named := ["unicode/utf8.first", "unicode/utf8.acceptRanges", "internal/bytealg.MaxLen"], apart := false, laid := [("unicode/utf8.acceptRanges", laid_unicode_utf8_acceptRanges), ("unicode/utf8.first", laid_unicode_utf8_first)] }
def TillBallotsSaid : Prop := tillBallotsRow.holds Tryd.pinned (OpenSpec.ofChange tillBallotsSpec)

/-- ITS FALSE NEIGHBOUR: 'it returns false'. Refute it at one input. -/
def tillBallotsWrong : ChangeSpec := { name := "tillBallots", fn := fun _ => fun
  | [d1, d2, d3] => { results := [.lit (.bool false)], args := [d1, d2, d3] }
  | _ => none }
def TillBallotsWrongFalsely : Prop := tillBallotsRow.holds Tryd.pinned (OpenSpec.ofChange tillBallotsWrong)

/-- 'pomadelaw09.TillMirrors': WHATEVER THE INPUT: true; the input reads as it did. -/
def tillMirrorsSpec : ChangeSpec := { name := "tillMirrors", fn := fun _ => fun
  | [d1, d2] => { results := [.lit (.bool true)], args := [d1, d2] }
  | _ => none }
def tillMirrorsRow : OpenClaim := { program := "ytnjimbgfafkogaadoor", sum := "94ab2e5b4b3101693a862725bfebbefa84fe028f5ae83d043fcfab6e17fbaa9f", func := "pomade/pomadelaw09.TillMirrors", spec := "tillMirrors", inPlace := ["internal/bytealg.IndexByteString", "internal/bytealg.IndexString"], unfollowed := true, recurses := true, named := ["unicode/utf8.first", "unicode/utf8.acceptRanges", "internal/bytealg.MaxLen"], apart := false, laid := [("unicode/utf8.acceptRanges", laid_unicode_utf8_acceptRanges), ("unicode/utf8.first", laid_unicode_utf8_first)] }
def TillMirrorsSaid : Prop := tillMirrorsRow.holds Tryd.pinned (OpenSpec.ofChange tillMirrorsSpec)

/-- ITS FALSE NEIGHBOUR: 'it returns false'. Refute it at one input. -/
def tillMirrorsWrong : ChangeSpec := { name := "tillMirrors", fn := fun _ => fun
  | [d1, d2] => { results := [.lit (.bool false)], args := [d1, d2] }
  | _ => none }
def TillMirrorsWrongFalsely : Prop := tillMirrorsRow.holds Tryd.pinned (OpenSpec.ofChange tillMirrorsWrong)

/-- 'pomadelaw09.TillMotzkin': WHATEVER THE INPUT: true; the input reads as it did. -/
def tillMotzkinSpec : ChangeSpec := { name := "tillMotzkin", fn := fun _ => fun
  | [d] => { results := [.lit (.bool true)], args := [d] }
  | _ => none }
def tillMotzkinRow : OpenClaim := { program := "ytnjimbgfafkogaadoor", sum := "94ab2e5b4b3101693a862725bfebbefa84fe028f5ae83d043fcfab6e17fbaa9f", func := "pomade/pomadelaw09.TillMotzkin", spec := "tillMotzkin", inPlace := ["internal/bytealg.IndexByteString", "internal/bytealg.IndexString"], unfollowed := true, recurses := true, named := ["unicode/utf8.first", "unicode/utf8.acceptRanges", "internal/bytealg.MaxLen"], apart := false, laid := [("unicode/utf8.acceptRanges", laid_unicode_utf8_acceptRanges), ("unicode/utf8.first", laid_unicode_utf8_first)] }
def TillMotzkinSaid : Prop := tillMotzkinRow.holds Tryd.pinned (OpenSpec.ofChange tillMotzkinSpec)

/-- ITS FALSE NEIGHBOUR: 'it returns false'. Refute it at one input. -/
def tillMotzkinWrong : ChangeSpec := { name := "tillMotzkin", fn := fun _ => fun
  | [d] => { results := [.lit (.bool false)], args := [d] }
  | _ => none }
def TillMotzkinWrongFalsely : Prop := tillMotzkinRow.holds Tryd.pinned (OpenSpec.ofChange tillMotzkinWrong)

/-- 'pomadelaw09.TillBertrand': WHATEVER THE INPUT: true; the input reads as it did. -/
def tillBertrandSpec : ChangeSpec := { name := "tillBertrand", fn := fun _ => fun
  | [d1, d2, d3] => { results := [.lit (.bool true)], args := [d1, d2, d3] }
  | _ => none }
def tillBertrandRow : OpenClaim := { program := "ytnjimbgfafkogaadoor", sum := "94ab2e5b4b3101693a862725bfebbefa84fe028f5ae83d043fcfab6e17fbaa9f", func := "pomade/pomadelaw09.TillBertrand", spec := "tillBertrand", inPlace := ["internal/bytealg.IndexByteString", "internal/bytealg.IndexString"], unfollowed := true, recurses := true, named := ["unicode/utf8.first", "unicode/utf8.acceptRanges", "internal/bytealg.MaxLen"], apart := false, laid := [("unicode/utf8.acceptRanges", laid_unicode_utf8_acceptRanges), ("unicode/utf8.first", laid_unicode_utf8_first)] }
def TillBertrandSaid : Prop := tillBertrandRow.holds Tryd.pinned (OpenSpec.ofChange tillBertrandSpec)

/-- ITS FALSE NEIGHBOUR: 'it returns false'. Refute it at one input. -/
def tillBertrandWrong : ChangeSpec := { name := "tillBertrand", fn := fun _ => fun
  | [d1, d2, d3] => { results := [.lit (.bool false)], args := [d1, d2, d3] }
  | _ => none }
def TillBertrandWrongFalsely : Prop := tillBertrandRow.holds Tryd.pinned (OpenSpec.ofChange tillBertrandWrong)

/-- 'pomadelaw09.TillReflected': WHATEVER THE INPUT: true; the input reads as it did. -/
def tillReflectedSpec : ChangeSpec := { name := "tillReflected", fn := fun _ => fun
  | [d1, d2] => { results := [.lit (.bool true)], args := [d1, d2] }
  | _ => none }
def tillReflectedRow : OpenClaim := { program := "ytnjimbgfafkogaadoor", sum := "94ab2e5b4b3101693a862725bfebbefa84fe028f5ae83d043fcfab6e17fbaa9f", func := "pomade/pomadelaw09.TillReflected", spec := "tillReflected", inPlace := ["internal/bytealg.IndexByteString", "internal/bytealg.IndexString"], unfollowed := true, recurses := true, named := ["unicode/utf8.first", "unicode/utf8.acceptRanges", "internal/bytealg.MaxLen"], apart := false, laid := [("unicode/utf8.acceptRanges", laid_unicode_utf8_acceptRanges), ("unicode/utf8.first", laid_unicode_utf8_first)] }
def TillReflectedSaid : Prop := tillReflectedRow.holds Tryd.pinned (OpenSpec.ofChange tillReflectedSpec)

/-- ITS FALSE NEIGHBOUR: 'it returns false'. Refute it at one input. -/
def tillReflectedWrong : ChangeSpec := { name := "tillReflected", fn := fun _ => fun
  | [d1, d2] => { results := [.lit (.bool false)], args := [d1, d2] }
  | _ => none }
def TillReflectedWrongFalsely : Prop := tillReflectedRow.holds Tryd.pinned (OpenSpec.ofChange tillReflectedWrong)

/-- 'pomadelaw09.TillSides': WHATEVER THE INPUT: true; the input reads as it did. -/
def tillSidesSpec : ChangeSpec := { name := "tillSides", fn := fun _ => fun
  | [d] => { results := [.lit (.bool true)], args := [d] }
  | _ => none }
def tillSidesRow : OpenClaim := { program := "ytnjimbgfafkogaadoor", sum := "94ab2e5b4b3101693a862725bfebbefa84fe028f5ae83d043fcfab6e17fbaa9f", func := "pomade/pomadelaw09.TillSides", spec := "tillSides", inPlace := ["internal/bytealg.IndexByteString", "internal/bytealg.IndexString"], unfollowed := true, recurses := true, named := ["unicode/utf8.first", "unicode/utf8.acceptRanges", "internal/bytealg.MaxLen"], apart := false, laid := [("unicode/utf8.acceptRanges", laid_unicode_utf8_acceptRanges), ("unicode/utf8.first", laid_unicode_utf8_first)] }
def TillSidesSaid : Prop := tillSidesRow.holds Tryd.pinned (OpenSpec.ofChange tillSidesSpec)

/-- ITS FALSE NEIGHBOUR: 'it returns false'. Refute it at one input. -/
def tillSidesWrong : ChangeSpec := { name := "tillSides", fn := fun _ => fun
  | [d] => { results := [.lit (.bool false)], args := [d] }
  | _ => none }
def TillSidesWrongFalsely : Prop := tillSidesRow.holds Tryd.pinned (OpenSpec.ofChange tillSidesWrong)

/-- 'pomadelaw09.TillArcs': WHATEVER THE INPUT: true; the input reads as it did. -/
def tillArcsSpec : ChangeSpec := { name := "tillArcs", fn := fun _ => fun
  | [d] => { results := [.lit (.bool true)], args := [d] }
  | _ => none }
def tillArcsRow : OpenClaim := { program := "ytnjimbgfafkogaadoor", sum := "94ab2e5b4b3101693a862725bfebbefa84fe028f5ae83d043fcfab6e17fbaa9f", func := "pomade/pomadelaw09.TillArcs", spec := "tillArcs", inPlace := ["internal/bytealg.IndexByteString", "internal/bytealg.IndexString"], unfollowed := true, recurses := true, named := ["unicode/utf8.first", "unicode/utf8.acceptRanges", "internal/bytealg.MaxLen"], apart := false, laid := [("unicode/utf8.acceptRanges", laid_unicode_utf8_acceptRanges), ("unicode/utf8.first", laid_unicode_utf8_first)] }
def TillArcsSaid : Prop := tillArcsRow.holds Tryd.pinned (OpenSpec.ofChange tillArcsSpec)

/-- ITS FALSE NEIGHBOUR: 'it returns false'. Refute it at one input. -/
def tillArcsWrong : ChangeSpec := { name := "tillArcs", fn := fun _ => fun
  | [d] => { results := [.lit (.bool false)], args := [d] }
  | _ => none }
def TillArcsWrongFalsely : Prop := tillArcsRow.holds Tryd.pinned (OpenSpec.ofChange tillArcsWrong)

/-- 'pomadelaw09.TillCatalan': WHATEVER THE INPUT: true; the input reads as it did. -/
def tillCatalanSpec : ChangeSpec := { name := "tillCatalan", fn := fun _ => fun
  | [d] => { results := [.lit (.bool true)], args := [d] }
  | _ => none }
def tillCatalanRow : OpenClaim := { program := "ytnjimbgfafkogaadoor", sum := "94ab2e5b4b3101693a862725bfebbefa84fe028f5ae83d043fcfab6e17fbaa9f", func := "pomade/pomadelaw09.TillCatalan", spec := "tillCatalan", inPlace := ["internal/bytealg.IndexByteString", "internal/bytealg.IndexString"], unfollowed := true, recurses := true, named := ["unicode/utf8.first", "unicode/utf8.acceptRanges", "internal/bytealg.MaxLen"], apart := false, laid := [("unicode/utf8.acceptRanges", laid_unicode_utf8_acceptRanges), ("unicode/utf8.first", laid_unicode_utf8_first)] }
def TillCatalanSaid : Prop := tillCatalanRow.holds Tryd.pinned (OpenSpec.ofChange tillCatalanSpec)

/-- ITS FALSE NEIGHBOUR: 'it returns false'. Refute it at one input. -/
def tillCatalanWrong : ChangeSpec := { name := "tillCatalan", fn := fun _ => fun
  | [d] => { results := [.lit (.bool false)], args := [d] }
  | _ => none }
def TillCatalanWrongFalsely : Prop := tillCatalanRow.holds Tryd.pinned (OpenSpec.ofChange tillCatalanWrong)

/-- 'pomadelaw09.TillWithin': WHATEVER THE INPUT: true; the input reads as it did. -/
def tillWithinSpec : ChangeSpec := { name := "tillWithin", fn := fun _ => fun
  | [d] => { results := [.lit (.bool true)], args := [d] }
  | _ => none }
def tillWithinRow : OpenClaim := { program := "ytnjimbgfafkogaadoor", sum := "94ab2e5b4b3101693a862725bfebbefa84fe028f5ae83d043fcfab6e17fbaa9f", func := "pomade/pomadelaw09.TillWithin", spec := "tillWithin", inPlace := ["internal/bytealg.IndexByteString", "internal/bytealg.IndexString"], unfollowed := true, recurses := true, named := ["unicode/utf8.first", "unicode/utf8.acceptRanges", "internal/bytealg.MaxLen"], apart := false, laid := [("unicode/utf8.acceptRanges", laid_unicode_utf8_acceptRanges), ("unicode/utf8.first", laid_unicode_utf8_first)] }
def TillWithinSaid : Prop := tillWithinRow.holds Tryd.pinned (OpenSpec.ofChange tillWithinSpec)

/-- ITS FALSE NEIGHBOUR: 'it returns false'. Refute it at one input. -/
def tillWithinWrong : ChangeSpec := { name := "tillWithin", fn := fun _ => fun
  | [d] => { results := [.lit (.bool false)], args := [d] }
  | _ => none }
def TillWithinWrongFalsely : Prop := tillWithinRow.holds Tryd.pinned (OpenSpec.ofChange tillWithinWrong)

/-- 'pomadelaw09.TillReflects': WHATEVER THE INPUT: true; the input reads as it did. -/
def tillReflectsSpec : ChangeSpec := { name := "tillReflects", fn := fun _ => fun
  | [d] => { results := [.lit (.bool true)], args := [d] }
  | _ => none }
def tillReflectsRow : OpenClaim := { program := "ytnjimbgfafkogaadoor", sum := "94ab2e5b4b3101693a862725bfebbefa84fe028f5ae83d043fcfab6e17fbaa9f", func := "pomade/pomadelaw09.TillReflects", spec := "tillReflects", inPlace := ["internal/bytealg.IndexByteString", "internal/bytealg.IndexString"], unfollowed := true, recurses := true, named := ["unicode/utf8.first", "unicode/utf8.acceptRanges", "internal/bytealg.MaxLen"], apart := false, laid := [("unicode/utf8.acceptRanges", laid_unicode_utf8_acceptRanges), ("unicode/utf8.first", laid_unicode_utf8_first)] }
def TillReflectsSaid : Prop := tillReflectsRow.holds Tryd.pinned (OpenSpec.ofChange tillReflectsSpec)

/-- ITS FALSE NEIGHBOUR: 'it returns false'. Refute it at one input. -/
def tillReflectsWrong : ChangeSpec := { name := "tillReflects", fn := fun _ => fun
  | [d] => { results := [.lit (.bool false)], args := [d] }
  | _ => none }
def TillReflectsWrongFalsely : Prop := tillReflectsRow.holds Tryd.pinned (OpenSpec.ofChange tillReflectsWrong)

/-- 'pomadelaw09.TillWalks': WHATEVER THE INPUT: true; the input reads as it did. -/
def tillWalksSpec : ChangeSpec := { name := "tillWalks", fn := fun _ => fun
  | [d] => { results := [.lit (.bool true)], args := [d] }
  | _ => none }
def tillWalksRow : OpenClaim := { program := "ytnjimbgfafkogaadoor", sum := "94ab2e5b4b3101693a862725bfebbefa84fe028f5ae83d043fcfab6e17fbaa9f", func := "pomade/pomadelaw09.TillWalks", spec := "tillWalks", inPlace := ["internal/bytealg.IndexByteString", "internal/bytealg.IndexString"], unfollowed := true, recurses := true, named := ["unicode/utf8.first", "unicode/utf8.acceptRanges", "internal/bytealg.MaxLen"], apart := false, laid := [("unicode/utf8.acceptRanges", laid_unicode_utf8_acceptRanges), ("unicode/utf8.first", laid_unicode_utf8_first)] }
def TillWalksSaid : Prop := tillWalksRow.holds Tryd.pinned (OpenSpec.ofChange tillWalksSpec)

/-- ITS FALSE NEIGHBOUR: 'it returns false'. Refute it at one input. -/
def tillWalksWrong : ChangeSpec := { name := "tillWalks", fn := fun _ => fun
  | [d] => { results := [.lit (.bool false)], args := [d] }
  | _ => none }
def TillWalksWrongFalsely : Prop := tillWalksRow.holds Tryd.pinned (OpenSpec.ofChange tillWalksWrong)

/-- 'pomadelaw09.TillChung': WHATEVER THE INPUT: true; the input reads as it did. -/
def tillChungSpec : ChangeSpec := { name := "tillChung", fn := fun _ => fun
  | [d] => { results := [.lit (.bool true)], args := [d] }
  | _ => none }
def tillChungRow : OpenClaim := { program := "ytnjimbgfafkogaadoor", sum := "94ab2e5b4b3101693a862725bfebbefa84fe028f5ae83d043fcfab6e17fbaa9f", func := "pomade/pomadelaw09.TillChung", spec := "tillChung", inPlace := ["internal/bytealg.IndexByteString", "internal/bytealg.IndexString"], unfollowed := true, recurses := true, named := ["unicode/utf8.first", "unicode/utf8.acceptRanges", "internal/bytealg.MaxLen"], apart := false, laid := [("unicode/utf8.acceptRanges", laid_unicode_utf8_acceptRanges), ("unicode/utf8.first", laid_unicode_utf8_first)] }
def TillChungSaid : Prop := tillChungRow.holds Tryd.pinned (OpenSpec.ofChange tillChungSpec)

/-- ITS FALSE NEIGHBOUR: 'it returns false'. Refute it at one input. -/
def tillChungWrong : ChangeSpec := { name := "tillChung", fn := fun _ => fun
  | [d] => { results := [.lit (.bool false)], args := [d] }
  | _ => none }
def TillChungWrongFalsely : Prop := tillChungRow.holds Tryd.pinned (OpenSpec.ofChange tillChungWrong)

/-- 'pomadelaw09.TillAndersen': WHATEVER THE INPUT: true; the input reads as it did. -/
def tillAndersenSpec : ChangeSpec := { name := "tillAndersen", fn := fun _ => fun
  | [d] => { results := [.lit (.bool true)], args := [d] }
  | _ => none }
def tillAndersenRow : OpenClaim := { program := "ytnjimbgfafkogaadoor", sum := "94ab2e5b4b3101693a862725bfebbefa84fe028f5ae83d043fcfab6e17fbaa9f", func := "pomade/pomadelaw09.TillAndersen", spec := "tillAndersen", inPlace := ["internal/bytealg.IndexByteString", "internal/bytealg.IndexString"], unfollowed := true, recurses := true, named := ["unicode/utf8.first", "unicode/utf8.acceptRanges", "internal/bytealg.MaxLen"], apart := false, laid := [("unicode/utf8.acceptRanges", laid_unicode_utf8_acceptRanges), ("unicode/utf8.first", laid_unicode_utf8_first)] }
def TillAndersenSaid : Prop := tillAndersenRow.holds Tryd.pinned (OpenSpec.ofChange tillAndersenSpec)

/-- ITS FALSE NEIGHBOUR: 'it returns false'. Refute it at one input. -/
def tillAndersenWrong : ChangeSpec := { name := "tillAndersen", fn := fun _ => fun
  | [d] => { results := [.lit (.bool false)], args := [d] }
  | _ => none }
def TillAndersenWrongFalsely : Prop := tillAndersenRow.holds Tryd.pinned (OpenSpec.ofChange tillAndersenWrong)

/-- 'pomadelaw09.TillAhead': WHATEVER THE INPUT: true; the input reads as it did. -/
def tillAheadSpec : ChangeSpec := { name := "tillAhead", fn := fun _ => fun
  | [d] => { results := [.lit (.bool true)], args := [d] }
  | _ => none }
def tillAheadRow : OpenClaim := { program := "ytnjimbgfafkogaadoor", sum := "94ab2e5b4b3101693a862725bfebbefa84fe028f5ae83d043fcfab6e17fbaa9f", func := "pomade/pomadelaw09.TillAhead", spec := "tillAhead", inPlace := ["internal/bytealg.IndexByteString", "internal/bytealg.IndexString"], unfollowed := true, recurses := true, named := ["unicode/utf8.first", "unicode/utf8.acceptRanges", "internal/bytealg.MaxLen"], apart := false, laid := [("unicode/utf8.acceptRanges", laid_unicode_utf8_acceptRanges), ("unicode/utf8.first", laid_unicode_utf8_first)] }
def TillAheadSaid : Prop := tillAheadRow.holds Tryd.pinned (OpenSpec.ofChange tillAheadSpec)

/-- ITS FALSE NEIGHBOUR: 'it returns false'. Refute it at one input. -/
def tillAheadWrong : ChangeSpec := { name := "tillAhead", fn := fun _ => fun
  | [d] => { results := [.lit (.bool false)], args := [d] }
  | _ => none }
def TillAheadWrongFalsely : Prop := tillAheadRow.holds Tryd.pinned (OpenSpec.ofChange tillAheadWrong)

/- THE SECOND FORM. 'bulk': how many values and letters a reading holds, each counted each time it is reached (what is shared counts as often as it is met; a slice's spare places count too). A statement '..UptoSaid' is the law's where the arguments, and the package variables that the reading takes, are together of bulk at most 1048576: NARROWER than '..Said'. Prove '..Said' where nothing that the law and all that it calls make is longer than what came in: it says more and counts as full. Else prove '..UptoSaid'. A law counts once. -/
mutual
def uptoBulk {H : Type} : DataW H → Nat
  | .lit (.string bytes) => bytes.length + 1
  | .lit _ => 1
  | .nil => 1
  | .ptr d => uptoBulk d + 1
  | .slice elems spare => uptoBulkAll elems + uptoBulkAll spare + 1
  | .agg parts => uptoBulkAll parts + 1
  | .iface _ d => uptoBulk d + 1
  | .map entries => uptoBulkEntries entries + 1
  | .held _ => 1
def uptoBulkAll {H : Type} : List (DataW H) → Nat
  | [] => 0
  | d :: r => uptoBulk d + uptoBulkAll r
def uptoBulkEntries {H : Type} : List (Lit × DataW H) → Nat
  | [] => 0
  | x :: r => uptoBulkEntry x + uptoBulkEntries r
def uptoBulkEntry {H : Type} : Lit × DataW H → Nat
  | (.string bytes, d) => bytes.length + uptoBulk d + 1
  | (_, d) => uptoBulk d + 1
 end
def uptoSmall : (H : Type) → List (DataW H) → Bool := fun _ ds => decide (uptoBulkAll ds ≤ 1048576)
def OpenSpec.upto (s : _root_.Go.ChangeSpec) : _root_.Go.OpenSpec := { _root_.Go.OpenSpec.ofChange s with cond := some uptoSmall }

/-- 'pomadelaw09.TillRotations', WHERE WHAT IT READS IS OF BULK AT MOST 1048576: true; the input reads as it did. -/
def tillRotationsUptoRow : OpenClaim := { program := "ytnjimbgfafkogaadoor", sum := "94ab2e5b4b3101693a862725bfebbefa84fe028f5ae83d043fcfab6e17fbaa9f", func := "pomade/pomadelaw09.TillRotations", spec := "tillRotations", inPlace := ["internal/bytealg.IndexByteString", "internal/bytealg.IndexString"], unfollowed := true, recurses := true, named := ["unicode/utf8.first", "unicode/utf8.acceptRanges", "internal/bytealg.MaxLen"], apart := false, laid := [("unicode/utf8.acceptRanges", laid_unicode_utf8_acceptRanges), ("unicode/utf8.first", laid_unicode_utf8_first)], narrowed := true }
def TillRotationsUptoSaid : Prop := tillRotationsUptoRow.holds Tryd.pinned (OpenSpec.upto tillRotationsSpec)

/-- 'pomadelaw09.TillBallots', WHERE WHAT IT READS IS OF BULK AT MOST 1048576: true; the input reads as it did. -/
def tillBallotsUptoRow : OpenClaim := { program := "ytnjimbgfafkogaadoor", sum := "94ab2e5b4b3101693a862725bfebbefa84fe028f5ae83d043fcfab6e17fbaa9f", func := "pomade/pomadelaw09.TillBallots", spec := "tillBallots", inPlace := ["internal/bytealg.IndexByteString", "internal/bytealg.IndexString"], unfollowed := true, recurses := true, named := ["unicode/utf8.first", "unicode/utf8.acceptRanges", "internal/bytealg.MaxLen"], apart := false, laid := [("unicode/utf8.acceptRanges", laid_unicode_utf8_acceptRanges), ("unicode/utf8.first", laid_unicode_utf8_first)], narrowed := true }
def TillBallotsUptoSaid : Prop := tillBallotsUptoRow.holds Tryd.pinned (OpenSpec.upto tillBallotsSpec)

/-- 'pomadelaw09.TillMirrors', WHERE WHAT IT READS IS OF BULK AT MOST 1048576: true; the input reads as it did. -/
def tillMirrorsUptoRow : OpenClaim := { program := "ytnjimbgfafkogaadoor", sum := "94ab2e5b4b3101693a862725bfebbefa84fe028f5ae83d043fcfab6e17fbaa9f", func := "pomade/pomadelaw09.TillMirrors", spec := "tillMirrors", inPlace := ["internal/bytealg.IndexByteString", "internal/bytealg.IndexString"], unfollowed := true, recurses := true, named := ["unicode/utf8.first", "unicode/utf8.acceptRanges", "internal/bytealg.MaxLen"], apart := false, laid := [("unicode/utf8.acceptRanges", laid_unicode_utf8_acceptRanges), ("unicode/utf8.first", laid_unicode_utf8_first)], narrowed := true }
def TillMirrorsUptoSaid : Prop := tillMirrorsUptoRow.holds Tryd.pinned (OpenSpec.upto tillMirrorsSpec)

/-- 'pomadelaw09.TillMotzkin', WHERE WHAT IT READS IS OF BULK AT MOST 1048576: true; the input reads as it did. -/
def tillMotzkinUptoRow : OpenClaim := { program := "ytnjimbgfafkogaadoor", sum := "94ab2e5b4b3101693a862725bfebbefa84fe028f5ae83d043fcfab6e17fbaa9f", func := "pomade/pomadelaw09.TillMotzkin", spec := "tillMotzkin", inPlace := ["internal/bytealg.IndexByteString", "internal/bytealg.IndexString"], unfollowed := true, recurses := true, named := ["unicode/utf8.first", "unicode/utf8.acceptRanges", "internal/bytealg.MaxLen"], apart := false, laid := [("unicode/utf8.acceptRanges", laid_unicode_utf8_acceptRanges), ("unicode/utf8.first", laid_unicode_utf8_first)], narrowed := true }
def TillMotzkinUptoSaid : Prop := tillMotzkinUptoRow.holds Tryd.pinned (OpenSpec.upto tillMotzkinSpec)

/-- 'pomadelaw09.TillBertrand', WHERE WHAT IT READS IS OF BULK AT MOST 1048576: true; the input reads as it did. -/
def tillBertrandUptoRow : OpenClaim := { program := "ytnjimbgfafkogaadoor", sum := "94ab2e5b4b3101693a862725bfebbefa84fe028f5ae83d043fcfab6e17fbaa9f", func := "pomade/pomadelaw09.TillBertrand", spec := "tillBertrand", inPlace := ["internal/bytealg.IndexByteString", "internal/bytealg.IndexString"], unfollowed := true, recurses := true, named := ["unicode/utf8.first", "unicode/utf8.acceptRanges", "internal/bytealg.MaxLen"], apart := false, laid := [("unicode/utf8.acceptRanges", laid_unicode_utf8_acceptRanges), ("unicode/utf8.first", laid_unicode_utf8_first)], narrowed := true }
def TillBertrandUptoSaid : Prop := tillBertrandUptoRow.holds Tryd.pinned (OpenSpec.upto tillBertrandSpec)

/-- 'pomadelaw09.TillReflected', WHERE WHAT IT READS IS OF BULK AT MOST 1048576: true; the input reads as it did. -/
def tillReflectedUptoRow : OpenClaim := { program := "ytnjimbgfafkogaadoor", sum := "94ab2e5b4b3101693a862725bfebbefa84fe028f5ae83d043fcfab6e17fbaa9f", func := "pomade/pomadelaw09.TillReflected", spec := "tillReflected", inPlace := ["internal/bytealg.IndexByteString", "internal/bytealg.IndexString"], unfollowed := true, recurses := true, named := ["unicode/utf8.first", "unicode/utf8.acceptRanges", "internal/bytealg.MaxLen"], apart := false, laid := [("unicode/utf8.acceptRanges", laid_unicode_utf8_acceptRanges), ("unicode/utf8.first", laid_unicode_utf8_first)], narrowed := true }
def TillReflectedUptoSaid : Prop := tillReflectedUptoRow.holds Tryd.pinned (OpenSpec.upto tillReflectedSpec)

/-- 'pomadelaw09.TillSides', WHERE WHAT IT READS IS OF BULK AT MOST 1048576: true; the input reads as it did. -/
def tillSidesUptoRow : OpenClaim := { program := "ytnjimbgfafkogaadoor", sum := "94ab2e5b4b3101693a862725bfebbefa84fe028f5ae83d043fcfab6e17fbaa9f", func := "pomade/pomadelaw09.TillSides", spec := "tillSides", inPlace := ["internal/bytealg.IndexByteString", "internal/bytealg.IndexString"], unfollowed := true, recurses := true, named := ["unicode/utf8.first", "unicode/utf8.acceptRanges", "internal/bytealg.MaxLen"], apart := false, laid := [("unicode/utf8.acceptRanges", laid_unicode_utf8_acceptRanges), ("unicode/utf8.first", laid_unicode_utf8_first)], narrowed := true }
def TillSidesUptoSaid : Prop := tillSidesUptoRow.holds Tryd.pinned (OpenSpec.upto tillSidesSpec)

/-- 'pomadelaw09.TillArcs', WHERE WHAT IT READS IS OF BULK AT MOST 1048576: true; the input reads as it did. -/
def tillArcsUptoRow : OpenClaim := { program := "ytnjimbgfafkogaadoor", sum := "94ab2e5b4b3101693a862725bfebbefa84fe028f5ae83d043fcfab6e17fbaa9f", func := "pomade/pomadelaw09.TillArcs", spec := "tillArcs", inPlace := ["internal/bytealg.IndexByteString", "internal/bytealg.IndexString"], unfollowed := true, recurses := true, named := ["unicode/utf8.first", "unicode/utf8.acceptRanges", "internal/bytealg.MaxLen"], apart := false, laid := [("unicode/utf8.acceptRanges", laid_unicode_utf8_acceptRanges), ("unicode/utf8.first", laid_unicode_utf8_first)], narrowed := true }
def TillArcsUptoSaid : Prop := tillArcsUptoRow.holds Tryd.pinned (OpenSpec.upto tillArcsSpec)

/-- 'pomadelaw09.TillCatalan', WHERE WHAT IT READS IS OF BULK AT MOST 1048576: true; the input reads as it did. -/
def tillCatalanUptoRow : OpenClaim := { program := "ytnjimbgfafkogaadoor", sum := "94ab2e5b4b3101693a862725bfebbefa84fe028f5ae83d043fcfab6e17fbaa9f", func := "pomade/pomadelaw09.TillCatalan", spec := "tillCatalan", inPlace := ["internal/bytealg.IndexByteString", "internal/bytealg.IndexString"], unfollowed := true, recurses := true, named := ["unicode/utf8.first", "unicode/utf8.acceptRanges", "internal/bytealg.MaxLen"], apart := false, laid := [("unicode/utf8.acceptRanges", laid_unicode_utf8_acceptRanges), ("unicode/utf8.first", laid_unicode_utf8_first)], narrowed := true }
def TillCatalanUptoSaid : Prop := tillCatalanUptoRow.holds Tryd.pinned (OpenSpec.upto tillCatalanSpec)

/-- 'pomadelaw09.TillWithin', WHERE WHAT IT READS IS OF BULK AT MOST 1048576: true; the input reads as it did. -/
def tillWithinUptoRow : OpenClaim := { program := "ytnjimbgfafkogaadoor", sum := "94ab2e5b4b3101693a862725bfebbefa84fe028f5ae83d043fcfab6e17fbaa9f", func := "pomade/pomadelaw09.TillWithin", spec := "tillWithin", inPlace := ["internal/bytealg.IndexByteString", "internal/bytealg.IndexString"], unfollowed := true, recurses := true, named := ["unicode/utf8.first", "unicode/utf8.acceptRanges", "internal/bytealg.MaxLen"], apart := false, laid := [("unicode/utf8.acceptRanges", laid_unicode_utf8_acceptRanges), ("unicode/utf8.first", laid_unicode_utf8_first)], narrowed := true }
def TillWithinUptoSaid : Prop := tillWithinUptoRow.holds Tryd.pinned (OpenSpec.upto tillWithinSpec)

/-- 'pomadelaw09.TillReflects', WHERE WHAT IT READS IS OF BULK AT MOST 1048576: true; the input reads as it did. -/
def tillReflectsUptoRow : OpenClaim := { program := "ytnjimbgfafkogaadoor", sum := "94ab2e5b4b3101693a862725bfebbefa84fe028f5ae83d043fcfab6e17fbaa9f", func := "pomade/pomadelaw09.TillReflects", spec := "tillReflects", inPlace := ["internal/bytealg.IndexByteString", "internal/bytealg.IndexString"], unfollowed := true, recurses := true, named := ["unicode/utf8.first", "unicode/utf8.acceptRanges", "internal/bytealg.MaxLen"], apart := false, laid := [("unicode/utf8.acceptRanges", laid_unicode_utf8_acceptRanges), ("unicode/utf8.first", laid_unicode_utf8_first)], narrowed := true }
def TillReflectsUptoSaid : Prop := tillReflectsUptoRow.holds Tryd.pinned (OpenSpec.upto tillReflectsSpec)

/-- 'pomadelaw09.TillWalks', WHERE WHAT IT READS IS OF BULK AT MOST 1048576: true; the input reads as it did. -/
def tillWalksUptoRow : OpenClaim := { program := "ytnjimbgfafkogaadoor", sum := "94ab2e5b4b3101693a862725bfebbefa84fe028f5ae83d043fcfab6e17fbaa9f", func := "pomade/pomadelaw09.TillWalks", spec := "tillWalks", inPlace := ["internal/bytealg.IndexByteString", "internal/bytealg.IndexString"], unfollowed := true, recurses := true, named := ["unicode/utf8.first", "unicode/utf8.acceptRanges", "internal/bytealg.MaxLen"], apart := false, laid := [("unicode/utf8.acceptRanges", laid_unicode_utf8_acceptRanges), ("unicode/utf8.first", laid_unicode_utf8_first)], narrowed := true }
def TillWalksUptoSaid : Prop := tillWalksUptoRow.holds Tryd.pinned (OpenSpec.upto tillWalksSpec)

/-- 'pomadelaw09.TillChung', WHERE WHAT IT READS IS OF BULK AT MOST 1048576: true; the input reads as it did. -/
def tillChungUptoRow : OpenClaim := { program := "ytnjimbgfafkogaadoor", sum := "94ab2e5b4b3101693a862725bfebbefa84fe028f5ae83d043fcfab6e17fbaa9f", func := "pomade/pomadelaw09.TillChung", spec := "tillChung", inPlace := ["internal/bytealg.IndexByteString", "internal/bytealg.IndexString"], unfollowed := true, recurses := true, named := ["unicode/utf8.first", "unicode/utf8.acceptRanges", "internal/bytealg.MaxLen"], apart := false, laid := [("unicode/utf8.acceptRanges", laid_unicode_utf8_acceptRanges), ("unicode/utf8.first", laid_unicode_utf8_first)], narrowed := true }
def TillChungUptoSaid : Prop := tillChungUptoRow.holds Tryd.pinned (OpenSpec.upto tillChungSpec)

/-- 'pomadelaw09.TillAndersen', WHERE WHAT IT READS IS OF BULK AT MOST 1048576: true; the input reads as it did. -/
def tillAndersenUptoRow : OpenClaim := { program := "ytnjimbgfafkogaadoor", sum := "94ab2e5b4b3101693a862725bfebbefa84fe028f5ae83d043fcfab6e17fbaa9f", func := "pomade/pomadelaw09.TillAndersen", spec := "tillAndersen", inPlace := ["internal/bytealg.IndexByteString", "internal/bytealg.IndexString"], unfollowed := true, recurses := true, named := ["unicode/utf8.first", "unicode/utf8.acceptRanges", "internal/bytealg.MaxLen"], apart := false, laid := [("unicode/utf8.acceptRanges", laid_unicode_utf8_acceptRanges), ("unicode/utf8.first", laid_unicode_utf8_first)], narrowed := true }
def TillAndersenUptoSaid : Prop := tillAndersenUptoRow.holds Tryd.pinned (OpenSpec.upto tillAndersenSpec)

/-- 'pomadelaw09.TillAhead', WHERE WHAT IT READS IS OF BULK AT MOST 1048576: true; the input reads as it did. -/
def tillAheadUptoRow : OpenClaim := { program := "ytnjimbgfafkogaadoor", sum := "94ab2e5b4b3101693a862725bfebbefa84fe028f5ae83d043fcfab6e17fbaa9f", func := "pomade/pomadelaw09.TillAhead", spec := "tillAhead", inPlace := ["internal/bytealg.IndexByteString", "internal/bytealg.IndexString"], unfollowed := true, recurses := true, named := ["unicode/utf8.first", "unicode/utf8.acceptRanges", "internal/bytealg.MaxLen"], apart := false, laid := [("unicode/utf8.acceptRanges", laid_unicode_utf8_acceptRanges), ("unicode/utf8.first", laid_unicode_utf8_first)], narrowed := true }
def TillAheadUptoSaid : Prop := tillAheadUptoRow.holds Tryd.pinned (OpenSpec.upto tillAheadSpec)

end Rows
end Go.Proofs.YtnjimbgfafkogaaDoor
