/-
  NARROWER THAN 'FOR EVERY INPUT', by the rows' own cells (each row's printed sentence says how): ParrotLives: laid · ParrotLong: laid · ParrotLife: laid · ParrotMakes: laid · ParrotSmullyan: laid · ParrotWords: laid · ParrotExchanged: laid · ParrotSelf: laid · ParrotAfter: laid · ParrotSelves: laid · ParrotOwn: laid · ParrotMakers: laid · ParrotFound: laid.
  DERIVED. THE GIVEN ROWS OF THIS SEAT. 13 by the template 'for every input the law returns true; each argument reads behind the call as it read before'; 0 by the template 'total and deterministic' (their statements: YtcjbnonjhahakaaDoorTotals.lean).
  GIVEN WITH THE SEED: the statements are not yours to turn. If you find one false, say at which input.
  Laid BY PROGRAM, IN A SANDBOX (cutbox-rows.mjs): the forced cells as the released guide's own fill.sh prints them over the translation ba63e1b887b7d8f5… (all of the seat's roots in one cut). By AI agents, Wed Nov 11 2026. No macro, syntax, notation, axiom, sorry.
-/
import Derived.Test.YtcjbnonjhahakaaDoorChecked
import GoSem.PinnedTables
import GoSem.Claim
import GoSem.ClaimJoined
import GoSem.ClaimMapViews
import Derived.JoinedTies
import Derived.KernelRfl
namespace Go.Proofs.YtcjbnonjhahakaaDoor
/- THE CELL 'sum', in the pinned program and in every row, IS THE sha256 OF THE DUMP (.gsa) THAT YtcjbnonjhahakaaDoorProg.lean LOADS. Nothing in Lean hashes anything: it is a label: what it is worth is what the hold of that sum in a sandbox is worth. -/
noncomputable def Tryd.pinned : Pinned := { name := "ytcjbnonjhahakaadoor", sum := "ba63e1b887b7d8f54ad806a986f682c8541c57991bd08863aeeec8c637cfa5bd", checked := Tryd.checked }
namespace Rows
def none {H : Type} : Left H := { results := [], args := [] }

/- WHAT THE LISTED PACKAGE-LEVEL VARIABLES READ AS WHEN THE CALL BEGINS. Each datum BY PROGRAM (the guide's laid-datum.mjs) off the statement by which the dump's own 'gosem.cut.vars' lays the variable. In a bare row this is a premise. The card (YtcjbnonjhahakaaDoorCards.lean) ties it to the program's text. -/
def laid_unicode_utf8_acceptRanges {H : Type} : DataW H := .agg [.agg [.lit (.int .u8 128), .lit (.int .u8 191)], .agg [.lit (.int .u8 160), .lit (.int .u8 191)], .agg [.lit (.int .u8 128), .lit (.int .u8 159)], .agg [.lit (.int .u8 144), .lit (.int .u8 191)], .agg [.lit (.int .u8 128), .lit (.int .u8 143)], .agg [.lit (.int .u8 0), .lit (.int .u8 0)], .agg [.lit (.int .u8 0), .lit (.int .u8 0)], .agg [.lit (.int .u8 0), .lit (.int .u8 0)], .agg [.lit (.int .u8 0), .lit (.int .u8 0)], .agg [.lit (.int .u8 0), .lit (.int .u8 0)], .agg [.lit (.int .u8 0), .lit (.int .u8 0)], .agg [.lit (.int .u8 0), .lit (.int .u8 0)], .agg [.lit (.int .u8 0), .lit (.int .u8 0)], .agg [.lit (.int .u8 0), .lit (.int .u8 0)], .agg [.lit (.int .u8 0), .lit (.int .u8 0)], .agg [.lit (.int .u8 0), .lit (.int .u8 0)]]
def laid_pomade_parrot_operations {H : Type} : DataW H := .iface "func table" (.map [(.int .i32 51, .agg [.iface "func" (.lit (.string [112, 111, 109, 97, 100, 101, 47, 112, 97, 114, 114, 111, 116, 46, 111, 112, 101, 114, 97, 116, 105, 111, 110, 115, 36, 49])), .iface "func" (.lit (.string [112, 111, 109, 97, 100, 101, 47, 112, 97, 114, 114, 111, 116, 46, 111, 112, 101, 114, 97, 116, 105, 111, 110, 115, 36, 50])), .iface "func" (.lit (.string [112, 111, 109, 97, 100, 101, 47, 112, 97, 114, 114, 111, 116, 46, 111, 112, 101, 114, 97, 116, 105, 111, 110, 115, 36, 51]))]), (.int .i32 52, .agg [.iface "func" (.lit (.string [112, 111, 109, 97, 100, 101, 47, 112, 97, 114, 114, 111, 116, 46, 114, 101, 118, 101, 114, 115, 101, 100])), .iface "func" (.lit (.string [112, 111, 109, 97, 100, 101, 47, 112, 97, 114, 114, 111, 116, 46, 111, 112, 101, 114, 97, 116, 105, 111, 110, 115, 36, 52])), .iface "func" (.lit (.string [112, 111, 109, 97, 100, 101, 47, 112, 97, 114, 114, 111, 116, 46, 111, 112, 101, 114, 97, 116, 105, 111, 110, 115, 36, 53]))]), (.int .i32 53, .agg [.iface "func" (.lit (.string [112, 111, 109, 97, 100, 101, 47, 112, 97, 114, 114, 111, 116, 46, 111, 112, 101, 114, 97, 116, 105, 111, 110, 115, 36, 54])), .iface "func" (.lit (.string [112, 111, 109, 97, 100, 101, 47, 112, 97, 114, 114, 111, 116, 46, 111, 112, 101, 114, 97, 116, 105, 111, 110, 115, 36, 55])), .iface "func" (.lit (.string [112, 111, 109, 97, 100, 101, 47, 112, 97, 114, 114, 111, 116, 46, 111, 112, 101, 114, 97, 116, 105, 111, 110, 115, 36, 56]))]), (.int .i32 54, .agg [.iface "func" (.lit (.string [112, 111, 109, 97, 100, 101, 47, 112, 97, 114, 114, 111, 116, 46, 111, 112, 101, 114, 97, 116, 105, 111, 110, 115, 36, 57])), .iface "func" (.lit (.string [112, 111, 109, 97, 100, 101, 47, 112, 97, 114, 114, 111, 116, 46, 111, 112, 101, 114, 97, 116, 105, 111, 110, 115, 36, 49, 48])), .iface "func" (.lit (.string [112, 111, 109, 97, 100, 101, 47, 112, 97, 114, 114, 111, 116, 46, 111, 112, 101, 114, 97, 116, 105, 111, 110, 115, 36, 49, 49]))]), (.int .i32 55, .agg [.iface "func" (.lit (.string [112, 111, 109, 97, 100, 101, 47, 112, 97, 114, 114, 111, 116, 46, 111, 112, 101, 114, 97, 116, 105, 111, 110, 115, 36, 49, 50])), .iface "func" (.lit (.string [112, 111, 109, 97, 100, 101, 47, 112, 97, 114, 114, 111, 116, 46, 111, 112, 101, 114, 97, 116, 105, 111, 110, 115, 36, 49, 51])), .iface "func" (.lit (.string [112, 111, 109, 97, 100, 101, 47, 112, 97, 114, 114, 111, 116, 46, 111, 112, 101, 114, 97, 116, 105, 111, 110, 115, 36, 49, 52]))])])
/-- One of Go's own tables, pinned by name: the form's constant. -/
def laid_unicode_utf8_first : DataW Unit := Go.Pinned.utf8First

/-- 'pomadelaw08.ParrotLives': WHATEVER THE INPUT: true; the input reads as it did. -/
def parrotLivesSpec : ChangeSpec := { name := "parrotLives", fn := fun _ => fun
  | [d1, d2] => { results := [.lit (.bool true)], args := [d1, d2] }
  | _ => none }
def parrotLivesRow : OpenClaim := { program := "ytcjbnonjhahakaadoor", sum := "ba63e1b887b7d8f54ad806a986f682c8541c57991bd08863aeeec8c637cfa5bd", func := "pomade/pomadelaw08.ParrotLives", spec := "parrotLives", inPlace := ["internal/bytealg.IndexByteString", "internal/bytealg.IndexString"], unfollowed := true, recurses := true, named := ["unicode/utf8.first", "unicode/utf8.acceptRanges", "pomade/parrot.operations", "internal/bytealg.MaxLen"], apart := false, laid := [("unicode/utf8.acceptRanges", laid_unicode_utf8_acceptRanges), ("pomade/parrot.operations", laid_pomade_parrot_operations), ("unicode/utf8.first", laid_unicode_utf8_first)] }
def ParrotLivesSaid : Prop := parrotLivesRow.holds Tryd.pinned (OpenSpec.ofChange parrotLivesSpec)

/-- ITS FALSE NEIGHBOUR: 'it returns false'. Refute it at one input. -/
def parrotLivesWrong : ChangeSpec := { name := "parrotLives", fn := fun _ => fun
  | [d1, d2] => { results := [.lit (.bool false)], args := [d1, d2] }
  | _ => none }
def ParrotLivesWrongFalsely : Prop := parrotLivesRow.holds Tryd.pinned (OpenSpec.ofChange parrotLivesWrong)

/-- 'pomadelaw08.ParrotLong': WHATEVER THE INPUT: true; the input reads as it did. -/
def parrotLongSpec : ChangeSpec := { name := "parrotLong", fn := fun _ => fun
  | [d] => { results := [.lit (.bool true)], args := [d] }
  | _ => none }
def parrotLongRow : OpenClaim := { program := "ytcjbnonjhahakaadoor", sum := "ba63e1b887b7d8f54ad806a986f682c8541c57991bd08863aeeec8c637cfa5bd", func := "pomade/pomadelaw08.ParrotLong", spec := "parrotLong", inPlace := ["internal/bytealg.IndexByteString", "internal/bytealg.IndexString"], unfollowed := true, recurses := true, named := ["unicode/utf8.first", "unicode/utf8.acceptRanges", "pomade/parrot.operations", "internal/bytealg.MaxLen"], apart := false, laid := [("unicode/utf8.acceptRanges", laid_unicode_utf8_acceptRanges), ("pomade/parrot.operations", laid_pomade_parrot_operations), ("unicode/utf8.first", laid_unicode_utf8_first)] }
def ParrotLongSaid : Prop := parrotLongRow.holds Tryd.pinned (OpenSpec.ofChange parrotLongSpec)

/-- ITS FALSE NEIGHBOUR: 'it returns false'. Refute it at one input. -/
def parrotLongWrong : ChangeSpec := { name := "parrotLong", fn := fun _ => fun
  | [d] => { results := [.lit (.bool false)], args := [d] }
  | _ => none }
def ParrotLongWrongFalsely : Prop := parrotLongRow.holds Tryd.pinned (OpenSpec.ofChange parrotLongWrong)

/-- 'pomadelaw08.ParrotLife': WHATEVER THE INPUT: true; the input reads as it did. -/
def parrotLifeSpec : ChangeSpec := { name := "parrotLife", fn := fun _ => fun
  | [d] => { results := [.lit (.bool true)], args := [d] }
  | _ => none }
def parrotLifeRow : OpenClaim := { program := "ytcjbnonjhahakaadoor", sum := "ba63e1b887b7d8f54ad806a986f682c8541c57991bd08863aeeec8c637cfa5bd", func := "pomade/pomadelaw08.ParrotLife", spec := "parrotLife", inPlace := ["internal/bytealg.IndexByteString", "internal/bytealg.IndexString"], unfollowed := true, recurses := true, named := ["unicode/utf8.first", "unicode/utf8.acceptRanges", "pomade/parrot.operations", "internal/bytealg.MaxLen"], apart := false, laid := [("unicode/utf8.acceptRanges", laid_unicode_utf8_acceptRanges), ("pomade/parrot.operations", laid_pomade_parrot_operations), ("unicode/utf8.first", laid_unicode_utf8_first)] }
def ParrotLifeSaid : Prop := parrotLifeRow.holds Tryd.pinned (OpenSpec.ofChange parrotLifeSpec)

/-- ITS FALSE NEIGHBOUR: 'it returns false'. Refute it at one input. -/
def parrotLifeWrong : ChangeSpec := { name := "parrotLife", fn := fun _ => fun
  | [d] => { results := [.lit (.bool false)], args := [d] }
  | _ => none }
def ParrotLifeWrongFalsely : Prop := parrotLifeRow.holds Tryd.pinned (OpenSpec.ofChange parrotLifeWrong)

/-- 'pomadelaw08.ParrotMakes': WHATEVER THE INPUT: true; the input reads as it did. -/
def parrotMakesSpec : ChangeSpec := { name := "parrotMakes", fn := fun _ => fun
  | [d1, d2, d3] => { results := [.lit (.bool true)], args := [d1, d2, d3] }
  | _ => none }
def parrotMakesRow : OpenClaim := { program := "ytcjbnonjhahakaadoor", sum := "ba63e1b887b7d8f54ad806a986f682c8541c57991bd08863aeeec8c637cfa5bd", func := "pomade/pomadelaw08.ParrotMakes", spec := "parrotMakes", inPlace := ["internal/bytealg.IndexByteString", "internal/bytealg.IndexString"], unfollowed := true, recurses := true, named := ["unicode/utf8.first", "unicode/utf8.acceptRanges", "pomade/parrot.operations", "internal/bytealg.MaxLen"], apart := false, laid := [("unicode/utf8.acceptRanges", laid_unicode_utf8_acceptRanges), ("pomade/parrot.operations", laid_pomade_parrot_operations), ("unicode/utf8.first", laid_unicode_utf8_first)] }
def ParrotMakesSaid : Prop := parrotMakesRow.holds Tryd.pinned (OpenSpec.ofChange parrotMakesSpec)

/-- ITS FALSE NEIGHBOUR: 'it returns false'. Refute it at one input. -/
def parrotMakesWrong : ChangeSpec := { name := "parrotMakes", fn := fun _ => fun
  | [d1, d2, d3] => { results := [.lit (.bool false)], args := [d1, d2, d3] }
  | _ => none }
def ParrotMakesWrongFalsely : Prop := parrotMakesRow.holds Tryd.pinned (OpenSpec.ofChange parrotMakesWrong)

/-- 'pomadelaw08.ParrotSmullyan': WHATEVER THE INPUT: true; the input reads as it did. -/
def parrotSmullyanSpec : ChangeSpec := { name := "parrotSmullyan", fn := fun _ => fun
  | [d] => { results := [.lit (.bool true)], args := [d] }
  | _ => none }
def parrotSmullyanRow : OpenClaim := { program := "ytcjbnonjhahakaadoor", sum := "ba63e1b887b7d8f54ad806a986f682c8541c57991bd08863aeeec8c637cfa5bd", func := "pomade/pomadelaw08.ParrotSmullyan", spec := "parrotSmullyan", inPlace := ["internal/bytealg.IndexByteString", "internal/bytealg.IndexString"], unfollowed := true, recurses := true, named := ["unicode/utf8.first", "unicode/utf8.acceptRanges", "pomade/parrot.operations", "internal/bytealg.MaxLen"], apart := false, laid := [("unicode/utf8.acceptRanges", laid_unicode_utf8_acceptRanges), ("pomade/parrot.operations", laid_pomade_parrot_operations), ("unicode/utf8.first", laid_unicode_utf8_first)] }
def ParrotSmullyanSaid : Prop := parrotSmullyanRow.holds Tryd.pinned (OpenSpec.ofChange parrotSmullyanSpec)

/-- ITS FALSE NEIGHBOUR: 'it returns false'. Refute it at one input. -/
def parrotSmullyanWrong : ChangeSpec := { name := "parrotSmullyan", fn := fun _ => fun
  | [d] => { results := [.lit (.bool false)], args := [d] }
  | _ => none }
def ParrotSmullyanWrongFalsely : Prop := parrotSmullyanRow.holds Tryd.pinned (OpenSpec.ofChange parrotSmullyanWrong)

/-- 'pomadelaw08.ParrotWords': WHATEVER THE INPUT: true; the input reads as it did. -/
def parrotWordsSpec : ChangeSpec := { name := "parrotWords", fn := fun _ => fun
  | [d1, d2] => { results := [.lit (.bool true)], args := [d1, d2] }
  | _ => none }
def parrotWordsRow : OpenClaim := { program := "ytcjbnonjhahakaadoor", sum := "ba63e1b887b7d8f54ad806a986f682c8541c57991bd08863aeeec8c637cfa5bd", func := "pomade/pomadelaw08.ParrotWords", spec := "parrotWords", inPlace := ["internal/bytealg.IndexByteString", "internal/bytealg.IndexString"], unfollowed := true, recurses := true, named := ["unicode/utf8.first", "unicode/utf8.acceptRanges", "pomade/parrot.operations", "internal/bytealg.MaxLen"], apart := false, laid := [("unicode/utf8.acceptRanges", laid_unicode_utf8_acceptRanges), ("pomade/parrot.operations", laid_pomade_parrot_operations), ("unicode/utf8.first", laid_unicode_utf8_first)] }
def ParrotWordsSaid : Prop := parrotWordsRow.holds Tryd.pinned (OpenSpec.ofChange parrotWordsSpec)

/-- ITS FALSE NEIGHBOUR: 'it returns false'. Refute it at one input. -/
def parrotWordsWrong : ChangeSpec := { name := "parrotWords", fn := fun _ => fun
  | [d1, d2] => { results := [.lit (.bool false)], args := [d1, d2] }
  | _ => none }
def ParrotWordsWrongFalsely : Prop := parrotWordsRow.holds Tryd.pinned (OpenSpec.ofChange parrotWordsWrong)

/-- 'pomadelaw08.ParrotExchanged': WHATEVER THE INPUT: true; the input reads as it did. -/
def parrotExchangedSpec : ChangeSpec := { name := "parrotExchanged", fn := fun _ => fun
  | [d] => { results := [.lit (.bool true)], args := [d] }
  | _ => none }
def parrotExchangedRow : OpenClaim := { program := "ytcjbnonjhahakaadoor", sum := "ba63e1b887b7d8f54ad806a986f682c8541c57991bd08863aeeec8c637cfa5bd", func := "pomade/pomadelaw08.ParrotExchanged", spec := "parrotExchanged", inPlace := ["internal/bytealg.IndexByteString", "internal/bytealg.IndexString"], unfollowed := true, recurses := true, named := ["unicode/utf8.first", "unicode/utf8.acceptRanges", "pomade/parrot.operations", "internal/bytealg.MaxLen"], apart := false, laid := [("unicode/utf8.acceptRanges", laid_unicode_utf8_acceptRanges), ("pomade/parrot.operations", laid_pomade_parrot_operations), ("unicode/utf8.first", laid_unicode_utf8_first)] }
def ParrotExchangedSaid : Prop := parrotExchangedRow.holds Tryd.pinned (OpenSpec.ofChange parrotExchangedSpec)

/-- ITS FALSE NEIGHBOUR: 'it returns false'. Refute it at one input. -/
def parrotExchangedWrong : ChangeSpec := { name := "parrotExchanged", fn := fun _ => fun
  | [d] => { results := [.lit (.bool false)], args := [d] }
  | _ => none }
def ParrotExchangedWrongFalsely : Prop := parrotExchangedRow.holds Tryd.pinned (OpenSpec.ofChange parrotExchangedWrong)

/-- 'pomadelaw08.ParrotSelf': WHATEVER THE INPUT: true; the input reads as it did. -/
def parrotSelfSpec : ChangeSpec := { name := "parrotSelf", fn := fun _ => fun
  | [d1, d2, d3] => { results := [.lit (.bool true)], args := [d1, d2, d3] }
  | _ => none }
def parrotSelfRow : OpenClaim := { program := "ytcjbnonjhahakaadoor", sum := "ba63e1b887b7d8f54ad806a986f682c8541c57991bd08863aeeec8c637cfa5bd", func := "pomade/pomadelaw08.ParrotSelf", spec := "parrotSelf", inPlace := ["internal/bytealg.IndexByteString", "internal/bytealg.IndexString"], unfollowed := true, recurses := true, named := ["unicode/utf8.first", "unicode/utf8.acceptRanges", "pomade/parrot.operations", "internal/bytealg.MaxLen"], apart := false, laid := [("unicode/utf8.acceptRanges", laid_unicode_utf8_acceptRanges), ("pomade/parrot.operations", laid_pomade_parrot_operations), ("unicode/utf8.first", laid_unicode_utf8_first)] }
def ParrotSelfSaid : Prop := parrotSelfRow.holds Tryd.pinned (OpenSpec.ofChange parrotSelfSpec)

/-- ITS FALSE NEIGHBOUR: 'it returns false'. Refute it at one input. -/
def parrotSelfWrong : ChangeSpec := { name := "parrotSelf", fn := fun _ => fun
  | [d1, d2, d3] => { results := [.lit (.bool false)], args := [d1, d2, d3] }
  | _ => none }
def ParrotSelfWrongFalsely : Prop := parrotSelfRow.holds Tryd.pinned (OpenSpec.ofChange parrotSelfWrong)

/-- 'pomadelaw08.ParrotAfter': WHATEVER THE INPUT: true; the input reads as it did. -/
def parrotAfterSpec : ChangeSpec := { name := "parrotAfter", fn := fun _ => fun
  | [d1, d2] => { results := [.lit (.bool true)], args := [d1, d2] }
  | _ => none }
def parrotAfterRow : OpenClaim := { program := "ytcjbnonjhahakaadoor", sum := "ba63e1b887b7d8f54ad806a986f682c8541c57991bd08863aeeec8c637cfa5bd", func := "pomade/pomadelaw08.ParrotAfter", spec := "parrotAfter", inPlace := ["internal/bytealg.IndexByteString", "internal/bytealg.IndexString"], unfollowed := true, recurses := true, named := ["unicode/utf8.first", "unicode/utf8.acceptRanges", "pomade/parrot.operations", "internal/bytealg.MaxLen"], apart := false, laid := [("unicode/utf8.acceptRanges", laid_unicode_utf8_acceptRanges), ("pomade/parrot.operations", laid_pomade_parrot_operations), ("unicode/utf8.first", laid_unicode_utf8_first)] }
def ParrotAfterSaid : Prop := parrotAfterRow.holds Tryd.pinned (OpenSpec.ofChange parrotAfterSpec)

/-- ITS FALSE NEIGHBOUR: 'it returns false'. Refute it at one input. -/
def parrotAfterWrong : ChangeSpec := { name := "parrotAfter", fn := fun _ => fun
  | [d1, d2] => { results := [.lit (.bool false)], args := [d1, d2] }
  | _ => none }
def ParrotAfterWrongFalsely : Prop := parrotAfterRow.holds Tryd.pinned (OpenSpec.ofChange parrotAfterWrong)

/-- 'pomadelaw08.ParrotSelves': WHATEVER THE INPUT: true; the input reads as it did. -/
def parrotSelvesSpec : ChangeSpec := { name := "parrotSelves", fn := fun _ => fun
  | [d] => { results := [.lit (.bool true)], args := [d] }
  | _ => none }
def parrotSelvesRow : OpenClaim := { program := "ytcjbnonjhahakaadoor", sum := "ba63e1b887b7d8f54ad806a986f682c8541c57991bd08863aeeec8c637cfa5bd", func := "pomade/pomadelaw08.ParrotSelves", spec := "parrotSelves", inPlace := ["internal/bytealg.IndexByteString", "internal/bytealg.IndexString"], unfollowed := true, recurses := true, named := ["unicode/utf8.first", "unicode/utf8.acceptRanges", "pomade/parrot.operations", "internal/bytealg.MaxLen"], apart := false, laid := [("unicode/utf8.acceptRanges", laid_unicode_utf8_acceptRanges), ("pomade/parrot.operations", laid_pomade_parrot_operations), ("unicode/utf8.first", laid_unicode_utf8_first)] }
def ParrotSelvesSaid : Prop := parrotSelvesRow.holds Tryd.pinned (OpenSpec.ofChange parrotSelvesSpec)

/-- ITS FALSE NEIGHBOUR: 'it returns false'. Refute it at one input. -/
def parrotSelvesWrong : ChangeSpec := { name := "parrotSelves", fn := fun _ => fun
  | [d] => { results := [.lit (.bool false)], args := [d] }
  | _ => none }
def ParrotSelvesWrongFalsely : Prop := parrotSelvesRow.holds Tryd.pinned (OpenSpec.ofChange parrotSelvesWrong)

/-- 'pomadelaw08.ParrotOwn': WHATEVER THE INPUT: true; the input reads as it did. -/
def parrotOwnSpec : ChangeSpec := { name := "parrotOwn", fn := fun _ => fun
  | [d1, d2] => { results := [.lit (.bool true)], args := [d1, d2] }
  | _ => none }
def parrotOwnRow : OpenClaim := { program := "ytcjbnonjhahakaadoor", sum := "ba63e1b887b7d8f54ad806a986f682c8541c57991bd08863aeeec8c637cfa5bd", func := "pomade/pomadelaw08.ParrotOwn", spec := "parrotOwn", inPlace := ["internal/bytealg.IndexByteString", "internal/bytealg.IndexString"], unfollowed := true, recurses := true, named := ["pomade/parrot.operations", "unicode/utf8.first", "unicode/utf8.acceptRanges", "internal/bytealg.MaxLen"], apart := false, laid := [("unicode/utf8.acceptRanges", laid_unicode_utf8_acceptRanges), ("pomade/parrot.operations", laid_pomade_parrot_operations), ("unicode/utf8.first", laid_unicode_utf8_first)] }
def ParrotOwnSaid : Prop := parrotOwnRow.holds Tryd.pinned (OpenSpec.ofChange parrotOwnSpec)

/-- ITS FALSE NEIGHBOUR: 'it returns false'. Refute it at one input. -/
def parrotOwnWrong : ChangeSpec := { name := "parrotOwn", fn := fun _ => fun
  | [d1, d2] => { results := [.lit (.bool false)], args := [d1, d2] }
  | _ => none }
def ParrotOwnWrongFalsely : Prop := parrotOwnRow.holds Tryd.pinned (OpenSpec.ofChange parrotOwnWrong)

/-- 'pomadelaw08.ParrotMakers': WHATEVER THE INPUT: true; the input reads as it did. -/
def parrotMakersSpec : ChangeSpec := { name := "parrotMakers", fn := fun _ => fun
  | [d1, d2] => { results := [.lit (.bool true)], args := [d1, d2] }
  | _ => none }
def parrotMakersRow : OpenClaim := { program := "ytcjbnonjhahakaadoor", sum := "ba63e1b887b7d8f54ad806a986f682c8541c57991bd08863aeeec8c637cfa5bd", func := "pomade/pomadelaw08.ParrotMakers", spec := "parrotMakers", inPlace := ["internal/bytealg.IndexByteString", "internal/bytealg.IndexString", "internal/bytealg.abigen_runtime_cmpstring"], unfollowed := true, recurses := true, named := ["unicode/utf8.first", "unicode/utf8.acceptRanges", "pomade/parrot.operations", "internal/bytealg.MaxLen"], apart := false, laid := [("unicode/utf8.acceptRanges", laid_unicode_utf8_acceptRanges), ("pomade/parrot.operations", laid_pomade_parrot_operations), ("unicode/utf8.first", laid_unicode_utf8_first)] }
def ParrotMakersSaid : Prop := parrotMakersRow.holds Tryd.pinned (OpenSpec.ofChange parrotMakersSpec)

/-- ITS FALSE NEIGHBOUR: 'it returns false'. Refute it at one input. -/
def parrotMakersWrong : ChangeSpec := { name := "parrotMakers", fn := fun _ => fun
  | [d1, d2] => { results := [.lit (.bool false)], args := [d1, d2] }
  | _ => none }
def ParrotMakersWrongFalsely : Prop := parrotMakersRow.holds Tryd.pinned (OpenSpec.ofChange parrotMakersWrong)

/-- 'pomadelaw08.ParrotFound': WHATEVER THE INPUT: true; the input reads as it did. -/
def parrotFoundSpec : ChangeSpec := { name := "parrotFound", fn := fun _ => fun
  | [d1, d2, d3] => { results := [.lit (.bool true)], args := [d1, d2, d3] }
  | _ => none }
def parrotFoundRow : OpenClaim := { program := "ytcjbnonjhahakaadoor", sum := "ba63e1b887b7d8f54ad806a986f682c8541c57991bd08863aeeec8c637cfa5bd", func := "pomade/pomadelaw08.ParrotFound", spec := "parrotFound", inPlace := ["internal/bytealg.IndexByteString", "internal/bytealg.IndexString", "internal/bytealg.abigen_runtime_cmpstring"], unfollowed := true, recurses := true, named := ["unicode/utf8.first", "unicode/utf8.acceptRanges", "pomade/parrot.operations", "internal/bytealg.MaxLen"], apart := false, laid := [("unicode/utf8.acceptRanges", laid_unicode_utf8_acceptRanges), ("pomade/parrot.operations", laid_pomade_parrot_operations), ("unicode/utf8.first", laid_unicode_utf8_first)] }
def ParrotFoundSaid : Prop := parrotFoundRow.holds Tryd.pinned (OpenSpec.ofChange parrotFoundSpec)

/-- ITS FALSE NEIGHBOUR: 'it returns false'. Refute it at one input. -/
def parrotFoundWrong : ChangeSpec := { name := "parrotFound", fn := fun _ => fun
  | [d1, d2, d3] => { results := [.lit (.bool false)], args := [d1, d2, d3] }
  | _ => none }
def ParrotFoundWrongFalsely : Prop := parrotFoundRow.holds Tryd.pinned (OpenSpec.ofChange parrotFoundWrong)

/- THE SECOND FORM. 'bulk': how many values and letters a reading holds, each counted each time it is reached (what is shared counts as often as it is met; a slice's spare places count too). A statement '..UptoSaid' is the law's where the arguments, and the package variables that the reading takes, are together of bulk at most 1048576: NARROWER than '..Said'. Prove '..Said' where nothing that the law and all that it calls make is longer than what came in: it says more and counts as full. Else prove '..UptoSaid'. A law counts once. -/
mutual
def uptoBulk {H : Type} : DataW H → Nat
  | .lit (.string bytes) => bytes.length + 1
  | .lit _ => 1
  | .nil => 1
  | .ptr d => uptoBulk d + 1
  | .slice elems spare => uptoBulkAll elems + uptoBulkAll spare + 1
  | .agg parts => uptoBulkAll parts + 1
  | .iface _ d => uptoBulk d + 1
  | .map entries => uptoBulkEntries entries + 1
  | .held _ => 1
def uptoBulkAll {H : Type} : List (DataW H) → Nat
  | [] => 0
  | d :: r => uptoBulk d + uptoBulkAll r
def uptoBulkEntries {H : Type} : List (Lit × DataW H) → Nat
  | [] => 0
  | x :: r => uptoBulkEntry x + uptoBulkEntries r
def uptoBulkEntry {H : Type} : Lit × DataW H → Nat
  | (.string bytes, d) => bytes.length + uptoBulk d + 1
  | (_, d) => uptoBulk d + 1
 end
def uptoSmall : (H : Type) → List (DataW H) → Bool := fun _ ds => decide (uptoBulkAll ds ≤ 1048576)
def OpenSpec.upto (s : _root_.Go.ChangeSpec) : _root_.Go.OpenSpec := { _root_.Go.OpenSpec.ofChange s with cond := some uptoSmall }

/-- 'pomadelaw08.ParrotLives', WHERE WHAT IT READS IS OF BULK AT MOST 1048576: true; the input reads as it did. -/
def parrotLivesUptoRow : OpenClaim := { program := "ytcjbnonjhahakaadoor", sum := "ba63e1b887b7d8f54ad806a986f682c8541c57991bd08863aeeec8c637cfa5bd", func := "pomade/pomadelaw08.ParrotLives", spec := "parrotLives", inPlace := ["internal/bytealg.IndexByteString", "internal/bytealg.IndexString"], unfollowed := true, recurses := true, named := ["unicode/utf8.first", "unicode/utf8.acceptRanges", "pomade/parrot.operations", "internal/bytealg.MaxLen"], apart := false, laid := [("unicode/utf8.acceptRanges", laid_unicode_utf8_acceptRanges), ("pomade/parrot.operations", laid_pomade_parrot_operations), ("unicode/utf8.first", laid_unicode_utf8_first)], narrowed := true }
def ParrotLivesUptoSaid : Prop := parrotLivesUptoRow.holds Tryd.pinned (OpenSpec.upto parrotLivesSpec)

/-- 'pomadelaw08.ParrotLong', WHERE WHAT IT READS IS OF BULK AT MOST 1048576: true; the input reads as it did. -/
def parrotLongUptoRow : OpenClaim := { program := "ytcjbnonjhahakaadoor", sum := "ba63e1b887b7d8f54ad806a986f682c8541c57991bd08863aeeec8c637cfa5bd", func := "pomade/pomadelaw08.ParrotLong", spec := "parrotLong", inPlace := ["internal/bytealg.IndexByteString", "internal/bytealg.IndexString"], unfollowed := true, recurses := true, named := ["unicode/utf8.first", "unicode/utf8.acceptRanges", "pomade/parrot.operations", "internal/bytealg.MaxLen"], apart := false, laid := [("unicode/utf8.acceptRanges", laid_unicode_utf8_acceptRanges), ("pomade/parrot.operations", laid_pomade_parrot_operations), ("unicode/utf8.first", laid_unicode_utf8_first)], narrowed := true }
def ParrotLongUptoSaid : Prop := parrotLongUptoRow.holds Tryd.pinned (OpenSpec.upto parrotLongSpec)

/-- 'pomadelaw08.ParrotLife', WHERE WHAT IT READS IS OF BULK AT MOST 1048576: true; the input reads as it did. -/
def parrotLifeUptoRow : OpenClaim := { program := "ytcjbnonjhahakaadoor", sum := "ba63e1b887b7d8f54ad806a986f682c8541c57991bd08863aeeec8c637cfa5bd", func := "pomade/pomadelaw08.ParrotLife", spec := "parrotLife", inPlace := ["internal/bytealg.IndexByteString", "internal/bytealg.IndexString"], unfollowed := true, recurses := true, named := ["unicode/utf8.first", "unicode/utf8.acceptRanges", "pomade/parrot.operations", "internal/bytealg.MaxLen"], apart := false, laid := [("unicode/utf8.acceptRanges", laid_unicode_utf8_acceptRanges), ("pomade/parrot.operations", laid_pomade_parrot_operations), ("unicode/utf8.first", laid_unicode_utf8_first)], narrowed := true }
def ParrotLifeUptoSaid : Prop := parrotLifeUptoRow.holds Tryd.pinned (OpenSpec.upto parrotLifeSpec)

/-- 'pomadelaw08.ParrotMakes', WHERE WHAT IT READS IS OF BULK AT MOST 1048576: true; the input reads as it did. -/
def parrotMakesUptoRow : OpenClaim := { program := "ytcjbnonjhahakaadoor", sum := "ba63e1b887b7d8f54ad806a986f682c8541c57991bd08863aeeec8c637cfa5bd", func := "pomade/pomadelaw08.ParrotMakes", spec := "parrotMakes", inPlace := ["internal/bytealg.IndexByteString", "internal/bytealg.IndexString"], unfollowed := true, recurses := true, named := ["unicode/utf8.first", "unicode/utf8.acceptRanges", "pomade/parrot.operations", "internal/bytealg.MaxLen"], apart := false, laid := [("unicode/utf8.acceptRanges", laid_unicode_utf8_acceptRanges), ("pomade/parrot.operations", laid_pomade_parrot_operations), ("unicode/utf8.first", laid_unicode_utf8_first)], narrowed := true }
def ParrotMakesUptoSaid : Prop := parrotMakesUptoRow.holds Tryd.pinned (OpenSpec.upto parrotMakesSpec)

/-- 'pomadelaw08.ParrotSmullyan', WHERE WHAT IT READS IS OF BULK AT MOST 1048576: true; the input reads as it did. -/
def parrotSmullyanUptoRow : OpenClaim := { program := "ytcjbnonjhahakaadoor", sum := "ba63e1b887b7d8f54ad806a986f682c8541c57991bd08863aeeec8c637cfa5bd", func := "pomade/pomadelaw08.ParrotSmullyan", spec := "parrotSmullyan", inPlace := ["internal/bytealg.IndexByteString", "internal/bytealg.IndexString"], unfollowed := true, recurses := true, named := ["unicode/utf8.first", "unicode/utf8.acceptRanges", "pomade/parrot.operations", "internal/bytealg.MaxLen"], apart := false, laid := [("unicode/utf8.acceptRanges", laid_unicode_utf8_acceptRanges), ("pomade/parrot.operations", laid_pomade_parrot_operations), ("unicode/utf8.first", laid_unicode_utf8_first)], narrowed := true }
def ParrotSmullyanUptoSaid : Prop := parrotSmullyanUptoRow.holds Tryd.pinned (OpenSpec.upto parrotSmullyanSpec)

/-- 'pomadelaw08.ParrotWords', WHERE WHAT IT READS IS OF BULK AT MOST 1048576: true; the input reads as it did. -/
def parrotWordsUptoRow : OpenClaim := { program := "ytcjbnonjhahakaadoor", sum := "ba63e1b887b7d8f54ad806a986f682c8541c57991bd08863aeeec8c637cfa5bd", func := "pomade/pomadelaw08.ParrotWords", spec := "parrotWords", inPlace := ["internal/bytealg.IndexByteString", "internal/bytealg.IndexString"], unfollowed := true, recurses := true, named := ["unicode/utf8.first", "unicode/utf8.acceptRanges", "pomade/parrot.operations", "internal/bytealg.MaxLen"], apart := false, laid := [("unicode/utf8.acceptRanges", laid_unicode_utf8_acceptRanges), ("pomade/parrot.operations", laid_pomade_parrot_operations), ("unicode/utf8.first", laid_unicode_utf8_first)], narrowed := true }
def ParrotWordsUptoSaid : Prop := parrotWordsUptoRow.holds Tryd.pinned (OpenSpec.upto parrotWordsSpec)

/-- 'pomadelaw08.ParrotExchanged', WHERE WHAT IT READS IS OF BULK AT MOST 1048576: true; the input reads as it did. -/
def parrotExchangedUptoRow : OpenClaim := { program := "ytcjbnonjhahakaadoor", sum := "ba63e1b887b7d8f54ad806a986f682c8541c57991bd08863aeeec8c637cfa5bd", func := "pomade/pomadelaw08.ParrotExchanged", spec := "parrotExchanged", inPlace := ["internal/bytealg.IndexByteString", "internal/bytealg.IndexString"], unfollowed := true, recurses := true, named := ["unicode/utf8.first", "unicode/utf8.acceptRanges", "pomade/parrot.operations", "internal/bytealg.MaxLen"], apart := false, laid := [("unicode/utf8.acceptRanges", laid_unicode_utf8_acceptRanges), ("pomade/parrot.operations", laid_pomade_parrot_operations), ("unicode/utf8.first", laid_unicode_utf8_first)], narrowed := true }
def ParrotExchangedUptoSaid : Prop := parrotExchangedUptoRow.holds Tryd.pinned (OpenSpec.upto parrotExchangedSpec)

/-- 'pomadelaw08.ParrotSelf', WHERE WHAT IT READS IS OF BULK AT MOST 1048576: true; the input reads as it did. -/
def parrotSelfUptoRow : OpenClaim := { program := "ytcjbnonjhahakaadoor", sum := "ba63e1b887b7d8f54ad806a986f682c8541c57991bd08863aeeec8c637cfa5bd", func := "pomade/pomadelaw08.ParrotSelf", spec := "parrotSelf", inPlace := ["internal/bytealg.IndexByteString", "internal/bytealg.IndexString"], unfollowed := true, recurses := true, named := ["unicode/utf8.first", "unicode/utf8.acceptRanges", "pomade/parrot.operations", "internal/bytealg.MaxLen"], apart := false, laid := [("unicode/utf8.acceptRanges", laid_unicode_utf8_acceptRanges), ("pomade/parrot.operations", laid_pomade_parrot_operations), ("unicode/utf8.first", laid_unicode_utf8_first)], narrowed := true }
def ParrotSelfUptoSaid : Prop := parrotSelfUptoRow.holds Tryd.pinned (OpenSpec.upto parrotSelfSpec)

/-- 'pomadelaw08.ParrotAfter', WHERE WHAT IT READS IS OF BULK AT MOST 1048576: true; the input reads as it did. -/
def parrotAfterUptoRow : OpenClaim := { program := "ytcjbnonjhahakaadoor", sum := "ba63e1b887b7d8f54ad806a986f682c8541c57991bd08863aeeec8c637cfa5bd", func := "pomade/pomadelaw08.ParrotAfter", spec := "parrotAfter", inPlace := ["internal/bytealg.IndexByteString", "internal/bytealg.IndexString"], unfollowed := true, recurses := true, named := ["unicode/utf8.first", "unicode/utf8.acceptRanges", "pomade/parrot.operations", "internal/bytealg.MaxLen"], apart := false, laid := [("unicode/utf8.acceptRanges", laid_unicode_utf8_acceptRanges), ("pomade/parrot.operations", laid_pomade_parrot_operations), ("unicode/utf8.first", laid_unicode_utf8_first)], narrowed := true }
def ParrotAfterUptoSaid : Prop := parrotAfterUptoRow.holds Tryd.pinned (OpenSpec.upto parrotAfterSpec)

/-- 'pomadelaw08.ParrotSelves', WHERE WHAT IT READS IS OF BULK AT MOST 1048576: true; the input reads as it did. -/
def parrotSelvesUptoRow : OpenClaim := { program := "ytcjbnonjhahakaadoor", sum := "ba63e1b887b7d8f54ad806a986f682c8541c57991bd08863aeeec8c637cfa5bd", func := "pomade/pomadelaw08.ParrotSelves", spec := "parrotSelves", inPlace := ["internal/bytealg.IndexByteString", "internal/bytealg.IndexString"], unfollowed := true, recurses := true, named := ["unicode/utf8.first", "unicode/utf8.acceptRanges", "pomade/parrot.operations", "internal/bytealg.MaxLen"], apart := false, laid := [("unicode/utf8.acceptRanges", laid_unicode_utf8_acceptRanges), ("pomade/parrot.operations", laid_pomade_parrot_operations), ("unicode/utf8.first", laid_unicode_utf8_first)], narrowed := true }
def ParrotSelvesUptoSaid : Prop := parrotSelvesUptoRow.holds Tryd.pinned (OpenSpec.upto parrotSelvesSpec)

/-- 'pomadelaw08.ParrotOwn', WHERE WHAT IT READS IS OF BULK AT MOST 1048576: true; the input reads as it did. -/
def parrotOwnUptoRow : OpenClaim := { program := "ytcjbnonjhahakaadoor", sum := "ba63e1b887b7d8f54ad806a986f682c8541c57991bd08863aeeec8c637cfa5bd", func := "pomade/pomadelaw08.ParrotOwn", spec := "parrotOwn", inPlace := ["internal/bytealg.IndexByteString", "internal/bytealg.IndexString"], unfollowed := true, recurses := true, named := ["pomade/parrot.operations", "unicode/utf8.first", "unicode/utf8.acceptRanges", "internal/bytealg.MaxLen"], apart := false, laid := [("unicode/utf8.acceptRanges", laid_unicode_utf8_acceptRanges), ("pomade/parrot.operations", laid_pomade_parrot_operations), ("unicode/utf8.first", laid_unicode_utf8_first)], narrowed := true }
def ParrotOwnUptoSaid : Prop := parrotOwnUptoRow.holds Tryd.pinned (OpenSpec.upto parrotOwnSpec)

/-- 'pomadelaw08.ParrotMakers', WHERE WHAT IT READS IS OF BULK AT MOST 1048576: true; the input reads as it did. -/
def parrotMakersUptoRow : OpenClaim := { program := "ytcjbnonjhahakaadoor", sum := "ba63e1b887b7d8f54ad806a986f682c8541c57991bd08863aeeec8c637cfa5bd", func := "pomade/pomadelaw08.ParrotMakers", spec := "parrotMakers", inPlace := ["internal/bytealg.IndexByteString", "internal/bytealg.IndexString", "internal/bytealg.abigen_runtime_cmpstring"], unfollowed := true, recurses := true, named := ["unicode/utf8.first", "unicode/utf8.acceptRanges", "pomade/parrot.operations", "internal/bytealg.MaxLen"], apart := false, laid := [("unicode/utf8.acceptRanges", laid_unicode_utf8_acceptRanges), ("pomade/parrot.operations", laid_pomade_parrot_operations), ("unicode/utf8.first", laid_unicode_utf8_first)], narrowed := true }
def ParrotMakersUptoSaid : Prop := parrotMakersUptoRow.holds Tryd.pinned (OpenSpec.upto parrotMakersSpec)

/-- 'pomadelaw08.ParrotFound', WHERE WHAT IT READS IS OF BULK AT MOST 1048576: true; the input reads as it did. -/
def parrotFoundUptoRow : OpenClaim := { program := "ytcjbnonjhahakaadoor", sum := "ba63e1b887b7d8f54ad806a986f682c8541c57991bd08863aeeec8c637cfa5bd", func := "pomade/pomadelaw08.ParrotFound", spec := "parrotFound", inPlace := ["internal/bytealg.IndexByteString", "internal/bytealg.IndexString", "internal/bytealg.abigen_runtime_cmpstring"], unfollowed := true, recurses := true, named := ["unicode/utf8.first", "unicode/utf8.acceptRanges", "pomade/parrot.operations", "internal/bytealg.MaxLen"], apart := false, laid := [("unicode/utf8.acceptRanges", laid_unicode_utf8_acceptRanges), ("pomade/parrot.operations", laid_pomade_parrot_operations), ("unicode/utf8.first", laid_unicode_utf8_first)], narrowed := true }
def ParrotFoundUptoSaid : Prop := parrotFoundUptoRow.holds Tryd.pinned (OpenSpec.upto parrotFoundSpec)

end Rows
end Go.Proofs.YtcjbnonjhahakaaDoor
