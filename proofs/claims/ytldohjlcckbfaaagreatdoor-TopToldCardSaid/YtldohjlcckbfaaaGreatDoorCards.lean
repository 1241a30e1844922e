/-
  DERIVED. GIVEN WITH THE SEED: THE CARDS: each row of YtldohjlcckbfaaaGreatDoorRows.lean that lists a variable, with what it lists TIED to the program's text (the seventh form; the later family's looks); each row that meets fmt, with fmt's text TOLD by the authors' own Lean function (tested against real Go, not proved from fmt's source: count such statements apart). THE CARD IS WHAT COUNTS. Prove the row's statement (the work); the ties are given (YtldohjlcckbfaaaGreatDoorTie.lean); close each card by the builder's one call (the guide's Derived/Test/ToyasCard.lean, 'card_holds'). Laid BY PROGRAM, IN A SANDBOX (cutbox-door.mjs). By AI agents, Wed Nov 11 2026. No macro, syntax, notation, axiom, sorry.
-/
import Derived.Test.YtldohjlcckbfaaaGreatDoorRows
import GoSem.ClaimSeven
namespace Go.Proofs.YtldohjlcckbfaaaGreatDoor
namespace Rows

/-- THE TIED CARD OF 'pomadetop.TopRaney'. -/
def topRaneyCard : Claim7 := { stood := { row := topRaneyRow, standIns := [], harness := (true, "7c73d8b5e347ef3dbed8fa84ceed50f878ed2b475090ecb7b7ec4f2f3f9ca164"), looks := true }, kinds := [], alts := [], laidByText := true, laidKinds := [.data, .pinned], laidTests := true, laidLooks := .later }
def TopRaneyCardSaid : Prop := Claim7.holds Tryz.pinned (.plain (OpenSpec.ofChange topRaneySpec)) topRaneyCard

/-- THE TIED CARD OF 'pomadetop.TopTold'. -/
def topToldCard : Claim7 := { stood := { row := topToldRow, standIns := [], harness := (true, "7c73d8b5e347ef3dbed8fa84ceed50f878ed2b475090ecb7b7ec4f2f3f9ca164"), looks := true }, kinds := [], alts := [], laidByText := true, laidKinds := [.data, .data, .data, .data, .sentinel, .sentinel, .data, .funcs, .pinned], laidTests := true, laidLooks := .later }
def TopToldCardSaid : Prop := Claim7.holds Tryz.pinned (.plain (OpenSpec.ofChange topToldSpec)) topToldCard

/-- THE SECOND FORM's CARD OF 'pomadetop.TopRaney'. -/
def topRaneyUptoCard : Claim7 := { stood := { row := topRaneyUptoRow, standIns := [], harness := (true, "7c73d8b5e347ef3dbed8fa84ceed50f878ed2b475090ecb7b7ec4f2f3f9ca164"), looks := true }, kinds := [], alts := [], laidByText := true, laidKinds := [.data, .pinned], laidTests := true, laidLooks := .later }
def TopRaneyUptoCardSaid : Prop := Claim7.holds Tryz.pinned (.plain (OpenSpec.upto topRaneySpec)) topRaneyUptoCard

/-- THE SECOND FORM's CARD OF 'pomadetop.TopTold'. -/
def topToldUptoCard : Claim7 := { stood := { row := topToldUptoRow, standIns := [], harness := (true, "7c73d8b5e347ef3dbed8fa84ceed50f878ed2b475090ecb7b7ec4f2f3f9ca164"), looks := true }, kinds := [], alts := [], laidByText := true, laidKinds := [.data, .data, .data, .data, .sentinel, .sentinel, .data, .funcs, .pinned], laidTests := true, laidLooks := .later }
def TopToldUptoCardSaid : Prop := Claim7.holds Tryz.pinned (.plain (OpenSpec.upto topToldSpec)) topToldUptoCard
end Rows
end Go.Proofs.YtldohjlcckbfaaaGreatDoor
