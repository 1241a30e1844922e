/-
  DERIVED. GIVEN WITH THE SEED: THE CARDS: each row of YtldohjlcckbfaaaDoorRows.lean that lists a variable, with what it lists TIED to the program's text (the seventh form; the later family's looks); each row that meets fmt, with fmt's text TOLD by the authors' own Lean function (tested against real Go, not proved from fmt's source: count such statements apart). THE CARD IS WHAT COUNTS. Prove the row's statement (the work); the ties are given (YtldohjlcckbfaaaDoorTie.lean); close each card by the builder's one call (the guide's Derived/Test/ToyasCard.lean, 'card_holds'). Laid BY PROGRAM, IN A SANDBOX (cutbox-door.mjs). By AI agents, Wed Nov 11 2026. No macro, syntax, notation, axiom, sorry.
-/
import Derived.Test.YtldohjlcckbfaaaDoorRows
import GoSem.ClaimSeven
namespace Go.Proofs.YtldohjlcckbfaaaDoor
namespace Rows

/-- THE TIED CARD OF 'pomadetop.TopParking'. -/
def topParkingCard : Claim7 := { stood := { row := topParkingRow, standIns := [], harness := (true, "e653b47021aaefe0fd36a51f23dd27cc96060e5554f86b1b99eb20b6f42b742e"), looks := false }, kinds := [], alts := [], laidByText := true, laidKinds := [.data, .pinned], laidTests := true, laidLooks := .later }
def TopParkingCardSaid : Prop := Claim7.holds Tryd.pinned (.plain (OpenSpec.ofChange topParkingSpec)) topParkingCard

/-- THE SECOND FORM's CARD OF 'pomadetop.TopParking'. -/
def topParkingUptoCard : Claim7 := { stood := { row := topParkingUptoRow, standIns := [], harness := (true, "e653b47021aaefe0fd36a51f23dd27cc96060e5554f86b1b99eb20b6f42b742e"), looks := false }, kinds := [], alts := [], laidByText := true, laidKinds := [.data, .pinned], laidTests := true, laidLooks := .later }
def TopParkingUptoCardSaid : Prop := Claim7.holds Tryd.pinned (.plain (OpenSpec.upto topParkingSpec)) topParkingUptoCard
end Rows
end Go.Proofs.YtldohjlcckbfaaaDoor
