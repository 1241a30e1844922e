/-
  DERIVED. GIVEN WITH THE SEED: THE CARDS: each row of YtnjimbgfafkogaaDoorRows.lean that lists a variable, with what it lists TIED to the program's text (the seventh form; the later family's looks); each row that meets fmt, with fmt's text TOLD by the authors' own Lean function (tested against real Go, not proved from fmt's source: count such statements apart). THE CARD IS WHAT COUNTS. Prove the row's statement (the work); the ties are given (YtnjimbgfafkogaaDoorTie.lean); close each card by the builder's one call (the guide's Derived/Test/ToyasCard.lean, 'card_holds'). Laid BY PROGRAM, IN A SANDBOX (cutbox-door.mjs). By AI agents, Wed Nov 11 2026. No macro, syntax, notation, axiom, sorry.
-/
import Derived.Test.YtnjimbgfafkogaaDoorRows
import GoSem.ClaimSeven
namespace Go.Proofs.YtnjimbgfafkogaaDoor
namespace Rows

/-- THE TIED CARD OF 'pomadelaw09.TillRotations'. -/
def tillRotationsCard : Claim7 := { stood := { row := tillRotationsRow, standIns := [], harness := (true, "beca19dee12693aa1c3767bd58f186dd076d0d308b2e624e82c15273f055620d"), looks := false }, kinds := [], alts := [], laidByText := true, laidKinds := [.data, .pinned], laidTests := true, laidLooks := .later }
def TillRotationsCardSaid : Prop := Claim7.holds Tryd.pinned (.plain (OpenSpec.ofChange tillRotationsSpec)) tillRotationsCard

/-- THE TIED CARD OF 'pomadelaw09.TillBallots'. -/
def tillBallotsCard : Claim7 := { stood := { row := tillBallotsRow, standIns := [], harness := (true, "beca19dee12693aa1c3767bd58f186dd076d0d308b2e624e82c15273f055620d"), looks := false }, kinds := [], alts := [], laidByText := true, laidKinds := [.data, .pinned], laidTests := true, laidLooks := .later }
def TillBallotsCardSaid : Prop := Claim7.holds Tryd.pinned (.plain (OpenSpec.ofChange tillBallotsSpec)) tillBallotsCard

/-- THE TIED CARD OF 'pomadelaw09.TillMirrors'. -/
def tillMirrorsCard : Claim7 := { stood := { row := tillMirrorsRow, standIns := [], harness := (true, "beca19dee12693aa1c3767bd58f186dd076d0d308b2e624e82c15273f055620d"), looks := false }, kinds := [], alts := [], laidByText := true, laidKinds := [.data, .pinned], laidTests := true, laidLooks := .later }
def TillMirrorsCardSaid : Prop := Claim7.holds Tryd.pinned (.plain (OpenSpec.ofChange tillMirrorsSpec)) tillMirrorsCard

/-- THE TIED CARD OF 'pomadelaw09.TillMotzkin'. -/
def tillMotzkinCard : Claim7 := { stood := { row := tillMotzkinRow, standIns := [], harness := (true, "beca19dee12693aa1c3767bd58f186dd076d0d308b2e624e82c15273f055620d"), looks := false }, kinds := [], alts := [], laidByText := true, laidKinds := [.data, .pinned], laidTests := true, laidLooks := .later }
def TillMotzkinCardSaid : Prop := Claim7.holds Tryd.pinned (.plain (OpenSpec.ofChange tillMotzkinSpec)) tillMotzkinCard

/-- THE TIED CARD OF 'pomadelaw09.TillBertrand'. -/
def tillBertrandCard : Claim7 := { stood := { row := tillBertrandRow, standIns := [], harness := (true, "beca19dee12693aa1c3767bd58f186dd076d0d308b2e624e82c15273f055620d"), looks := false }, kinds := [], alts := [], laidByText := true, laidKinds := [.data, .pinned], laidTests := true, laidLooks := .later }
def TillBertrandCardSaid : Prop := Claim7.holds Tryd.pinned (.plain (OpenSpec.ofChange tillBertrandSpec)) tillBertrandCard

/-- THE TIED CARD OF 'pomadelaw09.TillReflected'. -/
def tillReflectedCard : Claim7 := { stood := { row := tillReflectedRow, standIns := [], harness := (true, "beca19dee12693aa1c3767bd58f186dd076d0d308b2e624e82c15273f055620d"), looks := false }, kinds := [], alts := [], laidByText := true, laidKinds := [.data, .pinned], laidTests := true, laidLooks := .later }
def TillReflectedCardSaid : Prop := Claim7.holds Tryd.pinned (.plain (OpenSpec.ofChange tillReflectedSpec)) tillReflectedCard

/-- THE TIED CARD OF 'pomadelaw09.TillSides'. -/
def tillSidesCard : Claim7 := { stood := { row := tillSidesRow, standIns := [], harness := (true, "beca19dee12693aa1c3767bd58f186dd076d0d308b2e624e82c15273f055620d"), looks := false }, kinds := [], alts := [], laidByText := true, laidKinds := [.data, .pinned], laidTests := true, laidLooks := .later }
def TillSidesCardSaid : Prop := Claim7.holds Tryd.pinned (.plain (OpenSpec.ofChange tillSidesSpec)) tillSidesCard

/-- THE TIED CARD OF 'pomadelaw09.TillArcs'. -/
def tillArcsCard : Claim7 := { stood := { row := tillArcsRow, standIns := [], harness := (true, "beca19dee12693aa1c3767bd58f186dd076d0d308b2e624e82c15273f055620d"), looks := false }, kinds := [], alts := [], laidByText := true, laidKinds := [.data, .pinned], laidTests := true, laidLooks := .later }
def TillArcsCardSaid : Prop := Claim7.holds Tryd.pinned (.plain (OpenSpec.ofChange tillArcsSpec)) tillArcsCard

/-- THE TIED CARD OF 'pomadelaw09.TillCatalan'. -/
def tillCatalanCard : Claim7 := { stood := { row := tillCatalanRow, standIns := [], harness := (true, "beca19dee12693aa1c3767bd58f186dd076d0d308b2e624e82c15273f055620d"), looks := false }, kinds := [], alts := [], laidByText := true, laidKinds := [.data, .pinned], laidTests := true, laidLooks := .later }
def TillCatalanCardSaid : Prop := Claim7.holds Tryd.pinned (.plain (OpenSpec.ofChange tillCatalanSpec)) tillCatalanCard

/-- THE TIED CARD OF 'pomadelaw09.TillWithin'. -/
def tillWithinCard : Claim7 := { stood := { row := tillWithinRow, standIns := [], harness := (true, "beca19dee12693aa1c3767bd58f186dd076d0d308b2e624e82c15273f055620d"), looks := false }, kinds := [], alts := [], laidByText := true, laidKinds := [.data, .pinned], laidTests := true, laidLooks := .later }
def TillWithinCardSaid : Prop := Claim7.holds Tryd.pinned (.plain (OpenSpec.ofChange tillWithinSpec)) tillWithinCard

/-- THE TIED CARD OF 'pomadelaw09.TillReflects'. -/
def tillReflectsCard : Claim7 := { stood := { row := tillReflectsRow, standIns := [], harness := (true, "beca19dee12693aa1c3767bd58f186dd076d0d308b2e624e82c15273f055620d"), looks := false }, kinds := [], alts := [], laidByText := true, laidKinds := [.data, .pinned], laidTests := true, laidLooks := .later }
def TillReflectsCardSaid : Prop := Claim7.holds Tryd.pinned (.plain (OpenSpec.ofChange tillReflectsSpec)) tillReflectsCard

/-- THE TIED CARD OF 'pomadelaw09.TillWalks'. -/
def tillWalksCard : Claim7 := { stood := { row := tillWalksRow, standIns := [], harness := (true, "beca19dee12693aa1c3767bd58f186dd076d0d308b2e624e82c15273f055620d"), looks := false }, kinds := [], alts := [], laidByText := true, laidKinds := [.data, .pinned], laidTests := true, laidLooks := .later }
def TillWalksCardSaid : Prop := Claim7.holds Tryd.pinned (.plain (OpenSpec.ofChange tillWalksSpec)) tillWalksCard

/-- THE TIED CARD OF 'pomadelaw09.TillChung'. -/
def tillChungCard : Claim7 := { stood := { row := tillChungRow, standIns := [], harness := (true, "beca19dee12693aa1c3767bd58f186dd076d0d308b2e624e82c15273f055620d"), looks := false }, kinds := [], alts := [], laidByText := true, laidKinds := [.data, .pinned], laidTests := true, laidLooks := .later }
def TillChungCardSaid : Prop := Claim7.holds Tryd.pinned (.plain (OpenSpec.ofChange tillChungSpec)) tillChungCard

/-- THE TIED CARD OF 'pomadelaw09.TillAndersen'. -/
def tillAndersenCard : Claim7 := { stood := { row := tillAndersenRow, standIns := [], harness := (true, "beca19dee12693aa1c3767bd58f186dd076d0d308b2e624e82c15273f055620d"), looks := false }, kinds := [], alts := [], laidByText := true, laidKinds := [.data, .pinned], laidTests := true, laidLooks := .later }
def TillAndersenCardSaid : Prop := Claim7.holds Tryd.pinned (.plain (OpenSpec.ofChange tillAndersenSpec)) tillAndersenCard

/-- THE TIED CARD OF 'pomadelaw09.TillAhead'. -/
def tillAheadCard : Claim7 := { stood := { row := tillAheadRow, standIns := [], harness := (true, "beca19dee12693aa1c3767bd58f186dd076d0d308b2e624e82c15273f055620d"), looks := false }, kinds := [], alts := [], laidByText := true, laidKinds := [.data, .pinned], laidTests := true, laidLooks := .later }
def TillAheadCardSaid : Prop := Claim7.holds Tryd.pinned (.plain (OpenSpec.ofChange tillAheadSpec)) tillAheadCard

/-- THE SECOND FORM's CARD OF 'pomadelaw09.TillRotations'. -/
def tillRotationsUptoCard : Claim7 := { stood := { row := tillRotationsUptoRow, standIns := [], harness := (true, "beca19dee12693aa1c3767bd58f186dd076d0d308b2e624e82c15273f055620d"), looks := false }, kinds := [], alts := [], laidByText := true, laidKinds := [.data, .pinned], laidTests := true, laidLooks := .later }
def TillRotationsUptoCardSaid : Prop := Claim7.holds Tryd.pinned (.plain (OpenSpec.upto tillRotationsSpec)) tillRotationsUptoCard

/-- THE SECOND FORM's CARD OF 'pomadelaw09.TillBallots'. -/
def tillBallotsUptoCard : Claim7 := { stood := { row := tillBallotsUptoRow, standIns := [], harness := (true, "beca19dee12693aa1c3767bd58f186dd076d0d308b2e624e82c15273f055620d"), looks := false }, kinds := [], alts := [], laidByText := true, laidKinds := [.data, .pinned], laidTests := true, laidLooks := .later }
def TillBallotsUptoCardSaid : Prop := Claim7.holds Tryd.pinned (.plain (OpenSpec.upto tillBallotsSpec)) tillBallotsUptoCard

/-- THE SECOND FORM's CARD OF 'pomadelaw09.TillMirrors'. -/
def tillMirrorsUptoCard : Claim7 := { stood := { row := tillMirrorsUptoRow, standIns := [], harness := (true, "beca19dee12693aa1c3767bd58f186dd076d0d308b2e624e82c15273f055620d"), looks := false }, kinds := [], alts := [], laidByText := true, laidKinds := [.data, .pinned], laidTests := true, laidLooks := .later }
def TillMirrorsUptoCardSaid : Prop := Claim7.holds Tryd.pinned (.plain (OpenSpec.upto tillMirrorsSpec)) tillMirrorsUptoCard

/-- THE SECOND FORM's CARD OF 'pomadelaw09.TillMotzkin'. -/
def tillMotzkinUptoCard : Claim7 := { stood := { row := tillMotzkinUptoRow, standIns := [], harness := (true, "beca19dee12693aa1c3767bd58f186dd076d0d308b2e624e82c15273f055620d"), looks := false }, kinds := [], alts := [], laidByText := true, laidKinds := [.data, .pinned], laidTests := true, laidLooks := .later }
def TillMotzkinUptoCardSaid : Prop := Claim7.holds Tryd.pinned (.plain (OpenSpec.upto tillMotzkinSpec)) tillMotzkinUptoCard

/-- THE SECOND FORM's CARD OF 'pomadelaw09.TillBertrand'. -/
def tillBertrandUptoCard : Claim7 := { stood := { row := tillBertrandUptoRow, standIns := [], harness := (true, "beca19dee12693aa1c3767bd58f186dd076d0d308b2e624e82c15273f055620d"), looks := false }, kinds := [], alts := [], laidByText := true, laidKinds := [.data, .pinned], laidTests := true, laidLooks := .later }
def TillBertrandUptoCardSaid : Prop := Claim7.holds Tryd.pinned (.plain (OpenSpec.upto tillBertrandSpec)) tillBertrandUptoCard

/-- THE SECOND FORM's CARD OF 'pomadelaw09.TillReflected'. -/
def tillReflectedUptoCard : Claim7 := { stood := { row := tillReflectedUptoRow, standIns := [], harness := (true, "beca19dee12693aa1c3767bd58f186dd076d0d308b2e624e82c15273f055620d"), looks := false }, kinds := [], alts := [], laidByText := true, laidKinds := [.data, .pinned], laidTests := true, laidLooks := .later }
def TillReflectedUptoCardSaid : Prop := Claim7.holds Tryd.pinned (.plain (OpenSpec.upto tillReflectedSpec)) tillReflectedUptoCard

/-- THE SECOND FORM's CARD OF 'pomadelaw09.TillSides'. -/
def tillSidesUptoCard : Claim7 := { stood := { row := tillSidesUptoRow, standIns := [], harness := (true, "beca19dee12693aa1c3767bd58f186dd076d0d308b2e624e82c15273f055620d"), looks := false }, kinds := [], alts := [], laidByText := true, laidKinds := [.data, .pinned], laidTests := true, laidLooks := .later }
def TillSidesUptoCardSaid : Prop := Claim7.holds Tryd.pinned (.plain (OpenSpec.upto tillSidesSpec)) tillSidesUptoCard

/-- THE SECOND FORM's CARD OF 'pomadelaw09.TillArcs'. -/
def tillArcsUptoCard : Claim7 := { stood := { row := tillArcsUptoRow, standIns := [], harness := (true, "beca19dee12693aa1c3767bd58f186dd076d0d308b2e624e82c15273f055620d"), looks := false }, kinds := [], alts := [], laidByText := true, laidKinds := [.data, .pinned], laidTests := true, laidLooks := .later }
def TillArcsUptoCardSaid : Prop := Claim7.holds Tryd.pinned (.plain (OpenSpec.upto tillArcsSpec)) tillArcsUptoCard

/-- THE SECOND FORM's CARD OF 'pomadelaw09.TillCatalan'. -/
def tillCatalanUptoCard : Claim7 := { stood := { row := tillCatalanUptoRow, standIns := [], harness := (true, "beca19dee12693aa1c3767bd58f186dd076d0d308b2e624e82c15273f055620d"), looks := false }, kinds := [], alts := [], laidByText := true, laidKinds := [.data, .pinned], laidTests := true, laidLooks := .later }
def TillCatalanUptoCardSaid : Prop := Claim7.holds Tryd.pinned (.plain (OpenSpec.upto tillCatalanSpec)) tillCatalanUptoCard

/-- THE SECOND FORM's CARD OF 'pomadelaw09.TillWithin'. -/
def tillWithinUptoCard : Claim7 := { stood := { row := tillWithinUptoRow, standIns := [], harness := (true, "beca19dee12693aa1c3767bd58f186dd076d0d308b2e624e82c15273f055620d"), looks := false }, kinds := [], alts := [], laidByText := true, laidKinds := [.data, .pinned], laidTests := true, laidLooks := .later }
def TillWithinUptoCardSaid : Prop := Claim7.holds Tryd.pinned (.plain (OpenSpec.upto tillWithinSpec)) tillWithinUptoCard

/-- THE SECOND FORM's CARD OF 'pomadelaw09.TillReflects'. -/
def tillReflectsUptoCard : Claim7 := { stood := { row := tillReflectsUptoRow, standIns := [], harness := (true, "beca19dee12693aa1c3767bd58f186dd076d0d308b2e624e82c15273f055620d"), looks := false }, kinds := [], alts := [], laidByText := true, laidKinds := [.data, .pinned], laidTests := true, laidLooks := .later }
def TillReflectsUptoCardSaid : Prop := Claim7.holds Tryd.pinned (.plain (OpenSpec.upto tillReflectsSpec)) tillReflectsUptoCard

/-- THE SECOND FORM's CARD OF 'pomadelaw09.TillWalks'. -/
def tillWalksUptoCard : Claim7 := { stood := { row := tillWalksUptoRow, standIns := [], harness := (true, "beca19dee12693aa1c3767bd58f186dd076d0d308b2e624e82c15273f055620d"), looks := false }, kinds := [], alts := [], laidByText := true, laidKinds := [.data, .pinned], laidTests := true, laidLooks := .later }
def TillWalksUptoCardSaid : Prop := Claim7.holds Tryd.pinned (.plain (OpenSpec.upto tillWalksSpec)) tillWalksUptoCard

/-- THE SECOND FORM's CARD OF 'pomadelaw09.TillChung'. -/
def tillChungUptoCard : Claim7 := { stood := { row := tillChungUptoRow, standIns := [], harness := (true, "beca19dee12693aa1c3767bd58f186dd076d0d308b2e624e82c15273f055620d"), looks := false }, kinds := [], alts := [], laidByText := true, laidKinds := [.data, .pinned], laidTests := true, laidLooks := .later }
def TillChungUptoCardSaid : Prop := Claim7.holds Tryd.pinned (.plain (OpenSpec.upto tillChungSpec)) tillChungUptoCard

/-- THE SECOND FORM's CARD OF 'pomadelaw09.TillAndersen'. -/
def tillAndersenUptoCard : Claim7 := { stood := { row := tillAndersenUptoRow, standIns := [], harness := (true, "beca19dee12693aa1c3767bd58f186dd076d0d308b2e624e82c15273f055620d"), looks := false }, kinds := [], alts := [], laidByText := true, laidKinds := [.data, .pinned], laidTests := true, laidLooks := .later }
def TillAndersenUptoCardSaid : Prop := Claim7.holds Tryd.pinned (.plain (OpenSpec.upto tillAndersenSpec)) tillAndersenUptoCard

/-- THE SECOND FORM's CARD OF 'pomadelaw09.TillAhead'. -/
def tillAheadUptoCard : Claim7 := { stood := { row := tillAheadUptoRow, standIns := [], harness := (true, "beca19dee12693aa1c3767bd58f186dd076d0d308b2e624e82c15273f055620d"), looks := false }, kinds := [], alts := [], laidByText := true, laidKinds := [.data, .pinned], laidTests := true, laidLooks := .later }
def TillAheadUptoCardSaid : Prop := Claim7.holds Tryd.pinned (.plain (OpenSpec.upto tillAheadSpec)) tillAheadUptoCard
end Rows
end Go.Proofs.YtnjimbgfafkogaaDoor
