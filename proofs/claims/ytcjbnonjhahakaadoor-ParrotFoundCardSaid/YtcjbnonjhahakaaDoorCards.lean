/-
  DERIVED. GIVEN WITH THE SEED: THE CARDS: each row of YtcjbnonjhahakaaDoorRows.lean that lists a variable, with what it lists TIED to the program's text (the seventh form; the later family's looks); each row that meets fmt, with fmt's text TOLD by the authors' own Lean function (tested against real Go, not proved from fmt's source: count such statements apart). THE CARD IS WHAT COUNTS. Prove the row's statement (the work); the ties are given (YtcjbnonjhahakaaDoorTie.lean); close each card by the builder's one call (the guide's Derived/Test/ToyasCard.lean, 'card_holds'). Laid BY PROGRAM, IN A SANDBOX (cutbox-door.mjs). By AI agents, Wed Nov 11 2026. No macro, syntax, notation, axiom, sorry.
-/
import Derived.Test.YtcjbnonjhahakaaDoorRows
import GoSem.ClaimSeven
namespace Go.Proofs.YtcjbnonjhahakaaDoor
namespace Rows

/-- THE TIED CARD OF 'pomadelaw08.ParrotLives'. -/
def parrotLivesCard : Claim7 := { stood := { row := parrotLivesRow, standIns := [], harness := (true, "10f1dd91fa33606deb0e523c3200cde1a64951bf2146acfdb8ef7a459457d70c"), looks := false }, kinds := [], alts := [], laidByText := true, laidKinds := [.data, .funcs, .pinned], laidTests := true, laidLooks := .later }
def ParrotLivesCardSaid : Prop := Claim7.holds Tryd.pinned (.plain (OpenSpec.ofChange parrotLivesSpec)) parrotLivesCard

/-- THE TIED CARD OF 'pomadelaw08.ParrotLong'. -/
def parrotLongCard : Claim7 := { stood := { row := parrotLongRow, standIns := [], harness := (true, "10f1dd91fa33606deb0e523c3200cde1a64951bf2146acfdb8ef7a459457d70c"), looks := false }, kinds := [], alts := [], laidByText := true, laidKinds := [.data, .funcs, .pinned], laidTests := true, laidLooks := .later }
def ParrotLongCardSaid : Prop := Claim7.holds Tryd.pinned (.plain (OpenSpec.ofChange parrotLongSpec)) parrotLongCard

/-- THE TIED CARD OF 'pomadelaw08.ParrotLife'. -/
def parrotLifeCard : Claim7 := { stood := { row := parrotLifeRow, standIns := [], harness := (true, "10f1dd91fa33606deb0e523c3200cde1a64951bf2146acfdb8ef7a459457d70c"), looks := false }, kinds := [], alts := [], laidByText := true, laidKinds := [.data, .funcs, .pinned], laidTests := true, laidLooks := .later }
def ParrotLifeCardSaid : Prop := Claim7.holds Tryd.pinned (.plain (OpenSpec.ofChange parrotLifeSpec)) parrotLifeCard

/-- THE TIED CARD OF 'pomadelaw08.ParrotMakes'. -/
def parrotMakesCard : Claim7 := { stood := { row := parrotMakesRow, standIns := [], harness := (true, "10f1dd91fa33606deb0e523c3200cde1a64951bf2146acfdb8ef7a459457d70c"), looks := false }, kinds := [], alts := [], laidByText := true, laidKinds := [.data, .funcs, .pinned], laidTests := true, laidLooks := .later }
def ParrotMakesCardSaid : Prop := Claim7.holds Tryd.pinned (.plain (OpenSpec.ofChange parrotMakesSpec)) parrotMakesCard

/-- THE TIED CARD OF 'pomadelaw08.ParrotSmullyan'. -/
def parrotSmullyanCard : Claim7 := { stood := { row := parrotSmullyanRow, standIns := [], harness := (true, "10f1dd91fa33606deb0e523c3200cde1a64951bf2146acfdb8ef7a459457d70c"), looks := false }, kinds := [], alts := [], laidByText := true, laidKinds := [.data, .funcs, .pinned], laidTests := true, laidLooks := .later }
def ParrotSmullyanCardSaid : Prop := Claim7.holds Tryd.pinned (.plain (OpenSpec.ofChange parrotSmullyanSpec)) parrotSmullyanCard

/-- THE TIED CARD OF 'pomadelaw08.ParrotWords'. -/
def parrotWordsCard : Claim7 := { stood := { row := parrotWordsRow, standIns := [], harness := (true, "10f1dd91fa33606deb0e523c3200cde1a64951bf2146acfdb8ef7a459457d70c"), looks := false }, kinds := [], alts := [], laidByText := true, laidKinds := [.data, .funcs, .pinned], laidTests := true, laidLooks := .later }
def ParrotWordsCardSaid : Prop := Claim7.holds Tryd.pinned (.plain (OpenSpec.ofChange parrotWordsSpec)) parrotWordsCard

/-- THE TIED CARD OF 'pomadelaw08.ParrotExchanged'. -/
def parrotExchangedCard : Claim7 := { stood := { row := parrotExchangedRow, standIns := [], harness := (true, "10f1dd91fa33606deb0e523c3200cde1a64951bf2146acfdb8ef7a459457d70c"), looks := false }, kinds := [], alts := [], laidByText := true, laidKinds := [.data, .funcs, .pinned], laidTests := true, laidLooks := .later }
def ParrotExchangedCardSaid : Prop := Claim7.holds Tryd.pinned (.plain (OpenSpec.ofChange parrotExchangedSpec)) parrotExchangedCard

/-- THE TIED CARD OF 'pomadelaw08.ParrotSelf'. -/
def parrotSelfCard : Claim7 := { stood := { row := parrotSelfRow, standIns := [], harness := (true, "10f1dd91fa33606deb0e523c3200cde1a64951bf2146acfdb8ef7a459457d70c"), looks := false }, kinds := [], alts := [], laidByText := true, laidKinds := [.data, .funcs, .pinned], laidTests := true, laidLooks := .later }
def ParrotSelfCardSaid : Prop := Claim7.holds Tryd.pinned (.plain (OpenSpec.ofChange parrotSelfSpec)) parrotSelfCard

/-- THE TIED CARD OF 'pomadelaw08.ParrotAfter'. -/
def parrotAfterCard : Claim7 := { stood := { row := parrotAfterRow, standIns := [], harness := (true, "10f1dd91fa33606deb0e523c3200cde1a64951bf2146acfdb8ef7a459457d70c"), looks := false }, kinds := [], alts := [], laidByText := true, laidKinds := [.data, .funcs, .pinned], laidTests := true, laidLooks := .later }
def ParrotAfterCardSaid : Prop := Claim7.holds Tryd.pinned (.plain (OpenSpec.ofChange parrotAfterSpec)) parrotAfterCard

/-- THE TIED CARD OF 'pomadelaw08.ParrotSelves'. -/
def parrotSelvesCard : Claim7 := { stood := { row := parrotSelvesRow, standIns := [], harness := (true, "10f1dd91fa33606deb0e523c3200cde1a64951bf2146acfdb8ef7a459457d70c"), looks := false }, kinds := [], alts := [], laidByText := true, laidKinds := [.data, .funcs, .pinned], laidTests := true, laidLooks := .later }
def ParrotSelvesCardSaid : Prop := Claim7.holds Tryd.pinned (.plain (OpenSpec.ofChange parrotSelvesSpec)) parrotSelvesCard

/-- THE TIED CARD OF 'pomadelaw08.ParrotOwn'. -/
def parrotOwnCard : Claim7 := { stood := { row := parrotOwnRow, standIns := [], harness := (true, "10f1dd91fa33606deb0e523c3200cde1a64951bf2146acfdb8ef7a459457d70c"), looks := false }, kinds := [], alts := [], laidByText := true, laidKinds := [.data, .funcs, .pinned], laidTests := true, laidLooks := .later }
def ParrotOwnCardSaid : Prop := Claim7.holds Tryd.pinned (.plain (OpenSpec.ofChange parrotOwnSpec)) parrotOwnCard

/-- THE TIED CARD OF 'pomadelaw08.ParrotMakers'. -/
def parrotMakersCard : Claim7 := { stood := { row := parrotMakersRow, standIns := [], harness := (true, "10f1dd91fa33606deb0e523c3200cde1a64951bf2146acfdb8ef7a459457d70c"), looks := false }, kinds := [], alts := [], laidByText := true, laidKinds := [.data, .funcs, .pinned], laidTests := true, laidLooks := .later }
def ParrotMakersCardSaid : Prop := Claim7.holds Tryd.pinned (.plain (OpenSpec.ofChange parrotMakersSpec)) parrotMakersCard

/-- THE TIED CARD OF 'pomadelaw08.ParrotFound'. -/
def parrotFoundCard : Claim7 := { stood := { row := parrotFoundRow, standIns := [], harness := (true, "10f1dd91fa33606deb0e523c3200cde1a64951bf2146acfdb8ef7a459457d70c"), looks := false }, kinds := [], alts := [], laidByText := true, laidKinds := [.data, .funcs, .pinned], laidTests := true, laidLooks := .later }
def ParrotFoundCardSaid : Prop := Claim7.holds Tryd.pinned (.plain (OpenSpec.ofChange parrotFoundSpec)) parrotFoundCard

/-- THE SECOND FORM's CARD OF 'pomadelaw08.ParrotLives'. -/
def parrotLivesUptoCard : Claim7 := { stood := { row := parrotLivesUptoRow, standIns := [], harness := (true, "10f1dd91fa33606deb0e523c3200cde1a64951bf2146acfdb8ef7a459457d70c"), looks := false }, kinds := [], alts := [], laidByText := true, laidKinds := [.data, .funcs, .pinned], laidTests := true, laidLooks := .later }
def ParrotLivesUptoCardSaid : Prop := Claim7.holds Tryd.pinned (.plain (OpenSpec.upto parrotLivesSpec)) parrotLivesUptoCard

/-- THE SECOND FORM's CARD OF 'pomadelaw08.ParrotLong'. -/
def parrotLongUptoCard : Claim7 := { stood := { row := parrotLongUptoRow, standIns := [], harness := (true, "10f1dd91fa33606deb0e523c3200cde1a64951bf2146acfdb8ef7a459457d70c"), looks := false }, kinds := [], alts := [], laidByText := true, laidKinds := [.data, .funcs, .pinned], laidTests := true, laidLooks := .later }
def ParrotLongUptoCardSaid : Prop := Claim7.holds Tryd.pinned (.plain (OpenSpec.upto parrotLongSpec)) parrotLongUptoCard

/-- THE SECOND FORM's CARD OF 'pomadelaw08.ParrotLife'. -/
def parrotLifeUptoCard : Claim7 := { stood := { row := parrotLifeUptoRow, standIns := [], harness := (true, "10f1dd91fa33606deb0e523c3200cde1a64951bf2146acfdb8ef7a459457d70c"), looks := false }, kinds := [], alts := [], laidByText := true, laidKinds := [.data, .funcs, .pinned], laidTests := true, laidLooks := .later }
def ParrotLifeUptoCardSaid : Prop := Claim7.holds Tryd.pinned (.plain (OpenSpec.upto parrotLifeSpec)) parrotLifeUptoCard

/-- THE SECOND FORM's CARD OF 'pomadelaw08.ParrotMakes'. -/
def parrotMakesUptoCard : Claim7 := { stood := { row := parrotMakesUptoRow, standIns := [], harness := (true, "10f1dd91fa33606deb0e523c3200cde1a64951bf2146acfdb8ef7a459457d70c"), looks := false }, kinds := [], alts := [], laidByText := true, laidKinds := [.data, .funcs, .pinned], laidTests := true, laidLooks := .later }
def ParrotMakesUptoCardSaid : Prop := Claim7.holds Tryd.pinned (.plain (OpenSpec.upto parrotMakesSpec)) parrotMakesUptoCard

/-- THE SECOND FORM's CARD OF 'pomadelaw08.ParrotSmullyan'. -/
def parrotSmullyanUptoCard : Claim7 := { stood := { row := parrotSmullyanUptoRow, standIns := [], harness := (true, "10f1dd91fa33606deb0e523c3200cde1a64951bf2146acfdb8ef7a459457d70c"), looks := false }, kinds := [], alts := [], laidByText := true, laidKinds := [.data, .funcs, .pinned], laidTests := true, laidLooks := .later }
def ParrotSmullyanUptoCardSaid : Prop := Claim7.holds Tryd.pinned (.plain (OpenSpec.upto parrotSmullyanSpec)) parrotSmullyanUptoCard

/-- THE SECOND FORM's CARD OF 'pomadelaw08.ParrotWords'. -/
def parrotWordsUptoCard : Claim7 := { stood := { row := parrotWordsUptoRow, standIns := [], harness := (true, "10f1dd91fa33606deb0e523c3200cde1a64951bf2146acfdb8ef7a459457d70c"), looks := false }, kinds := [], alts := [], laidByText := true, laidKinds := [.data, .funcs, .pinned], laidTests := true, laidLooks := .later }
def ParrotWordsUptoCardSaid : Prop := Claim7.holds Tryd.pinned (.plain (OpenSpec.upto parrotWordsSpec)) parrotWordsUptoCard

/-- THE SECOND FORM's CARD OF 'pomadelaw08.ParrotExchanged'. -/
def parrotExchangedUptoCard : Claim7 := { stood := { row := parrotExchangedUptoRow, standIns := [], harness := (true, "10f1dd91fa33606deb0e523c3200cde1a64951bf2146acfdb8ef7a459457d70c"), looks := false }, kinds := [], alts := [], laidByText := true, laidKinds := [.data, .funcs, .pinned], laidTests := true, laidLooks := .later }
def ParrotExchangedUptoCardSaid : Prop := Claim7.holds Tryd.pinned (.plain (OpenSpec.upto parrotExchangedSpec)) parrotExchangedUptoCard

/-- THE SECOND FORM's CARD OF 'pomadelaw08.ParrotSelf'. -/
def parrotSelfUptoCard : Claim7 := { stood := { row := parrotSelfUptoRow, standIns := [], harness := (true, "10f1dd91fa33606deb0e523c3200cde1a64951bf2146acfdb8ef7a459457d70c"), looks := false }, kinds := [], alts := [], laidByText := true, laidKinds := [.data, .funcs, .pinned], laidTests := true, laidLooks := .later }
def ParrotSelfUptoCardSaid : Prop := Claim7.holds Tryd.pinned (.plain (OpenSpec.upto parrotSelfSpec)) parrotSelfUptoCard

/-- THE SECOND FORM's CARD OF 'pomadelaw08.ParrotAfter'. -/
def parrotAfterUptoCard : Claim7 := { stood := { row := parrotAfterUptoRow, standIns := [], harness := (true, "10f1dd91fa33606deb0e523c3200cde1a64951bf2146acfdb8ef7a459457d70c"), looks := false }, kinds := [], alts := [], laidByText := true, laidKinds := [.data, .funcs, .pinned], laidTests := true, laidLooks := .later }
def ParrotAfterUptoCardSaid : Prop := Claim7.holds Tryd.pinned (.plain (OpenSpec.upto parrotAfterSpec)) parrotAfterUptoCard

/-- THE SECOND FORM's CARD OF 'pomadelaw08.ParrotSelves'. -/
def parrotSelvesUptoCard : Claim7 := { stood := { row := parrotSelvesUptoRow, standIns := [], harness := (true, "10f1dd91fa33606deb0e523c3200cde1a64951bf2146acfdb8ef7a459457d70c"), looks := false }, kinds := [], alts := [], laidByText := true, laidKinds := [.data, .funcs, .pinned], laidTests := true, laidLooks := .later }
def ParrotSelvesUptoCardSaid : Prop := Claim7.holds Tryd.pinned (.plain (OpenSpec.upto parrotSelvesSpec)) parrotSelvesUptoCard

/-- THE SECOND FORM's CARD OF 'pomadelaw08.ParrotOwn'. -/
def parrotOwnUptoCard : Claim7 := { stood := { row := parrotOwnUptoRow, standIns := [], harness := (true, "10f1dd91fa33606deb0e523c3200cde1a64951bf2146acfdb8ef7a459457d70c"), looks := false }, kinds := [], alts := [], laidByText := true, laidKinds := [.data, .funcs, .pinned], laidTests := true, laidLooks := .later }
def ParrotOwnUptoCardSaid : Prop := Claim7.holds Tryd.pinned (.plain (OpenSpec.upto parrotOwnSpec)) parrotOwnUptoCard

/-- THE SECOND FORM's CARD OF 'pomadelaw08.ParrotMakers'. -/
def parrotMakersUptoCard : Claim7 := { stood := { row := parrotMakersUptoRow, standIns := [], harness := (true, "10f1dd91fa33606deb0e523c3200cde1a64951bf2146acfdb8ef7a459457d70c"), looks := false }, kinds := [], alts := [], laidByText := true, laidKinds := [.data, .funcs, .pinned], laidTests := true, laidLooks := .later }
def ParrotMakersUptoCardSaid : Prop := Claim7.holds Tryd.pinned (.plain (OpenSpec.upto parrotMakersSpec)) parrotMakersUptoCard

/-- THE SECOND FORM's CARD OF 'pomadelaw08.ParrotFound'. -/
def parrotFoundUptoCard : Claim7 := { stood := { row := parrotFoundUptoRow, standIns := [], harness := (true, "10f1dd91fa33606deb0e523c3200cde1a64951bf2146acfdb8ef7a459457d70c"), looks := false }, kinds := [], alts := [], laidByText := true, laidKinds := [.data, .funcs, .pinned], laidTests := true, laidLooks := .later }
def ParrotFoundUptoCardSaid : Prop := Claim7.holds Tryd.pinned (.plain (OpenSpec.upto parrotFoundSpec)) parrotFoundUptoCard
end Rows
end Go.Proofs.YtcjbnonjhahakaaDoor
