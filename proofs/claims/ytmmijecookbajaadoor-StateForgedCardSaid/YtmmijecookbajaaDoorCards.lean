/-
  DERIVED. GIVEN WITH THE SEED: THE CARDS: each row of YtmmijecookbajaaDoorRows.lean that lists a variable, with what it lists TIED to the program's text (the seventh form; the later family's looks); each row that meets fmt, with fmt's text TOLD by the authors' own Lean function (tested against real Go, not proved from fmt's source: count such statements apart). THE CARD IS WHAT COUNTS. Prove the row's statement (the work); the ties are given (YtmmijecookbajaaDoorTie.lean); close each card by the builder's one call (the guide's Derived/Test/ToyasCard.lean, 'card_holds'). Laid BY PROGRAM, IN A SANDBOX (cutbox-door.mjs). By AI agents, Wed Nov 11 2026. No macro, syntax, notation, axiom, sorry.
-/
import Derived.Test.YtmmijecookbajaaDoorRows
import GoSem.ClaimSeven
namespace Go.Proofs.YtmmijecookbajaaDoor
namespace Rows

/-- THE TIED CARD OF 'paciolilaw07.StateLong'. -/
def stateLongCard : Claim7 := { stood := { row := stateLongRow, standIns := [], harness := (true, "a32ee5d1c437a893414afafa3b0a785b340599c2843adc1becb3563f8b9d6b5b"), looks := false }, kinds := [], alts := [], laidByText := true, laidKinds := [.data, .data, .widerDeep, .widerDeep, .widerDeep], laidTests := true, laidLooks := .later }
def StateLongCardSaid : Prop := Claim7.holds Tryd.pinned (.plain (OpenSpec.ofChange stateLongSpec)) stateLongCard

/-- THE TIED CARD OF 'paciolilaw07.StateProves'. -/
def stateProvesCard : Claim7 := { stood := { row := stateProvesRow, standIns := [], harness := (true, "a32ee5d1c437a893414afafa3b0a785b340599c2843adc1becb3563f8b9d6b5b"), looks := false }, kinds := [], alts := [], laidByText := true, laidKinds := [.data, .data, .widerDeep, .widerDeep, .widerDeep], laidTests := true, laidLooks := .later }
def StateProvesCardSaid : Prop := Claim7.holds Tryd.pinned (.plain (OpenSpec.ofChange stateProvesSpec)) stateProvesCard

/-- THE TIED CARD OF 'paciolilaw07.StateLengths'. -/
def stateLengthsCard : Claim7 := { stood := { row := stateLengthsRow, standIns := [], harness := (true, "a32ee5d1c437a893414afafa3b0a785b340599c2843adc1becb3563f8b9d6b5b"), looks := false }, kinds := [], alts := [], laidByText := true, laidKinds := [.data, .data, .widerDeep, .widerDeep, .widerDeep], laidTests := true, laidLooks := .later }
def StateLengthsCardSaid : Prop := Claim7.holds Tryd.pinned (.plain (OpenSpec.ofChange stateLengthsSpec)) stateLengthsCard

/-- THE TIED CARD OF 'paciolilaw07.StateSides'. -/
def stateSidesCard : Claim7 := { stood := { row := stateSidesRow, standIns := [], harness := (true, "a32ee5d1c437a893414afafa3b0a785b340599c2843adc1becb3563f8b9d6b5b"), looks := false }, kinds := [], alts := [], laidByText := true, laidKinds := [.data, .data, .widerDeep, .widerDeep, .widerDeep], laidTests := true, laidLooks := .later }
def StateSidesCardSaid : Prop := Claim7.holds Tryd.pinned (.plain (OpenSpec.ofChange stateSidesSpec)) stateSidesCard

/-- THE TIED CARD OF 'paciolilaw07.StateForged'. -/
def stateForgedCard : Claim7 := { stood := { row := stateForgedRow, standIns := [], harness := (true, "a32ee5d1c437a893414afafa3b0a785b340599c2843adc1becb3563f8b9d6b5b"), looks := false }, kinds := [], alts := [], laidByText := true, laidKinds := [.data, .data, .widerDeep, .widerDeep, .widerDeep], laidTests := true, laidLooks := .later }
def StateForgedCardSaid : Prop := Claim7.holds Tryd.pinned (.plain (OpenSpec.ofChange stateForgedSpec)) stateForgedCard

/-- THE TIED CARD OF 'paciolilaw07.StateRoots'. -/
def stateRootsCard : Claim7 := { stood := { row := stateRootsRow, standIns := [], harness := (true, "a32ee5d1c437a893414afafa3b0a785b340599c2843adc1becb3563f8b9d6b5b"), looks := false }, kinds := [], alts := [], laidByText := true, laidKinds := [.data, .data, .widerDeep, .widerDeep, .widerDeep], laidTests := true, laidLooks := .later }
def StateRootsCardSaid : Prop := Claim7.holds Tryd.pinned (.plain (OpenSpec.ofChange stateRootsSpec)) stateRootsCard

/-- THE TIED CARD OF 'paciolilaw07.StateTapes'. -/
def stateTapesCard : Claim7 := { stood := { row := stateTapesRow, standIns := [], harness := (true, "a32ee5d1c437a893414afafa3b0a785b340599c2843adc1becb3563f8b9d6b5b"), looks := false }, kinds := [], alts := [], laidByText := true, laidKinds := [.data, .data, .widerDeep, .widerDeep, .widerDeep], laidTests := true, laidLooks := .later }
def StateTapesCardSaid : Prop := Claim7.holds Tryd.pinned (.plain (OpenSpec.ofChange stateTapesSpec)) stateTapesCard

/-- THE SECOND FORM's CARD OF 'paciolilaw07.StateLong'. -/
def stateLongUptoCard : Claim7 := { stood := { row := stateLongUptoRow, standIns := [], harness := (true, "a32ee5d1c437a893414afafa3b0a785b340599c2843adc1becb3563f8b9d6b5b"), looks := false }, kinds := [], alts := [], laidByText := true, laidKinds := [.data, .data, .widerDeep, .widerDeep, .widerDeep], laidTests := true, laidLooks := .later }
def StateLongUptoCardSaid : Prop := Claim7.holds Tryd.pinned (.plain (OpenSpec.upto stateLongSpec)) stateLongUptoCard

/-- THE SECOND FORM's CARD OF 'paciolilaw07.StateProves'. -/
def stateProvesUptoCard : Claim7 := { stood := { row := stateProvesUptoRow, standIns := [], harness := (true, "a32ee5d1c437a893414afafa3b0a785b340599c2843adc1becb3563f8b9d6b5b"), looks := false }, kinds := [], alts := [], laidByText := true, laidKinds := [.data, .data, .widerDeep, .widerDeep, .widerDeep], laidTests := true, laidLooks := .later }
def StateProvesUptoCardSaid : Prop := Claim7.holds Tryd.pinned (.plain (OpenSpec.upto stateProvesSpec)) stateProvesUptoCard

/-- THE SECOND FORM's CARD OF 'paciolilaw07.StateLengths'. -/
def stateLengthsUptoCard : Claim7 := { stood := { row := stateLengthsUptoRow, standIns := [], harness := (true, "a32ee5d1c437a893414afafa3b0a785b340599c2843adc1becb3563f8b9d6b5b"), looks := false }, kinds := [], alts := [], laidByText := true, laidKinds := [.data, .data, .widerDeep, .widerDeep, .widerDeep], laidTests := true, laidLooks := .later }
def StateLengthsUptoCardSaid : Prop := Claim7.holds Tryd.pinned (.plain (OpenSpec.upto stateLengthsSpec)) stateLengthsUptoCard

/-- THE SECOND FORM's CARD OF 'paciolilaw07.StateSides'. -/
def stateSidesUptoCard : Claim7 := { stood := { row := stateSidesUptoRow, standIns := [], harness := (true, "a32ee5d1c437a893414afafa3b0a785b340599c2843adc1becb3563f8b9d6b5b"), looks := false }, kinds := [], alts := [], laidByText := true, laidKinds := [.data, .data, .widerDeep, .widerDeep, .widerDeep], laidTests := true, laidLooks := .later }
def StateSidesUptoCardSaid : Prop := Claim7.holds Tryd.pinned (.plain (OpenSpec.upto stateSidesSpec)) stateSidesUptoCard

/-- THE SECOND FORM's CARD OF 'paciolilaw07.StateForged'. -/
def stateForgedUptoCard : Claim7 := { stood := { row := stateForgedUptoRow, standIns := [], harness := (true, "a32ee5d1c437a893414afafa3b0a785b340599c2843adc1becb3563f8b9d6b5b"), looks := false }, kinds := [], alts := [], laidByText := true, laidKinds := [.data, .data, .widerDeep, .widerDeep, .widerDeep], laidTests := true, laidLooks := .later }
def StateForgedUptoCardSaid : Prop := Claim7.holds Tryd.pinned (.plain (OpenSpec.upto stateForgedSpec)) stateForgedUptoCard

/-- THE SECOND FORM's CARD OF 'paciolilaw07.StateRoots'. -/
def stateRootsUptoCard : Claim7 := { stood := { row := stateRootsUptoRow, standIns := [], harness := (true, "a32ee5d1c437a893414afafa3b0a785b340599c2843adc1becb3563f8b9d6b5b"), looks := false }, kinds := [], alts := [], laidByText := true, laidKinds := [.data, .data, .widerDeep, .widerDeep, .widerDeep], laidTests := true, laidLooks := .later }
def StateRootsUptoCardSaid : Prop := Claim7.holds Tryd.pinned (.plain (OpenSpec.upto stateRootsSpec)) stateRootsUptoCard

/-- THE SECOND FORM's CARD OF 'paciolilaw07.StateTapes'. -/
def stateTapesUptoCard : Claim7 := { stood := { row := stateTapesUptoRow, standIns := [], harness := (true, "a32ee5d1c437a893414afafa3b0a785b340599c2843adc1becb3563f8b9d6b5b"), looks := false }, kinds := [], alts := [], laidByText := true, laidKinds := [.data, .data, .widerDeep, .widerDeep, .widerDeep], laidTests := true, laidLooks := .later }
def StateTapesUptoCardSaid : Prop := Claim7.holds Tryd.pinned (.plain (OpenSpec.upto stateTapesSpec)) stateTapesUptoCard
end Rows
end Go.Proofs.YtmmijecookbajaaDoor
