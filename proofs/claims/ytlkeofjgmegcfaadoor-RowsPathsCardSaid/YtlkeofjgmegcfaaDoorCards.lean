/-
  DERIVED. GIVEN WITH THE SEED: THE CARDS: each row of YtlkeofjgmegcfaaDoorRows.lean that lists a variable, with what it lists TIED to the program's text (the seventh form; the later family's looks); each row that meets fmt, with fmt's text TOLD by the authors' own Lean function (tested against real Go, not proved from fmt's source: count such statements apart). THE CARD IS WHAT COUNTS. Prove the row's statement (the work); the ties are given (YtlkeofjgmegcfaaDoorTie.lean); close each card by the builder's one call (the guide's Derived/Test/ToyasCard.lean, 'card_holds'). Laid BY PROGRAM, IN A SANDBOX (cutbox-door.mjs). By AI agents, Wed Nov 11 2026. No macro, syntax, notation, axiom, sorry.
-/
import Derived.Test.YtlkeofjgmegcfaaDoorRows
import GoSem.ClaimSeven
namespace Go.Proofs.YtlkeofjgmegcfaaDoor
namespace Rows

/-- THE TIED CARD OF 'paciolilaw10.RowsSpans'. -/
def rowsSpansCard : Claim7 := { stood := { row := rowsSpansRow, standIns := [], harness := (true, "3bd8846115ec65ce028536bda5fc6d9e5a527c91f1815da554a817d3890c1f09"), looks := false }, kinds := [], alts := [], laidByText := true, laidKinds := [.data, .data, .widerDeep, .widerDeep], laidTests := true, laidLooks := .later }
def RowsSpansCardSaid : Prop := Claim7.holds Tryd.pinned (.plain (OpenSpec.ofChange rowsSpansSpec)) rowsSpansCard

/-- THE TIED CARD OF 'paciolilaw10.RowsEnds'. -/
def rowsEndsCard : Claim7 := { stood := { row := rowsEndsRow, standIns := [], harness := (true, "3bd8846115ec65ce028536bda5fc6d9e5a527c91f1815da554a817d3890c1f09"), looks := false }, kinds := [], alts := [], laidByText := true, laidKinds := [.data, .data, .widerDeep, .widerDeep], laidTests := true, laidLooks := .later }
def RowsEndsCardSaid : Prop := Claim7.holds Tryd.pinned (.plain (OpenSpec.ofChange rowsEndsSpec)) rowsEndsCard

/-- THE TIED CARD OF 'paciolilaw10.RowsLeaves'. -/
def rowsLeavesCard : Claim7 := { stood := { row := rowsLeavesRow, standIns := [], harness := (true, "3bd8846115ec65ce028536bda5fc6d9e5a527c91f1815da554a817d3890c1f09"), looks := false }, kinds := [], alts := [], laidByText := true, laidKinds := [.data, .data, .widerDeep, .widerDeep], laidTests := true, laidLooks := .later }
def RowsLeavesCardSaid : Prop := Claim7.holds Tryd.pinned (.plain (OpenSpec.ofChange rowsLeavesSpec)) rowsLeavesCard

/-- THE TIED CARD OF 'paciolilaw10.RowsCopies'. -/
def rowsCopiesCard : Claim7 := { stood := { row := rowsCopiesRow, standIns := [], harness := (true, "3bd8846115ec65ce028536bda5fc6d9e5a527c91f1815da554a817d3890c1f09"), looks := false }, kinds := [], alts := [], laidByText := true, laidKinds := [.data, .data, .widerDeep, .widerDeep], laidTests := true, laidLooks := .later }
def RowsCopiesCardSaid : Prop := Claim7.holds Tryd.pinned (.plain (OpenSpec.ofChange rowsCopiesSpec)) rowsCopiesCard

/-- THE TIED CARD OF 'paciolilaw10.RowsApart'. -/
def rowsApartCard : Claim7 := { stood := { row := rowsApartRow, standIns := [], harness := (true, "3bd8846115ec65ce028536bda5fc6d9e5a527c91f1815da554a817d3890c1f09"), looks := false }, kinds := [], alts := [], laidByText := true, laidKinds := [.data, .data, .widerDeep, .widerDeep], laidTests := true, laidLooks := .later }
def RowsApartCardSaid : Prop := Claim7.holds Tryd.pinned (.plain (OpenSpec.ofChange rowsApartSpec)) rowsApartCard

/-- THE TIED CARD OF 'paciolilaw10.RowsPaths'. -/
def rowsPathsCard : Claim7 := { stood := { row := rowsPathsRow, standIns := [], harness := (true, "3bd8846115ec65ce028536bda5fc6d9e5a527c91f1815da554a817d3890c1f09"), looks := false }, kinds := [], alts := [], laidByText := true, laidKinds := [.data, .data, .widerDeep, .widerDeep], laidTests := true, laidLooks := .later }
def RowsPathsCardSaid : Prop := Claim7.holds Tryd.pinned (.plain (OpenSpec.ofChange rowsPathsSpec)) rowsPathsCard

/-- THE SECOND FORM's CARD OF 'paciolilaw10.RowsSpans'. -/
def rowsSpansUptoCard : Claim7 := { stood := { row := rowsSpansUptoRow, standIns := [], harness := (true, "3bd8846115ec65ce028536bda5fc6d9e5a527c91f1815da554a817d3890c1f09"), looks := false }, kinds := [], alts := [], laidByText := true, laidKinds := [.data, .data, .widerDeep, .widerDeep], laidTests := true, laidLooks := .later }
def RowsSpansUptoCardSaid : Prop := Claim7.holds Tryd.pinned (.plain (OpenSpec.upto rowsSpansSpec)) rowsSpansUptoCard

/-- THE SECOND FORM's CARD OF 'paciolilaw10.RowsEnds'. -/
def rowsEndsUptoCard : Claim7 := { stood := { row := rowsEndsUptoRow, standIns := [], harness := (true, "3bd8846115ec65ce028536bda5fc6d9e5a527c91f1815da554a817d3890c1f09"), looks := false }, kinds := [], alts := [], laidByText := true, laidKinds := [.data, .data, .widerDeep, .widerDeep], laidTests := true, laidLooks := .later }
def RowsEndsUptoCardSaid : Prop := Claim7.holds Tryd.pinned (.plain (OpenSpec.upto rowsEndsSpec)) rowsEndsUptoCard

/-- THE SECOND FORM's CARD OF 'paciolilaw10.RowsLeaves'. -/
def rowsLeavesUptoCard : Claim7 := { stood := { row := rowsLeavesUptoRow, standIns := [], harness := (true, "3bd8846115ec65ce028536bda5fc6d9e5a527c91f1815da554a817d3890c1f09"), looks := false }, kinds := [], alts := [], laidByText := true, laidKinds := [.data, .data, .widerDeep, .widerDeep], laidTests := true, laidLooks := .later }
def RowsLeavesUptoCardSaid : Prop := Claim7.holds Tryd.pinned (.plain (OpenSpec.upto rowsLeavesSpec)) rowsLeavesUptoCard

/-- THE SECOND FORM's CARD OF 'paciolilaw10.RowsCopies'. -/
def rowsCopiesUptoCard : Claim7 := { stood := { row := rowsCopiesUptoRow, standIns := [], harness := (true, "3bd8846115ec65ce028536bda5fc6d9e5a527c91f1815da554a817d3890c1f09"), looks := false }, kinds := [], alts := [], laidByText := true, laidKinds := [.data, .data, .widerDeep, .widerDeep], laidTests := true, laidLooks := .later }
def RowsCopiesUptoCardSaid : Prop := Claim7.holds Tryd.pinned (.plain (OpenSpec.upto rowsCopiesSpec)) rowsCopiesUptoCard

/-- THE SECOND FORM's CARD OF 'paciolilaw10.RowsApart'. -/
def rowsApartUptoCard : Claim7 := { stood := { row := rowsApartUptoRow, standIns := [], harness := (true, "3bd8846115ec65ce028536bda5fc6d9e5a527c91f1815da554a817d3890c1f09"), looks := false }, kinds := [], alts := [], laidByText := true, laidKinds := [.data, .data, .widerDeep, .widerDeep], laidTests := true, laidLooks := .later }
def RowsApartUptoCardSaid : Prop := Claim7.holds Tryd.pinned (.plain (OpenSpec.upto rowsApartSpec)) rowsApartUptoCard

/-- THE SECOND FORM's CARD OF 'paciolilaw10.RowsPaths'. -/
def rowsPathsUptoCard : Claim7 := { stood := { row := rowsPathsUptoRow, standIns := [], harness := (true, "3bd8846115ec65ce028536bda5fc6d9e5a527c91f1815da554a817d3890c1f09"), looks := false }, kinds := [], alts := [], laidByText := true, laidKinds := [.data, .data, .widerDeep, .widerDeep], laidTests := true, laidLooks := .later }
def RowsPathsUptoCardSaid : Prop := Claim7.holds Tryd.pinned (.plain (OpenSpec.upto rowsPathsSpec)) rowsPathsUptoCard
end Rows
end Go.Proofs.YtlkeofjgmegcfaaDoor
