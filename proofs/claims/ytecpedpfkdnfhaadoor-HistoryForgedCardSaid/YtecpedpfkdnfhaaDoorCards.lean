/-
  DERIVED. GIVEN WITH THE SEED: THE CARDS: each row of YtecpedpfkdnfhaaDoorRows.lean that lists a variable, with what it lists TIED to the program's text (the seventh form; the later family's looks); each row that meets fmt, with fmt's text TOLD by the authors' own Lean function (tested against real Go, not proved from fmt's source: count such statements apart). THE CARD IS WHAT COUNTS. Prove the row's statement (the work); the ties are given (YtecpedpfkdnfhaaDoorTie.lean); close each card by the builder's one call (the guide's Derived/Test/ToyasCard.lean, 'card_holds'). Laid BY PROGRAM, IN A SANDBOX (cutbox-door.mjs). By AI agents, Wed Nov 11 2026. No macro, syntax, notation, axiom, sorry.
-/
import Derived.Test.YtecpedpfkdnfhaaDoorRows
import GoSem.ClaimSeven
namespace Go.Proofs.YtecpedpfkdnfhaaDoor
namespace Rows

/-- THE TIED CARD OF 'paciolilaw06.HistoryNodes'. -/
def historyNodesCard : Claim7 := { stood := { row := historyNodesRow, standIns := [], harness := (true, "087e7ebbcd91de8f352868736899b70371fd1986e8d76d38e5bcda59919e6e43"), looks := false }, kinds := [], alts := [], laidByText := true, laidKinds := [.data, .data, .widerDeep, .widerDeep], laidTests := true, laidLooks := .later }
def HistoryNodesCardSaid : Prop := Claim7.holds Tryd.pinned (.plain (OpenSpec.ofChange historyNodesSpec)) historyNodesCard

/-- THE TIED CARD OF 'paciolilaw06.HistoryOrders'. -/
def historyOrdersCard : Claim7 := { stood := { row := historyOrdersRow, standIns := [], harness := (true, "087e7ebbcd91de8f352868736899b70371fd1986e8d76d38e5bcda59919e6e43"), looks := false }, kinds := [], alts := [], laidByText := true, laidKinds := [.data, .data, .widerDeep, .widerDeep], laidTests := true, laidLooks := .later }
def HistoryOrdersCardSaid : Prop := Claim7.holds Tryd.pinned (.plain (OpenSpec.ofChange historyOrdersSpec)) historyOrdersCard

/-- THE TIED CARD OF 'paciolilaw06.HistoryRoots'. -/
def historyRootsCard : Claim7 := { stood := { row := historyRootsRow, standIns := [], harness := (true, "087e7ebbcd91de8f352868736899b70371fd1986e8d76d38e5bcda59919e6e43"), looks := false }, kinds := [], alts := [], laidByText := true, laidKinds := [.data, .data, .widerDeep, .widerDeep], laidTests := true, laidLooks := .later }
def HistoryRootsCardSaid : Prop := Claim7.holds Tryd.pinned (.plain (OpenSpec.ofChange historyRootsSpec)) historyRootsCard

/-- THE TIED CARD OF 'paciolilaw06.HistoryLengths'. -/
def historyLengthsCard : Claim7 := { stood := { row := historyLengthsRow, standIns := [], harness := (true, "087e7ebbcd91de8f352868736899b70371fd1986e8d76d38e5bcda59919e6e43"), looks := false }, kinds := [], alts := [], laidByText := true, laidKinds := [.data, .data, .widerDeep, .widerDeep], laidTests := true, laidLooks := .later }
def HistoryLengthsCardSaid : Prop := Claim7.holds Tryd.pinned (.plain (OpenSpec.ofChange historyLengthsSpec)) historyLengthsCard

/-- THE TIED CARD OF 'paciolilaw06.HistoryForged'. -/
def historyForgedCard : Claim7 := { stood := { row := historyForgedRow, standIns := [], harness := (true, "087e7ebbcd91de8f352868736899b70371fd1986e8d76d38e5bcda59919e6e43"), looks := false }, kinds := [], alts := [], laidByText := true, laidKinds := [.data, .data, .widerDeep, .widerDeep], laidTests := true, laidLooks := .later }
def HistoryForgedCardSaid : Prop := Claim7.holds Tryd.pinned (.plain (OpenSpec.ofChange historyForgedSpec)) historyForgedCard

/-- THE TIED CARD OF 'paciolilaw06.HistoryTapes'. -/
def historyTapesCard : Claim7 := { stood := { row := historyTapesRow, standIns := [], harness := (true, "087e7ebbcd91de8f352868736899b70371fd1986e8d76d38e5bcda59919e6e43"), looks := false }, kinds := [], alts := [], laidByText := true, laidKinds := [.data, .data, .widerDeep, .widerDeep], laidTests := true, laidLooks := .later }
def HistoryTapesCardSaid : Prop := Claim7.holds Tryd.pinned (.plain (OpenSpec.ofChange historyTapesSpec)) historyTapesCard

/-- THE TIED CARD OF 'paciolilaw06.HistoryGrows'. -/
def historyGrowsCard : Claim7 := { stood := { row := historyGrowsRow, standIns := [], harness := (true, "087e7ebbcd91de8f352868736899b70371fd1986e8d76d38e5bcda59919e6e43"), looks := false }, kinds := [], alts := [], laidByText := true, laidKinds := [.data, .data, .widerDeep, .widerDeep], laidTests := true, laidLooks := .later }
def HistoryGrowsCardSaid : Prop := Claim7.holds Tryd.pinned (.plain (OpenSpec.ofChange historyGrowsSpec)) historyGrowsCard

/-- THE TIED CARD OF 'paciolilaw06.HistoryTurned'. -/
def historyTurnedCard : Claim7 := { stood := { row := historyTurnedRow, standIns := [], harness := (true, "087e7ebbcd91de8f352868736899b70371fd1986e8d76d38e5bcda59919e6e43"), looks := false }, kinds := [], alts := [], laidByText := true, laidKinds := [.data, .data, .widerDeep, .widerDeep], laidTests := true, laidLooks := .later }
def HistoryTurnedCardSaid : Prop := Claim7.holds Tryd.pinned (.plain (OpenSpec.ofChange historyTurnedSpec)) historyTurnedCard

/-- THE TIED CARD OF 'paciolilaw06.HistoryMore'. -/
def historyMoreCard : Claim7 := { stood := { row := historyMoreRow, standIns := [], harness := (true, "087e7ebbcd91de8f352868736899b70371fd1986e8d76d38e5bcda59919e6e43"), looks := false }, kinds := [], alts := [], laidByText := true, laidKinds := [.data, .data, .widerDeep, .widerDeep], laidTests := true, laidLooks := .later }
def HistoryMoreCardSaid : Prop := Claim7.holds Tryd.pinned (.plain (OpenSpec.ofChange historyMoreSpec)) historyMoreCard

/-- THE SECOND FORM's CARD OF 'paciolilaw06.HistoryNodes'. -/
def historyNodesUptoCard : Claim7 := { stood := { row := historyNodesUptoRow, standIns := [], harness := (true, "087e7ebbcd91de8f352868736899b70371fd1986e8d76d38e5bcda59919e6e43"), looks := false }, kinds := [], alts := [], laidByText := true, laidKinds := [.data, .data, .widerDeep, .widerDeep], laidTests := true, laidLooks := .later }
def HistoryNodesUptoCardSaid : Prop := Claim7.holds Tryd.pinned (.plain (OpenSpec.upto historyNodesSpec)) historyNodesUptoCard

/-- THE SECOND FORM's CARD OF 'paciolilaw06.HistoryOrders'. -/
def historyOrdersUptoCard : Claim7 := { stood := { row := historyOrdersUptoRow, standIns := [], harness := (true, "087e7ebbcd91de8f352868736899b70371fd1986e8d76d38e5bcda59919e6e43"), looks := false }, kinds := [], alts := [], laidByText := true, laidKinds := [.data, .data, .widerDeep, .widerDeep], laidTests := true, laidLooks := .later }
def HistoryOrdersUptoCardSaid : Prop := Claim7.holds Tryd.pinned (.plain (OpenSpec.upto historyOrdersSpec)) historyOrdersUptoCard

/-- THE SECOND FORM's CARD OF 'paciolilaw06.HistoryRoots'. -/
def historyRootsUptoCard : Claim7 := { stood := { row := historyRootsUptoRow, standIns := [], harness := (true, "087e7ebbcd91de8f352868736899b70371fd1986e8d76d38e5bcda59919e6e43"), looks := false }, kinds := [], alts := [], laidByText := true, laidKinds := [.data, .data, .widerDeep, .widerDeep], laidTests := true, laidLooks := .later }
def HistoryRootsUptoCardSaid : Prop := Claim7.holds Tryd.pinned (.plain (OpenSpec.upto historyRootsSpec)) historyRootsUptoCard

/-- THE SECOND FORM's CARD OF 'paciolilaw06.HistoryLengths'. -/
def historyLengthsUptoCard : Claim7 := { stood := { row := historyLengthsUptoRow, standIns := [], harness := (true, "087e7ebbcd91de8f352868736899b70371fd1986e8d76d38e5bcda59919e6e43"), looks := false }, kinds := [], alts := [], laidByText := true, laidKinds := [.data, .data, .widerDeep, .widerDeep], laidTests := true, laidLooks := .later }
def HistoryLengthsUptoCardSaid : Prop := Claim7.holds Tryd.pinned (.plain (OpenSpec.upto historyLengthsSpec)) historyLengthsUptoCard

/-- THE SECOND FORM's CARD OF 'paciolilaw06.HistoryForged'. -/
def historyForgedUptoCard : Claim7 := { stood := { row := historyForgedUptoRow, standIns := [], harness := (true, "087e7ebbcd91de8f352868736899b70371fd1986e8d76d38e5bcda59919e6e43"), looks := false }, kinds := [], alts := [], laidByText := true, laidKinds := [.data, .data, .widerDeep, .widerDeep], laidTests := true, laidLooks := .later }
def HistoryForgedUptoCardSaid : Prop := Claim7.holds Tryd.pinned (.plain (OpenSpec.upto historyForgedSpec)) historyForgedUptoCard

/-- THE SECOND FORM's CARD OF 'paciolilaw06.HistoryTapes'. -/
def historyTapesUptoCard : Claim7 := { stood := { row := historyTapesUptoRow, standIns := [], harness := (true, "087e7ebbcd91de8f352868736899b70371fd1986e8d76d38e5bcda59919e6e43"), looks := false }, kinds := [], alts := [], laidByText := true, laidKinds := [.data, .data, .widerDeep, .widerDeep], laidTests := true, laidLooks := .later }
def HistoryTapesUptoCardSaid : Prop := Claim7.holds Tryd.pinned (.plain (OpenSpec.upto historyTapesSpec)) historyTapesUptoCard

/-- THE SECOND FORM's CARD OF 'paciolilaw06.HistoryGrows'. -/
def historyGrowsUptoCard : Claim7 := { stood := { row := historyGrowsUptoRow, standIns := [], harness := (true, "087e7ebbcd91de8f352868736899b70371fd1986e8d76d38e5bcda59919e6e43"), looks := false }, kinds := [], alts := [], laidByText := true, laidKinds := [.data, .data, .widerDeep, .widerDeep], laidTests := true, laidLooks := .later }
def HistoryGrowsUptoCardSaid : Prop := Claim7.holds Tryd.pinned (.plain (OpenSpec.upto historyGrowsSpec)) historyGrowsUptoCard

/-- THE SECOND FORM's CARD OF 'paciolilaw06.HistoryTurned'. -/
def historyTurnedUptoCard : Claim7 := { stood := { row := historyTurnedUptoRow, standIns := [], harness := (true, "087e7ebbcd91de8f352868736899b70371fd1986e8d76d38e5bcda59919e6e43"), looks := false }, kinds := [], alts := [], laidByText := true, laidKinds := [.data, .data, .widerDeep, .widerDeep], laidTests := true, laidLooks := .later }
def HistoryTurnedUptoCardSaid : Prop := Claim7.holds Tryd.pinned (.plain (OpenSpec.upto historyTurnedSpec)) historyTurnedUptoCard

/-- THE SECOND FORM's CARD OF 'paciolilaw06.HistoryMore'. -/
def historyMoreUptoCard : Claim7 := { stood := { row := historyMoreUptoRow, standIns := [], harness := (true, "087e7ebbcd91de8f352868736899b70371fd1986e8d76d38e5bcda59919e6e43"), looks := false }, kinds := [], alts := [], laidByText := true, laidKinds := [.data, .data, .widerDeep, .widerDeep], laidTests := true, laidLooks := .later }
def HistoryMoreUptoCardSaid : Prop := Claim7.holds Tryd.pinned (.plain (OpenSpec.upto historyMoreSpec)) historyMoreUptoCard
end Rows
end Go.Proofs.YtecpedpfkdnfhaaDoor
