/-
  DERIVED. GIVEN WITH THE SEED: THE PROGRAM's TIES (one call each: nine closed facts by the kernel) AND EACH ROW's TIE, after the 31st guide's Derived/Test/Toyas{Tie, Card}.lean. No idea stands in it: it is a product of the set-up. Laid BY PROGRAM, IN A SANDBOX (cutbox-door.mjs). By AI agents, Wed Nov 11 2026. No macro, syntax, notation, axiom, sorry.
-/
import Derived.Test.YtlkeofjgmegcfaaDoorRows
import Derived.LaidByTextLater
import Derived.SevenTiedAt
import Derived.LaidSub
import Derived.LaidOnce
namespace Go.Proofs.YtlkeofjgmegcfaaDoor
open Go
set_option maxRecDepth 100000
theorem seatTie1 : Tryd.prog.laidByTextLater [("pacioli/sha.rounds", Rows.laid_pacioli_sha_rounds), ("pacioli/sha.start", Rows.laid_pacioli_sha_start), ("pacioli/history.leafMark", Rows.laid_pacioli_history_leafMark), ("pacioli/history.nodeMark", Rows.laid_pacioli_history_nodeMark)] [.data, .data, .widerDeep, .widerDeep] true :=
  Program.laidByTextLater_by_one 29 8 65 (by kernel_rfl) (by kernel_rfl) (by kernel_rfl) (by kernel_rfl) (by kernel_rfl) (by kernel_rfl) (fun _ _ => by kernel_rfl)
theorem noOwnUnsafe : Tryd.pinned.checked.prog.headLifts.contains "ownunsafe" = false := by kernel_rfl
theorem tie : Tryd.prog.laidByTextLater [("pacioli/sha.rounds", Rows.laid_pacioli_sha_rounds), ("pacioli/sha.start", Rows.laid_pacioli_sha_start), ("pacioli/history.leafMark", Rows.laid_pacioli_history_leafMark), ("pacioli/history.nodeMark", Rows.laid_pacioli_history_nodeMark)] [.data, .data, .widerDeep, .widerDeep] true :=
  Program.laidByTextLater.sub seatTie1 ["pacioli/sha.rounds", "pacioli/sha.start", "pacioli/history.leafMark", "pacioli/history.nodeMark"] (by kernel_rfl) (by kernel_rfl)
theorem rowsSpans_row_tie : Rows.rowsSpansRow.laidByTextAt .later Tryd.pinned [.data, .data, .widerDeep, .widerDeep] true :=
  OpenClaim.laidByTextAt_later rfl rfl tie noOwnUnsafe
theorem rowsEnds_row_tie : Rows.rowsEndsRow.laidByTextAt .later Tryd.pinned [.data, .data, .widerDeep, .widerDeep] true :=
  OpenClaim.laidByTextAt_later rfl rfl tie noOwnUnsafe
theorem rowsLeaves_row_tie : Rows.rowsLeavesRow.laidByTextAt .later Tryd.pinned [.data, .data, .widerDeep, .widerDeep] true :=
  OpenClaim.laidByTextAt_later rfl rfl tie noOwnUnsafe
theorem rowsCopies_row_tie : Rows.rowsCopiesRow.laidByTextAt .later Tryd.pinned [.data, .data, .widerDeep, .widerDeep] true :=
  OpenClaim.laidByTextAt_later rfl rfl tie noOwnUnsafe
theorem rowsApart_row_tie : Rows.rowsApartRow.laidByTextAt .later Tryd.pinned [.data, .data, .widerDeep, .widerDeep] true :=
  OpenClaim.laidByTextAt_later rfl rfl tie noOwnUnsafe
theorem rowsPaths_row_tie : Rows.rowsPathsRow.laidByTextAt .later Tryd.pinned [.data, .data, .widerDeep, .widerDeep] true :=
  OpenClaim.laidByTextAt_later rfl rfl tie noOwnUnsafe
theorem rowsSpansUpto_row_tie : Rows.rowsSpansUptoRow.laidByTextAt .later Tryd.pinned [.data, .data, .widerDeep, .widerDeep] true :=
  OpenClaim.laidByTextAt_later rfl rfl tie noOwnUnsafe
theorem rowsEndsUpto_row_tie : Rows.rowsEndsUptoRow.laidByTextAt .later Tryd.pinned [.data, .data, .widerDeep, .widerDeep] true :=
  OpenClaim.laidByTextAt_later rfl rfl tie noOwnUnsafe
theorem rowsLeavesUpto_row_tie : Rows.rowsLeavesUptoRow.laidByTextAt .later Tryd.pinned [.data, .data, .widerDeep, .widerDeep] true :=
  OpenClaim.laidByTextAt_later rfl rfl tie noOwnUnsafe
theorem rowsCopiesUpto_row_tie : Rows.rowsCopiesUptoRow.laidByTextAt .later Tryd.pinned [.data, .data, .widerDeep, .widerDeep] true :=
  OpenClaim.laidByTextAt_later rfl rfl tie noOwnUnsafe
theorem rowsApartUpto_row_tie : Rows.rowsApartUptoRow.laidByTextAt .later Tryd.pinned [.data, .data, .widerDeep, .widerDeep] true :=
  OpenClaim.laidByTextAt_later rfl rfl tie noOwnUnsafe
theorem rowsPathsUpto_row_tie : Rows.rowsPathsUptoRow.laidByTextAt .later Tryd.pinned [.data, .data, .widerDeep, .widerDeep] true :=
  OpenClaim.laidByTextAt_later rfl rfl tie noOwnUnsafe
end Go.Proofs.YtlkeofjgmegcfaaDoor
