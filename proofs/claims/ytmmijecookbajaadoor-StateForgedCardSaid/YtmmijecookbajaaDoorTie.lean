/-
  DERIVED. GIVEN WITH THE SEED: THE PROGRAM's TIES (one call each: nine closed facts by the kernel) AND EACH ROW's TIE, after the 31st guide's Derived/Test/Toyas{Tie, Card}.lean. No idea stands in it: it is a product of the set-up. Laid BY PROGRAM, IN A SANDBOX (cutbox-door.mjs). By AI agents, Wed Nov 11 2026. No macro, syntax, notation, axiom, sorry.
-/
import Derived.Test.YtmmijecookbajaaDoorRows
import Derived.LaidByTextLater
import Derived.SevenTiedAt
import Derived.LaidSub
import Derived.LaidOnce
namespace Go.Proofs.YtmmijecookbajaaDoor
open Go
set_option maxRecDepth 100000
theorem seatTie1 : Tryd.prog.laidByTextLater [("pacioli/sha.rounds", Rows.laid_pacioli_sha_rounds), ("pacioli/sha.start", Rows.laid_pacioli_sha_start), ("pacioli/state.leafMark", Rows.laid_pacioli_state_leafMark), ("pacioli/state.forkMark", Rows.laid_pacioli_state_forkMark), ("pacioli/state.noneMark", Rows.laid_pacioli_state_noneMark)] [.data, .data, .widerDeep, .widerDeep, .widerDeep] true :=
  Program.laidByTextLater_by_one 34 8 65 (by kernel_rfl) (by kernel_rfl) (by kernel_rfl) (by kernel_rfl) (by kernel_rfl) (by kernel_rfl) (fun _ _ => by kernel_rfl)
theorem noOwnUnsafe : Tryd.pinned.checked.prog.headLifts.contains "ownunsafe" = false := by kernel_rfl
theorem tie : Tryd.prog.laidByTextLater [("pacioli/sha.rounds", Rows.laid_pacioli_sha_rounds), ("pacioli/sha.start", Rows.laid_pacioli_sha_start), ("pacioli/state.leafMark", Rows.laid_pacioli_state_leafMark), ("pacioli/state.forkMark", Rows.laid_pacioli_state_forkMark), ("pacioli/state.noneMark", Rows.laid_pacioli_state_noneMark)] [.data, .data, .widerDeep, .widerDeep, .widerDeep] true :=
  Program.laidByTextLater.sub seatTie1 ["pacioli/sha.rounds", "pacioli/sha.start", "pacioli/state.leafMark", "pacioli/state.forkMark", "pacioli/state.noneMark"] (by kernel_rfl) (by kernel_rfl)
theorem stateLong_row_tie : Rows.stateLongRow.laidByTextAt .later Tryd.pinned [.data, .data, .widerDeep, .widerDeep, .widerDeep] true :=
  OpenClaim.laidByTextAt_later rfl rfl tie noOwnUnsafe
theorem stateProves_row_tie : Rows.stateProvesRow.laidByTextAt .later Tryd.pinned [.data, .data, .widerDeep, .widerDeep, .widerDeep] true :=
  OpenClaim.laidByTextAt_later rfl rfl tie noOwnUnsafe
theorem stateLengths_row_tie : Rows.stateLengthsRow.laidByTextAt .later Tryd.pinned [.data, .data, .widerDeep, .widerDeep, .widerDeep] true :=
  OpenClaim.laidByTextAt_later rfl rfl tie noOwnUnsafe
theorem stateSides_row_tie : Rows.stateSidesRow.laidByTextAt .later Tryd.pinned [.data, .data, .widerDeep, .widerDeep, .widerDeep] true :=
  OpenClaim.laidByTextAt_later rfl rfl tie noOwnUnsafe
theorem stateForged_row_tie : Rows.stateForgedRow.laidByTextAt .later Tryd.pinned [.data, .data, .widerDeep, .widerDeep, .widerDeep] true :=
  OpenClaim.laidByTextAt_later rfl rfl tie noOwnUnsafe
theorem stateRoots_row_tie : Rows.stateRootsRow.laidByTextAt .later Tryd.pinned [.data, .data, .widerDeep, .widerDeep, .widerDeep] true :=
  OpenClaim.laidByTextAt_later rfl rfl tie noOwnUnsafe
theorem stateTapes_row_tie : Rows.stateTapesRow.laidByTextAt .later Tryd.pinned [.data, .data, .widerDeep, .widerDeep, .widerDeep] true :=
  OpenClaim.laidByTextAt_later rfl rfl tie noOwnUnsafe
theorem stateLongUpto_row_tie : Rows.stateLongUptoRow.laidByTextAt .later Tryd.pinned [.data, .data, .widerDeep, .widerDeep, .widerDeep] true :=
  OpenClaim.laidByTextAt_later rfl rfl tie noOwnUnsafe
theorem stateProvesUpto_row_tie : Rows.stateProvesUptoRow.laidByTextAt .later Tryd.pinned [.data, .data, .widerDeep, .widerDeep, .widerDeep] true :=
  OpenClaim.laidByTextAt_later rfl rfl tie noOwnUnsafe
theorem stateLengthsUpto_row_tie : Rows.stateLengthsUptoRow.laidByTextAt .later Tryd.pinned [.data, .data, .widerDeep, .widerDeep, .widerDeep] true :=
  OpenClaim.laidByTextAt_later rfl rfl tie noOwnUnsafe
theorem stateSidesUpto_row_tie : Rows.stateSidesUptoRow.laidByTextAt .later Tryd.pinned [.data, .data, .widerDeep, .widerDeep, .widerDeep] true :=
  OpenClaim.laidByTextAt_later rfl rfl tie noOwnUnsafe
theorem stateForgedUpto_row_tie : Rows.stateForgedUptoRow.laidByTextAt .later Tryd.pinned [.data, .data, .widerDeep, .widerDeep, .widerDeep] true :=
  OpenClaim.laidByTextAt_later rfl rfl tie noOwnUnsafe
theorem stateRootsUpto_row_tie : Rows.stateRootsUptoRow.laidByTextAt .later Tryd.pinned [.data, .data, .widerDeep, .widerDeep, .widerDeep] true :=
  OpenClaim.laidByTextAt_later rfl rfl tie noOwnUnsafe
theorem stateTapesUpto_row_tie : Rows.stateTapesUptoRow.laidByTextAt .later Tryd.pinned [.data, .data, .widerDeep, .widerDeep, .widerDeep] true :=
  OpenClaim.laidByTextAt_later rfl rfl tie noOwnUnsafe
end Go.Proofs.YtmmijecookbajaaDoor
