/- Closed facts of the program that every card of this seat wants. Conditions: none beyond those in the theorems. By an AI agent. -/
import Derived.Test.YtmmijecookbajaaDoorGlueB
import Derived.Test.YtmmijecookbajaaDoorCards
import Derived.Test.YtmmijecookbajaaDoorTie
namespace Go.Proofs.YtmmijecookbajaaDoor
open Go Go.RowKit Go.ChangeShapes Go.WideShapes Go.ChangeAt

theorem own : ownKnob Tryd.prog.godebug = none := by kernel_rfl
abbrev laidL : List (String × DataW Unit) := [("pacioli/sha.rounds", Rows.laid_pacioli_sha_rounds), ("pacioli/sha.start", Rows.laid_pacioli_sha_start), ("pacioli/state.leafMark", Rows.laid_pacioli_state_leafMark), ("pacioli/state.forkMark", Rows.laid_pacioli_state_forkMark), ("pacioli/state.noneMark", Rows.laid_pacioli_state_noneMark)]
theorem door_met (os : Os) (args : Array Value) : laidMetH Tryd.prog laidL ((World.doorLaid Tryd.prog 400 os).forCall (fun _ _ => 0) ⟨#[], args, []⟩).memory :=
  laidMetH_of_parts3 (fuel := 8) (laidMet_of_run' 8 (by kernel_rfl) (by kernel_rfl)) (by kernel_rfl) (by kernel_rfl)
theorem laid_out : laidOutB Tryd.prog = true := by kernel_rfl
end Go.Proofs.YtmmijecookbajaaDoor
