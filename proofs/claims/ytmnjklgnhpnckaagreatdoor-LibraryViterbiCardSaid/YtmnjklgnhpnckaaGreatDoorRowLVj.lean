/- Closed facts of the row of LibraryViterbi: what is done in place and what is not followed. -/
import Derived.Test.YtmnjklgnhpnckaaGreatDoorTie
import Derived.JoinedCond
import Derived.JoinedOf
set_option linter.unusedVariables false
namespace Go.Proofs.YtmnjklgnhpnckaaGreatDoor.fnLibraryViterbi
open Go
set_option maxRecDepth 100000
theorem c10 : (Rows.libraryViterbiRow.inPlace == Tryz.prog.inPlace 4) = true := by kernel_rfl
theorem c11 : (Rows.libraryViterbiRow.unfollowed == Tryz.prog.unfollowed 4) = true := by kernel_rfl
end Go.Proofs.YtmnjklgnhpnckaaGreatDoor.fnLibraryViterbi
