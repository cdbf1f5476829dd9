/- Closed facts of the row of LibraryViterbi: recursion and the variables that are named. -/
import Derived.Test.YtmnjklgnhpnckaaGreatDoorTie
import Derived.JoinedCond
import Derived.JoinedOf
set_option linter.unusedVariables false
namespace Go.Proofs.YtmnjklgnhpnckaaGreatDoor.fnLibraryViterbi
open Go
set_option maxRecDepth 100000
theorem c12 : (Rows.libraryViterbiRow.recurses == Tryz.prog.recurses 4) = true := by kernel_rfl
theorem c13 : (Rows.libraryViterbiRow.named == Tryz.prog.varsNamed 4) = true := by kernel_rfl
end Go.Proofs.YtmnjklgnhpnckaaGreatDoor.fnLibraryViterbi
