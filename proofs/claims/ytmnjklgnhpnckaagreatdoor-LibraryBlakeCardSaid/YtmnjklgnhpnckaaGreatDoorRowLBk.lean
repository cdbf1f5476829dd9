/- Closed facts of the row of LibraryBlake: recursion and the variables that are named. -/
import Derived.Test.YtmnjklgnhpnckaaGreatDoorTie
import Derived.JoinedCond
import Derived.JoinedOf
set_option linter.unusedVariables false
namespace Go.Proofs.YtmnjklgnhpnckaaGreatDoor.fnLibraryBlake
open Go
set_option maxRecDepth 100000
theorem c12 : (Rows.libraryBlakeRow.recurses == Tryz.prog.recurses 3) = true := by kernel_rfl
theorem c13 : (Rows.libraryBlakeRow.named == Tryz.prog.varsNamed 3) = true := by kernel_rfl
end Go.Proofs.YtmnjklgnhpnckaaGreatDoor.fnLibraryBlake
