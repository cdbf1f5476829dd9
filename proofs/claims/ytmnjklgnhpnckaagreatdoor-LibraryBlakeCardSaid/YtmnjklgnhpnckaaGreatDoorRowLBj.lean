/- Closed facts of the row of LibraryBlake: what is done in place and what is not followed. -/
import Derived.Test.YtmnjklgnhpnckaaGreatDoorTie
import Derived.JoinedCond
import Derived.JoinedOf
set_option linter.unusedVariables false
namespace Go.Proofs.YtmnjklgnhpnckaaGreatDoor.fnLibraryBlake
open Go
set_option maxRecDepth 100000
theorem c10 : (Rows.libraryBlakeRow.inPlace == Tryz.prog.inPlace 3) = true := by kernel_rfl
theorem c11 : (Rows.libraryBlakeRow.unfollowed == Tryz.prog.unfollowed 3) = true := by kernel_rfl
end Go.Proofs.YtmnjklgnhpnckaaGreatDoor.fnLibraryBlake
