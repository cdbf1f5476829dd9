/- Closed facts of the row of LibraryReader: recursion and the variables that are named. -/
import Derived.Test.YtkihibnffkpnkaaGreatDoorTie
import Derived.JoinedCond
import Derived.JoinedOf
set_option linter.unusedVariables false
namespace Go.Proofs.YtkihibnffkpnkaaGreatDoor.fnLibraryReader
open Go
set_option maxRecDepth 100000
theorem c12 : (Rows.libraryReaderRow.recurses == Tryz.prog.recurses 6) = true := by kernel_rfl
theorem c13 : (Rows.libraryReaderRow.named == Tryz.prog.varsNamed 6) = true := by kernel_rfl
end Go.Proofs.YtkihibnffkpnkaaGreatDoor.fnLibraryReader
