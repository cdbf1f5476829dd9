/- Closed facts of the row of LibraryModules: recursion and the variables that are named. -/
import Derived.Test.YtkihibnffkpnkaaGreatDoorTie
import Derived.JoinedCond
import Derived.JoinedOf
set_option linter.unusedVariables false
namespace Go.Proofs.YtkihibnffkpnkaaGreatDoor.fnLibraryModules
open Go
set_option maxRecDepth 100000
theorem c12 : (Rows.libraryModulesRow.recurses == Tryz.prog.recurses 5) = true := by kernel_rfl
theorem c13 : (Rows.libraryModulesRow.named == Tryz.prog.varsNamed 5) = true := by kernel_rfl
end Go.Proofs.YtkihibnffkpnkaaGreatDoor.fnLibraryModules
