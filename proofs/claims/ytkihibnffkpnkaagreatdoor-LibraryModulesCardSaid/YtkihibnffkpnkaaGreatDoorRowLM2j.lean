/- Closed facts of the row of LibraryModules: what is done in place and what is not followed. -/
import Derived.Test.YtkihibnffkpnkaaGreatDoorTie
import Derived.JoinedCond
import Derived.JoinedOf
set_option linter.unusedVariables false
namespace Go.Proofs.YtkihibnffkpnkaaGreatDoor.fnLibraryModules
open Go
set_option maxRecDepth 100000
theorem c10 : (Rows.libraryModulesRow.inPlace == Tryz.prog.inPlace 5) = true := by kernel_rfl
theorem c11 : (Rows.libraryModulesRow.unfollowed == Tryz.prog.unfollowed 5) = true := by kernel_rfl
end Go.Proofs.YtkihibnffkpnkaaGreatDoor.fnLibraryModules
