/- Closed facts of the row of LibraryReader: what is done in place and what is not followed. -/
import Derived.Test.YtkihibnffkpnkaaGreatDoorTie
import Derived.JoinedCond
import Derived.JoinedOf
set_option linter.unusedVariables false
namespace Go.Proofs.YtkihibnffkpnkaaGreatDoor.fnLibraryReader
open Go
set_option maxRecDepth 100000
theorem c10 : (Rows.libraryReaderRow.inPlace == Tryz.prog.inPlace 6) = true := by kernel_rfl
theorem c11 : (Rows.libraryReaderRow.unfollowed == Tryz.prog.unfollowed 6) = true := by kernel_rfl
end Go.Proofs.YtkihibnffkpnkaaGreatDoor.fnLibraryReader
