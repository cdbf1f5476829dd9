/- Closed facts of the row of LibraryCrc: what is done in place and what is not followed. -/
import Derived.Test.YtkihibnffkpnkaaGreatDoorTie
import Derived.JoinedCond
import Derived.JoinedOf
set_option linter.unusedVariables false
namespace Go.Proofs.YtkihibnffkpnkaaGreatDoor.fnLibraryCrc
open Go
set_option maxRecDepth 100000
theorem c10 : (Rows.libraryCrcRow.inPlace == Tryz.prog.inPlace 3) = true := by kernel_rfl
theorem c11 : (Rows.libraryCrcRow.unfollowed == Tryz.prog.unfollowed 3) = true := by kernel_rfl
end Go.Proofs.YtkihibnffkpnkaaGreatDoor.fnLibraryCrc
