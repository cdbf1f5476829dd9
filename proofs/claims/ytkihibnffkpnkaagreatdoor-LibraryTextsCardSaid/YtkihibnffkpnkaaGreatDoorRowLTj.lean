/- Closed facts of the row of LibraryTexts: what is done in place and what is not followed. -/
import Derived.Test.YtkihibnffkpnkaaGreatDoorTie
import Derived.JoinedCond
import Derived.JoinedOf
set_option linter.unusedVariables false
namespace Go.Proofs.YtkihibnffkpnkaaGreatDoor.fnLibraryTexts
open Go
set_option maxRecDepth 100000
theorem c10 : (Rows.libraryTextsRow.inPlace == Tryz.prog.inPlace 4) = true := by kernel_rfl
theorem c11 : (Rows.libraryTextsRow.unfollowed == Tryz.prog.unfollowed 4) = true := by kernel_rfl
end Go.Proofs.YtkihibnffkpnkaaGreatDoor.fnLibraryTexts
