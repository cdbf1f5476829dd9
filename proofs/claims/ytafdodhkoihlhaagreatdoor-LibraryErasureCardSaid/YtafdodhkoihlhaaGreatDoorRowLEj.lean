/- Closed facts of the row of LibraryErasure: what is done in place and what is not followed. -/
import Derived.Test.YtafdodhkoihlhaaGreatDoorTie
import Derived.JoinedCond
import Derived.JoinedOf
set_option linter.unusedVariables false
namespace Go.Proofs.YtafdodhkoihlhaaGreatDoor.fnLibraryErasure
open Go
set_option maxRecDepth 100000
theorem c10 : (Rows.libraryErasureRow.inPlace == Tryz.prog.inPlace 3) = true := by kernel_rfl
theorem c11 : (Rows.libraryErasureRow.unfollowed == Tryz.prog.unfollowed 3) = true := by kernel_rfl
end Go.Proofs.YtafdodhkoihlhaaGreatDoor.fnLibraryErasure
