/- Closed facts of the row of LibraryErasure: recursion and the variables that are named. -/
import Derived.Test.YtafdodhkoihlhaaGreatDoorTie
import Derived.JoinedCond
import Derived.JoinedOf
set_option linter.unusedVariables false
namespace Go.Proofs.YtafdodhkoihlhaaGreatDoor.fnLibraryErasure
open Go
set_option maxRecDepth 100000
theorem c12 : (Rows.libraryErasureRow.recurses == Tryz.prog.recurses 3) = true := by kernel_rfl
theorem c13 : (Rows.libraryErasureRow.named == Tryz.prog.varsNamed 3) = true := by kernel_rfl
end Go.Proofs.YtafdodhkoihlhaaGreatDoor.fnLibraryErasure
