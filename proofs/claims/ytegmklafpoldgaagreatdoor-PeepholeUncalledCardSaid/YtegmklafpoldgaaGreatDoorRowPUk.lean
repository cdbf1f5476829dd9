/- Closed facts of the row of PeepholeUncalled: recursion and the variables that are named. -/
import Derived.Test.YtegmklafpoldgaaGreatDoorTie
import Derived.JoinedCond
import Derived.JoinedOf
set_option linter.unusedVariables false
namespace Go.Proofs.YtegmklafpoldgaaGreatDoor.fnPeepholeUncalled
open Go
set_option maxRecDepth 100000
theorem c12 : (Rows.peepholeUncalledRow.recurses == Tryz.prog.recurses 4) = true := by kernel_rfl
theorem c13 : (Rows.peepholeUncalledRow.named == Tryz.prog.varsNamed 4) = true := by kernel_rfl
end Go.Proofs.YtegmklafpoldgaaGreatDoor.fnPeepholeUncalled
