/- Closed facts of the row of PeepholePreserves: recursion and the variables that are named. -/
import Derived.Test.YtegmklafpoldgaaGreatDoorTie
import Derived.JoinedCond
import Derived.JoinedOf
set_option linter.unusedVariables false
namespace Go.Proofs.YtegmklafpoldgaaGreatDoor.fnPeepholePreserves
open Go
set_option maxRecDepth 100000
theorem c12 : (Rows.peepholePreservesRow.recurses == Tryz.prog.recurses 3) = true := by kernel_rfl
theorem c13 : (Rows.peepholePreservesRow.named == Tryz.prog.varsNamed 3) = true := by kernel_rfl
end Go.Proofs.YtegmklafpoldgaaGreatDoor.fnPeepholePreserves
