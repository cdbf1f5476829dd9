/- Closed facts of the row of PeepholePreserves: what is done in place and what is not followed. -/
import Derived.Test.YtegmklafpoldgaaGreatDoorTie
import Derived.JoinedCond
import Derived.JoinedOf
set_option linter.unusedVariables false
namespace Go.Proofs.YtegmklafpoldgaaGreatDoor.fnPeepholePreserves
open Go
set_option maxRecDepth 100000
theorem c10 : (Rows.peepholePreservesRow.inPlace == Tryz.prog.inPlace 3) = true := by kernel_rfl
theorem c11 : (Rows.peepholePreservesRow.unfollowed == Tryz.prog.unfollowed 3) = true := by kernel_rfl
end Go.Proofs.YtegmklafpoldgaaGreatDoor.fnPeepholePreserves
