/- Closed facts of the row of PeepholeUncalled: what is done in place and what is not followed. -/
import Derived.Test.YtegmklafpoldgaaGreatDoorTie
import Derived.JoinedCond
import Derived.JoinedOf
set_option linter.unusedVariables false
namespace Go.Proofs.YtegmklafpoldgaaGreatDoor.fnPeepholeUncalled
open Go
set_option maxRecDepth 100000
theorem c10 : (Rows.peepholeUncalledRow.inPlace == Tryz.prog.inPlace 4) = true := by kernel_rfl
theorem c11 : (Rows.peepholeUncalledRow.unfollowed == Tryz.prog.unfollowed 4) = true := by kernel_rfl
end Go.Proofs.YtegmklafpoldgaaGreatDoor.fnPeepholeUncalled
