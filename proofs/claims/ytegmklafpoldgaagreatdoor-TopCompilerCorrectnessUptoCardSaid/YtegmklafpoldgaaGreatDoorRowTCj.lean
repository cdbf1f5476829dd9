/- Closed facts of the row of TopCompilerCorrectness: what is done in place and what is not followed. -/
import Derived.Test.YtegmklafpoldgaaGreatDoorTie
import Derived.JoinedCond
import Derived.JoinedOf
set_option linter.unusedVariables false
namespace Go.Proofs.YtegmklafpoldgaaGreatDoor.fnTC
open Go
set_option maxRecDepth 100000
theorem c10 : (Rows.topCompilerCorrectnessUptoRow.inPlace == Tryz.prog.inPlace 5) = true := by kernel_rfl
theorem c11 : (Rows.topCompilerCorrectnessUptoRow.unfollowed == Tryz.prog.unfollowed 5) = true := by kernel_rfl
end Go.Proofs.YtegmklafpoldgaaGreatDoor.fnTC
