/- Closed facts of the row of CompilerForm: what is done in place and what is not followed. -/
import Derived.Test.YtpokklffoihafaaGreatDoorTie
import Derived.JoinedCond
import Derived.JoinedOf
set_option linter.unusedVariables false
namespace Go.Proofs.YtpokklffoihafaaGreatDoor.fnForm
open Go
set_option maxRecDepth 100000
theorem c10 : (Rows.compilerFormRow.inPlace == Tryz.prog.inPlace 6) = true := by kernel_rfl
theorem c11 : (Rows.compilerFormRow.unfollowed == Tryz.prog.unfollowed 6) = true := by kernel_rfl
end Go.Proofs.YtpokklffoihafaaGreatDoor.fnForm
