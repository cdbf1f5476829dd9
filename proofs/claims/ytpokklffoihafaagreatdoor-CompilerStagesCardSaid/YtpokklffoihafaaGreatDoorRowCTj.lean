/- Closed facts of the row of CompilerStages: what is done in place and what is not followed. -/
import Derived.Test.YtpokklffoihafaaGreatDoorTie
import Derived.JoinedCond
import Derived.JoinedOf
set_option linter.unusedVariables false
namespace Go.Proofs.YtpokklffoihafaaGreatDoor.fnStages
open Go
set_option maxRecDepth 100000
theorem c10 : (Rows.compilerStagesRow.inPlace == Tryz.prog.inPlace 7) = true := by kernel_rfl
theorem c11 : (Rows.compilerStagesRow.unfollowed == Tryz.prog.unfollowed 7) = true := by kernel_rfl
end Go.Proofs.YtpokklffoihafaaGreatDoor.fnStages
