/- Closed facts of the row of CompilerStages: recursion and the variables that are named. -/
import Derived.Test.YtpokklffoihafaaGreatDoorTie
import Derived.JoinedCond
import Derived.JoinedOf
set_option linter.unusedVariables false
namespace Go.Proofs.YtpokklffoihafaaGreatDoor.fnStages
open Go
set_option maxRecDepth 100000
theorem c12 : (Rows.compilerStagesRow.recurses == Tryz.prog.recurses 7) = true := by kernel_rfl
theorem c13 : (Rows.compilerStagesRow.named == Tryz.prog.varsNamed 7) = true := by kernel_rfl
end Go.Proofs.YtpokklffoihafaaGreatDoor.fnStages
