/- Closed facts of the row of CompilerForm: recursion and the variables that are named. -/
import Derived.Test.YtpokklffoihafaaGreatDoorTie
import Derived.JoinedCond
import Derived.JoinedOf
set_option linter.unusedVariables false
namespace Go.Proofs.YtpokklffoihafaaGreatDoor.fnForm
open Go
set_option maxRecDepth 100000
theorem c12 : (Rows.compilerFormRow.recurses == Tryz.prog.recurses 6) = true := by kernel_rfl
theorem c13 : (Rows.compilerFormRow.named == Tryz.prog.varsNamed 6) = true := by kernel_rfl
end Go.Proofs.YtpokklffoihafaaGreatDoor.fnForm
