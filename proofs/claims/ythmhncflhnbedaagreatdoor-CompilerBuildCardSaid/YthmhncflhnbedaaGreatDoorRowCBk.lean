/- Closed facts of the row of CompilerBuild: recursion and the variables that are named. -/
import Derived.Test.YthmhncflhnbedaaGreatDoorTie
import Derived.JoinedCond
import Derived.JoinedOf
set_option linter.unusedVariables false
namespace Go.Proofs.YthmhncflhnbedaaGreatDoor.fnBuild
open Go
set_option maxRecDepth 100000
theorem c12 : (Rows.compilerBuildRow.recurses == Tryz.prog.recurses 3) = true := by kernel_rfl
theorem c13 : (Rows.compilerBuildRow.named == Tryz.prog.varsNamed 3) = true := by kernel_rfl
end Go.Proofs.YthmhncflhnbedaaGreatDoor.fnBuild
