/- Closed facts of the row of CompilerBuild: what is done in place and what is not followed. -/
import Derived.Test.YthmhncflhnbedaaGreatDoorTie
import Derived.JoinedCond
import Derived.JoinedOf
set_option linter.unusedVariables false
namespace Go.Proofs.YthmhncflhnbedaaGreatDoor.fnBuild
open Go
set_option maxRecDepth 100000
theorem c10 : (Rows.compilerBuildRow.inPlace == Tryz.prog.inPlace 3) = true := by kernel_rfl
theorem c11 : (Rows.compilerBuildRow.unfollowed == Tryz.prog.unfollowed 3) = true := by kernel_rfl
end Go.Proofs.YthmhncflhnbedaaGreatDoor.fnBuild
