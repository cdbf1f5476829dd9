/- Closed facts of the row of CompilerAssembly: what is done in place and what is not followed. -/
import Derived.Test.YtpbbgkoalnonoaaGreatDoorTie
import Derived.JoinedCond
import Derived.JoinedOf
set_option linter.unusedVariables false
namespace Go.Proofs.YtpbbgkoalnonoaaGreatDoor.fnAssembly
open Go
set_option maxRecDepth 100000
theorem c10 : (Rows.compilerAssemblyUptoRow.inPlace == Tryz.prog.inPlace 3) = true := by kernel_rfl
theorem c11 : (Rows.compilerAssemblyUptoRow.unfollowed == Tryz.prog.unfollowed 3) = true := by kernel_rfl
end Go.Proofs.YtpbbgkoalnonoaaGreatDoor.fnAssembly
