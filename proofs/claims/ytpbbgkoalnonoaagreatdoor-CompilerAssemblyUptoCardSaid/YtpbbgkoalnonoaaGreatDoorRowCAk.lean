/- Closed facts of the row of CompilerAssembly: recursion and the variables that are named. -/
import Derived.Test.YtpbbgkoalnonoaaGreatDoorTie
import Derived.JoinedCond
import Derived.JoinedOf
set_option linter.unusedVariables false
namespace Go.Proofs.YtpbbgkoalnonoaaGreatDoor.fnAssembly
open Go
set_option maxRecDepth 100000
theorem c12 : (Rows.compilerAssemblyUptoRow.recurses == Tryz.prog.recurses 3) = true := by kernel_rfl
theorem c13 : (Rows.compilerAssemblyUptoRow.named == Tryz.prog.varsNamed 3) = true := by kernel_rfl
end Go.Proofs.YtpbbgkoalnonoaaGreatDoor.fnAssembly
