/- Closed facts of the row of CompilerRelocates: recursion and the variables that are named. -/
import Derived.Test.YtpbbgkoalnonoaaGreatDoorTie
import Derived.JoinedCond
import Derived.JoinedOf
set_option linter.unusedVariables false
namespace Go.Proofs.YtpbbgkoalnonoaaGreatDoor.fnRelocates
open Go
set_option maxRecDepth 100000
theorem c12 : (Rows.compilerRelocatesRow.recurses == Tryz.prog.recurses 8) = true := by kernel_rfl
theorem c13 : (Rows.compilerRelocatesRow.named == Tryz.prog.varsNamed 8) = true := by kernel_rfl
end Go.Proofs.YtpbbgkoalnonoaaGreatDoor.fnRelocates
