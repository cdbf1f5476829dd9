/- Closed facts of the row of CompilerCorrect: recursion and the variables that are named. -/
import Derived.Test.YtpbbgkoalnonoaaGreatDoorTie
import Derived.JoinedCond
import Derived.JoinedOf
set_option linter.unusedVariables false
namespace Go.Proofs.YtpbbgkoalnonoaaGreatDoor.fnCorrect
open Go
set_option maxRecDepth 100000
theorem c12 : (Rows.compilerCorrectRow.recurses == Tryz.prog.recurses 6) = true := by kernel_rfl
theorem c13 : (Rows.compilerCorrectRow.named == Tryz.prog.varsNamed 6) = true := by kernel_rfl
end Go.Proofs.YtpbbgkoalnonoaaGreatDoor.fnCorrect
