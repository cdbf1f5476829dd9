/- Closed facts of the row of CompilerFits: recursion and the variables that are named. -/
import Derived.Test.YtpbbgkoalnonoaaGreatDoorTie
import Derived.JoinedCond
import Derived.JoinedOf
set_option linter.unusedVariables false
namespace Go.Proofs.YtpbbgkoalnonoaaGreatDoor.fnFits
open Go
set_option maxRecDepth 100000
theorem c12 : (Rows.compilerFitsUptoRow.recurses == Tryz.prog.recurses 5) = true := by kernel_rfl
theorem c13 : (Rows.compilerFitsUptoRow.named == Tryz.prog.varsNamed 5) = true := by kernel_rfl
end Go.Proofs.YtpbbgkoalnonoaaGreatDoor.fnFits
