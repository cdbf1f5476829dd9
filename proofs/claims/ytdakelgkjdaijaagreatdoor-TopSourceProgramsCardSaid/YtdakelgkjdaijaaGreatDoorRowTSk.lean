/- Closed facts of the row of TopSourcePrograms: recursion and the variables that are named. -/
import Derived.Test.YtdakelgkjdaijaaGreatDoorTie
import Derived.JoinedCond
import Derived.JoinedOf
set_option linter.unusedVariables false
namespace Go.Proofs.YtdakelgkjdaijaaGreatDoor.fnTopSourcePrograms
open Go
set_option maxRecDepth 100000
theorem c12 : (Rows.topSourceProgramsRow.recurses == Tryz.prog.recurses 3) = true := by kernel_rfl
theorem c13 : (Rows.topSourceProgramsRow.named == Tryz.prog.varsNamed 3) = true := by kernel_rfl
end Go.Proofs.YtdakelgkjdaijaaGreatDoor.fnTopSourcePrograms
