/- Closed facts of the row of TopSourcePrograms: what is done in place and what is not followed. -/
import Derived.Test.YtdakelgkjdaijaaGreatDoorTie
import Derived.JoinedCond
import Derived.JoinedOf
set_option linter.unusedVariables false
namespace Go.Proofs.YtdakelgkjdaijaaGreatDoor.fnTopSourcePrograms
open Go
set_option maxRecDepth 100000
theorem c10 : (Rows.topSourceProgramsRow.inPlace == Tryz.prog.inPlace 3) = true := by kernel_rfl
theorem c11 : (Rows.topSourceProgramsRow.unfollowed == Tryz.prog.unfollowed 3) = true := by kernel_rfl
end Go.Proofs.YtdakelgkjdaijaaGreatDoor.fnTopSourcePrograms
