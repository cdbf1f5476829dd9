/- Closed facts of the row of CompilerCorrect: what is done in place and what is not followed. -/
import Derived.Test.YtpbbgkoalnonoaaGreatDoorTie
import Derived.JoinedCond
import Derived.JoinedOf
set_option linter.unusedVariables false
namespace Go.Proofs.YtpbbgkoalnonoaaGreatDoor.fnCorrect
open Go
set_option maxRecDepth 100000
theorem c10 : (Rows.compilerCorrectRow.inPlace == Tryz.prog.inPlace 6) = true := by kernel_rfl
theorem c11 : (Rows.compilerCorrectRow.unfollowed == Tryz.prog.unfollowed 6) = true := by kernel_rfl
end Go.Proofs.YtpbbgkoalnonoaaGreatDoor.fnCorrect
