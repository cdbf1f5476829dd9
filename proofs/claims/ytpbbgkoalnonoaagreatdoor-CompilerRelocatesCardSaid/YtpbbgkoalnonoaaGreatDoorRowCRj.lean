/- Closed facts of the row of CompilerRelocates: what is done in place and what is not followed. -/
import Derived.Test.YtpbbgkoalnonoaaGreatDoorTie
import Derived.JoinedCond
import Derived.JoinedOf
set_option linter.unusedVariables false
namespace Go.Proofs.YtpbbgkoalnonoaaGreatDoor.fnRelocates
open Go
set_option maxRecDepth 100000
theorem c10 : (Rows.compilerRelocatesRow.inPlace == Tryz.prog.inPlace 8) = true := by kernel_rfl
theorem c11 : (Rows.compilerRelocatesRow.unfollowed == Tryz.prog.unfollowed 8) = true := by kernel_rfl
end Go.Proofs.YtpbbgkoalnonoaaGreatDoor.fnRelocates
