/- Closed facts of the row of CompilerProgress: what is done in place and what is not followed. -/
import Derived.Test.YtpbbgkoalnonoaaGreatDoorTie
import Derived.JoinedCond
import Derived.JoinedOf
set_option linter.unusedVariables false
namespace Go.Proofs.YtpbbgkoalnonoaaGreatDoor.fnProgress
open Go
set_option maxRecDepth 100000
theorem c10 : (Rows.compilerProgressRow.inPlace == Tryz.prog.inPlace 7) = true := by kernel_rfl
theorem c11 : (Rows.compilerProgressRow.unfollowed == Tryz.prog.unfollowed 7) = true := by kernel_rfl
end Go.Proofs.YtpbbgkoalnonoaaGreatDoor.fnProgress
