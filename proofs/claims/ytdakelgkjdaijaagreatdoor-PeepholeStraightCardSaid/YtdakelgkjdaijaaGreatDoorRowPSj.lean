/- Closed facts of the row of PeepholeStraight: what is done in place and what is not followed. -/
import Derived.Test.YtdakelgkjdaijaaGreatDoorTie
import Derived.JoinedCond
import Derived.JoinedOf
set_option linter.unusedVariables false
namespace Go.Proofs.YtdakelgkjdaijaaGreatDoor.fnPeepholeStraight
open Go
set_option maxRecDepth 100000
theorem c10 : (Rows.peepholeStraightRow.inPlace == Tryz.prog.inPlace 5) = true := by kernel_rfl
theorem c11 : (Rows.peepholeStraightRow.unfollowed == Tryz.prog.unfollowed 5) = true := by kernel_rfl
end Go.Proofs.YtdakelgkjdaijaaGreatDoor.fnPeepholeStraight
