/- Closed facts of the row of PeepholeFolding: what is done in place and what is not followed. -/
import Derived.Test.YtdakelgkjdaijaaGreatDoorTie
import Derived.JoinedCond
import Derived.JoinedOf
set_option linter.unusedVariables false
namespace Go.Proofs.YtdakelgkjdaijaaGreatDoor.fnPeepholeFolding
open Go
set_option maxRecDepth 100000
theorem c10 : (Rows.peepholeFoldingRow.inPlace == Tryz.prog.inPlace 4) = true := by kernel_rfl
theorem c11 : (Rows.peepholeFoldingRow.unfollowed == Tryz.prog.unfollowed 4) = true := by kernel_rfl
end Go.Proofs.YtdakelgkjdaijaaGreatDoor.fnPeepholeFolding
