/- Closed facts of the row of PeepholeStraight: recursion and the variables that are named. -/
import Derived.Test.YtdakelgkjdaijaaGreatDoorTie
import Derived.JoinedCond
import Derived.JoinedOf
set_option linter.unusedVariables false
namespace Go.Proofs.YtdakelgkjdaijaaGreatDoor.fnPeepholeStraight
open Go
set_option maxRecDepth 100000
theorem c12 : (Rows.peepholeStraightRow.recurses == Tryz.prog.recurses 5) = true := by kernel_rfl
theorem c13 : (Rows.peepholeStraightRow.named == Tryz.prog.varsNamed 5) = true := by kernel_rfl
end Go.Proofs.YtdakelgkjdaijaaGreatDoor.fnPeepholeStraight
