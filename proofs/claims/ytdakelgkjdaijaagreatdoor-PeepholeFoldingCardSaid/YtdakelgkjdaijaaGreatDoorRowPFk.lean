/- Closed facts of the row of PeepholeFolding: recursion and the variables that are named. -/
import Derived.Test.YtdakelgkjdaijaaGreatDoorTie
import Derived.JoinedCond
import Derived.JoinedOf
set_option linter.unusedVariables false
namespace Go.Proofs.YtdakelgkjdaijaaGreatDoor.fnPeepholeFolding
open Go
set_option maxRecDepth 100000
theorem c12 : (Rows.peepholeFoldingRow.recurses == Tryz.prog.recurses 4) = true := by kernel_rfl
theorem c13 : (Rows.peepholeFoldingRow.named == Tryz.prog.varsNamed 4) = true := by kernel_rfl
end Go.Proofs.YtdakelgkjdaijaaGreatDoor.fnPeepholeFolding
