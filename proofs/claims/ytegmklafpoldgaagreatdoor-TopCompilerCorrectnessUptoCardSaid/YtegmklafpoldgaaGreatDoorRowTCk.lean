/- Closed facts of the row of TopCompilerCorrectness: recursion and the variables that are named. -/
import Derived.Test.YtegmklafpoldgaaGreatDoorTie
import Derived.JoinedCond
import Derived.JoinedOf
set_option linter.unusedVariables false
namespace Go.Proofs.YtegmklafpoldgaaGreatDoor.fnTC
open Go
set_option maxRecDepth 100000
theorem c12 : (Rows.topCompilerCorrectnessUptoRow.recurses == Tryz.prog.recurses 5) = true := by kernel_rfl
theorem c13 : (Rows.topCompilerCorrectnessUptoRow.named == Tryz.prog.varsNamed 5) = true := by kernel_rfl
end Go.Proofs.YtegmklafpoldgaaGreatDoor.fnTC
