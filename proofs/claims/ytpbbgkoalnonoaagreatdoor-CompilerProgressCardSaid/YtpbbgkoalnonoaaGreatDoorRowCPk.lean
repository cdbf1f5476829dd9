/- Closed facts of the row of CompilerProgress: recursion and the variables that are named. -/
import Derived.Test.YtpbbgkoalnonoaaGreatDoorTie
import Derived.JoinedCond
import Derived.JoinedOf
set_option linter.unusedVariables false
namespace Go.Proofs.YtpbbgkoalnonoaaGreatDoor.fnProgress
open Go
set_option maxRecDepth 100000
theorem c12 : (Rows.compilerProgressRow.recurses == Tryz.prog.recurses 7) = true := by kernel_rfl
theorem c13 : (Rows.compilerProgressRow.named == Tryz.prog.varsNamed 7) = true := by kernel_rfl
end Go.Proofs.YtpbbgkoalnonoaaGreatDoor.fnProgress
