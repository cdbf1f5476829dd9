/- Closed facts of the row of RendererProgram: recursion and the variables that are named. -/
import Derived.Test.YtjolancjacdeaaaGreatDoorTie
import Derived.JoinedCond
import Derived.JoinedOf
set_option linter.unusedVariables false
namespace Go.Proofs.YtjolancjacdeaaaGreatDoor.fnRendererProgram
open Go
set_option maxRecDepth 100000
theorem c12 : (Rows.rendererProgramRow.recurses == Tryz.prog.recurses 3) = true := by kernel_rfl
theorem c13 : (Rows.rendererProgramRow.named == Tryz.prog.varsNamed 3) = true := by kernel_rfl
end Go.Proofs.YtjolancjacdeaaaGreatDoor.fnRendererProgram
