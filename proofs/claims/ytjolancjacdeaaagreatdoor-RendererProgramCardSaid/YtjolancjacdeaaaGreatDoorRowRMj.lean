/- Closed facts of the row of RendererProgram: what is done in place and what is not followed. -/
import Derived.Test.YtjolancjacdeaaaGreatDoorTie
import Derived.JoinedCond
import Derived.JoinedOf
set_option linter.unusedVariables false
namespace Go.Proofs.YtjolancjacdeaaaGreatDoor.fnRendererProgram
open Go
set_option maxRecDepth 100000
theorem c10 : (Rows.rendererProgramRow.inPlace == Tryz.prog.inPlace 3) = true := by kernel_rfl
theorem c11 : (Rows.rendererProgramRow.unfollowed == Tryz.prog.unfollowed 3) = true := by kernel_rfl
end Go.Proofs.YtjolancjacdeaaaGreatDoor.fnRendererProgram
