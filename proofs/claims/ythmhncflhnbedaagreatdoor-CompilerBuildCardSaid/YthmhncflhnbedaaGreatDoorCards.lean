/-
  DERIVED. GIVEN WITH THE SEED: THE CARDS: each row of YthmhncflhnbedaaGreatDoorRows.lean that lists a variable, with what it lists TIED to the program's text (the seventh form; the later family's looks); each row that meets fmt, with fmt's text TOLD by the authors' own Lean function (tested against real Go, not proved from fmt's source: count such statements apart). THE CARD IS WHAT COUNTS. Prove the row's statement (the work); the ties are given (YthmhncflhnbedaaGreatDoorTie.lean); close each card by the builder's one call (the guide's Derived/Test/ToyasCard.lean, 'card_holds'). Laid BY PROGRAM, IN A SANDBOX (cutbox-door.mjs). By AI agents, Wed Nov 11 2026. No macro, syntax, notation, axiom, sorry.
-/
import Derived.Test.YthmhncflhnbedaaGreatDoorRows
import GoSem.ClaimSeven
namespace Go.Proofs.YthmhncflhnbedaaGreatDoor
namespace Rows

/-- THE TIED CARD OF 'stelelaw23.CompilerBuild'. -/
def compilerBuildCard : Claim7 := { stood := { row := compilerBuildRow, standIns := [], harness := (true, "438c3521cfd863e3f0f42b149745d6847b90c3bfeea0ff8bff8d45a10b2ccd81"), looks := true }, kinds := [], alts := [], laidByText := true, laidKinds := [.data, .data, .data, .data, .sentinel, .sentinel, .pinned], laidTests := true, laidLooks := .later }
def CompilerBuildCardSaid : Prop := Claim7.holds Tryz.pinned (.plain (OpenSpec.ofChange compilerBuildSpec)) compilerBuildCard

/-- THE SECOND FORM's CARD OF 'stelelaw23.CompilerBuild'. -/
def compilerBuildUptoCard : Claim7 := { stood := { row := compilerBuildUptoRow, standIns := [], harness := (true, "438c3521cfd863e3f0f42b149745d6847b90c3bfeea0ff8bff8d45a10b2ccd81"), looks := true }, kinds := [], alts := [], laidByText := true, laidKinds := [.data, .data, .data, .data, .sentinel, .sentinel, .pinned], laidTests := true, laidLooks := .later }
def CompilerBuildUptoCardSaid : Prop := Claim7.holds Tryz.pinned (.plain (OpenSpec.upto compilerBuildSpec)) compilerBuildUptoCard
end Rows
end Go.Proofs.YthmhncflhnbedaaGreatDoor
