/-
  DERIVED. GIVEN WITH THE SEED: THE CARDS: each row of YtjolancjacdeaaaGreatDoorRows.lean that lists a variable, with what it lists TIED to the program's text (the seventh form; the later family's looks); each row that meets fmt, with fmt's text TOLD by the authors' own Lean function (tested against real Go, not proved from fmt's source: count such statements apart). THE CARD IS WHAT COUNTS. Prove the row's statement (the work); the ties are given (YtjolancjacdeaaaGreatDoorTie.lean); close each card by the builder's one call (the guide's Derived/Test/ToyasCard.lean, 'card_holds'). Laid BY PROGRAM, IN A SANDBOX (cutbox-door.mjs). By AI agents, Wed Nov 11 2026. No macro, syntax, notation, axiom, sorry.
-/
import Derived.Test.YtjolancjacdeaaaGreatDoorRows
import GoSem.ClaimSeven
namespace Go.Proofs.YtjolancjacdeaaaGreatDoor
namespace Rows

/-- THE TIED CARD OF 'stelelaw53.RendererProgram'. -/
def rendererProgramCard : Claim7 := { stood := { row := rendererProgramRow, standIns := [], harness := (true, "33adacbb5c64215ee9f524816e001faaef3f515e2c976f036ffc5a82adb64aaf"), looks := true }, kinds := [], alts := [], laidByText := true, laidKinds := [.data, .data, .data, .data, .sentinel, .sentinel, .pinned], laidTests := true, laidLooks := .later }
def RendererProgramCardSaid : Prop := Claim7.holds Tryz.pinned (.plain (OpenSpec.ofChange rendererProgramSpec)) rendererProgramCard

/-- THE SECOND FORM's CARD OF 'stelelaw53.RendererProgram'. -/
def rendererProgramUptoCard : Claim7 := { stood := { row := rendererProgramUptoRow, standIns := [], harness := (true, "33adacbb5c64215ee9f524816e001faaef3f515e2c976f036ffc5a82adb64aaf"), looks := true }, kinds := [], alts := [], laidByText := true, laidKinds := [.data, .data, .data, .data, .sentinel, .sentinel, .pinned], laidTests := true, laidLooks := .later }
def RendererProgramUptoCardSaid : Prop := Claim7.holds Tryz.pinned (.plain (OpenSpec.upto rendererProgramSpec)) rendererProgramUptoCard
end Rows
end Go.Proofs.YtjolancjacdeaaaGreatDoor
