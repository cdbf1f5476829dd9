/-
  DERIVED. GIVEN WITH THE SEED: THE CARDS: each row of YtegmklafpoldgaaGreatDoorRows.lean that lists a variable, with what it lists TIED to the program's text (the seventh form; the later family's looks); each row that meets fmt, with fmt's text TOLD by the authors' own Lean function (tested against real Go, not proved from fmt's source: count such statements apart). THE CARD IS WHAT COUNTS. Prove the row's statement (the work); the ties are given (YtegmklafpoldgaaGreatDoorTie.lean); close each card by the builder's one call (the guide's Derived/Test/ToyasCard.lean, 'card_holds'). Laid BY PROGRAM, IN A SANDBOX (cutbox-door.mjs). By AI agents, Wed Nov 11 2026. No macro, syntax, notation, axiom, sorry.
-/
import Derived.Test.YtegmklafpoldgaaGreatDoorRows
import GoSem.ClaimSeven
namespace Go.Proofs.YtegmklafpoldgaaGreatDoor
namespace Rows

/-- THE TIED CARD OF 'stelelaw24.PeepholePreserves'. -/
def peepholePreservesCard : Claim7 := { stood := { row := peepholePreservesRow, standIns := [], harness := (true, "96a9dfce642b97fc043ba662948ded1826fe8b6331509852e5dbcbc5c2733e9c"), looks := true }, kinds := [], alts := [], laidByText := true, laidKinds := [.data, .data, .data, .data, .sentinel, .sentinel, .pinned], laidTests := true, laidLooks := .later }
def PeepholePreservesCardSaid : Prop := Claim7.holds Tryz.pinned (.plain (OpenSpec.ofChange peepholePreservesSpec)) peepholePreservesCard

/-- THE TIED CARD OF 'stelelaw24.PeepholeUncalled'. -/
def peepholeUncalledCard : Claim7 := { stood := { row := peepholeUncalledRow, standIns := [], harness := (true, "96a9dfce642b97fc043ba662948ded1826fe8b6331509852e5dbcbc5c2733e9c"), looks := true }, kinds := [], alts := [], laidByText := true, laidKinds := [.data, .data, .data, .data, .sentinel, .sentinel, .pinned], laidTests := true, laidLooks := .later }
def PeepholeUncalledCardSaid : Prop := Claim7.holds Tryz.pinned (.plain (OpenSpec.ofChange peepholeUncalledSpec)) peepholeUncalledCard

/-- THE TIED CARD OF 'steletop.TopCompilerCorrectness'. -/
def topCompilerCorrectnessCard : Claim7 := { stood := { row := topCompilerCorrectnessRow, standIns := [], harness := (true, "96a9dfce642b97fc043ba662948ded1826fe8b6331509852e5dbcbc5c2733e9c"), looks := true }, kinds := [], alts := [], laidByText := true, laidKinds := [.data, .data, .data, .data, .sentinel, .sentinel, .pinned], laidTests := true, laidLooks := .later }
def TopCompilerCorrectnessCardSaid : Prop := Claim7.holds Tryz.pinned (.plain (OpenSpec.ofChange topCompilerCorrectnessSpec)) topCompilerCorrectnessCard

/-- THE SECOND FORM's CARD OF 'stelelaw24.PeepholePreserves'. -/
def peepholePreservesUptoCard : Claim7 := { stood := { row := peepholePreservesUptoRow, standIns := [], harness := (true, "96a9dfce642b97fc043ba662948ded1826fe8b6331509852e5dbcbc5c2733e9c"), looks := true }, kinds := [], alts := [], laidByText := true, laidKinds := [.data, .data, .data, .data, .sentinel, .sentinel, .pinned], laidTests := true, laidLooks := .later }
def PeepholePreservesUptoCardSaid : Prop := Claim7.holds Tryz.pinned (.plain (OpenSpec.upto peepholePreservesSpec)) peepholePreservesUptoCard

/-- THE SECOND FORM's CARD OF 'stelelaw24.PeepholeUncalled'. -/
def peepholeUncalledUptoCard : Claim7 := { stood := { row := peepholeUncalledUptoRow, standIns := [], harness := (true, "96a9dfce642b97fc043ba662948ded1826fe8b6331509852e5dbcbc5c2733e9c"), looks := true }, kinds := [], alts := [], laidByText := true, laidKinds := [.data, .data, .data, .data, .sentinel, .sentinel, .pinned], laidTests := true, laidLooks := .later }
def PeepholeUncalledUptoCardSaid : Prop := Claim7.holds Tryz.pinned (.plain (OpenSpec.upto peepholeUncalledSpec)) peepholeUncalledUptoCard

/-- THE SECOND FORM's CARD OF 'steletop.TopCompilerCorrectness'. -/
def topCompilerCorrectnessUptoCard : Claim7 := { stood := { row := topCompilerCorrectnessUptoRow, standIns := [], harness := (true, "96a9dfce642b97fc043ba662948ded1826fe8b6331509852e5dbcbc5c2733e9c"), looks := true }, kinds := [], alts := [], laidByText := true, laidKinds := [.data, .data, .data, .data, .sentinel, .sentinel, .pinned], laidTests := true, laidLooks := .later }
def TopCompilerCorrectnessUptoCardSaid : Prop := Claim7.holds Tryz.pinned (.plain (OpenSpec.upto topCompilerCorrectnessSpec)) topCompilerCorrectnessUptoCard
end Rows
end Go.Proofs.YtegmklafpoldgaaGreatDoor
