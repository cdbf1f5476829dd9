/-
  DERIVED. GIVEN WITH THE SEED: THE CARDS: each row of YtkjjenppmmipmaaGreatDoorRows.lean that lists a variable, with what it lists TIED to the program's text (the seventh form; the later family's looks); each row that meets fmt, with fmt's text TOLD by the authors' own Lean function (tested against real Go, not proved from fmt's source: count such statements apart). THE CARD IS WHAT COUNTS. Prove the row's statement (the work); the ties are given (YtkjjenppmmipmaaGreatDoorTie.lean); close each card by the builder's one call (the guide's Derived/Test/ToyasCard.lean, 'card_holds'). Laid BY PROGRAM, IN A SANDBOX (cutbox-door.mjs). By AI agents, Wed Nov 11 2026. No macro, syntax, notation, axiom, sorry.
-/
import Derived.Test.YtkjjenppmmipmaaGreatDoorRows
import GoSem.ClaimSeven
namespace Go.Proofs.YtkjjenppmmipmaaGreatDoor
namespace Rows

/-- THE TIED CARD OF 'stelelaw24.PeepholeOnce'. -/
def peepholeOnceCard : Claim7 := { stood := { row := peepholeOnceRow, standIns := [], harness := (true, "6087ee05f65fb79204f4fc566741b829c578ca0ced97caff1c59ed2ce90f69a0"), looks := true }, kinds := [], alts := [], laidByText := true, laidKinds := [.data, .data, .data, .data, .sentinel, .sentinel, .pinned], laidTests := true, laidLooks := .later }
def PeepholeOnceCardSaid : Prop := Claim7.holds Tryz.pinned (.plain (OpenSpec.ofChange peepholeOnceSpec)) peepholeOnceCard

/-- THE TIED CARD OF 'stelelaw24.PeepholeFixpoint'. -/
def peepholeFixpointCard : Claim7 := { stood := { row := peepholeFixpointRow, standIns := [], harness := (true, "6087ee05f65fb79204f4fc566741b829c578ca0ced97caff1c59ed2ce90f69a0"), looks := true }, kinds := [], alts := [], laidByText := true, laidKinds := [.data, .data, .data, .data, .sentinel, .sentinel, .pinned], laidTests := true, laidLooks := .later }
def PeepholeFixpointCardSaid : Prop := Claim7.holds Tryz.pinned (.plain (OpenSpec.ofChange peepholeFixpointSpec)) peepholeFixpointCard

/-- THE TIED CARD OF 'stelelaw24.PeepholeAssembles'. -/
def peepholeAssemblesCard : Claim7 := { stood := { row := peepholeAssemblesRow, standIns := [], harness := (true, "6087ee05f65fb79204f4fc566741b829c578ca0ced97caff1c59ed2ce90f69a0"), looks := true }, kinds := [], alts := [], laidByText := true, laidKinds := [.data, .data, .data, .data, .sentinel, .sentinel, .pinned], laidTests := true, laidLooks := .later }
def PeepholeAssemblesCardSaid : Prop := Claim7.holds Tryz.pinned (.plain (OpenSpec.ofChange peepholeAssemblesSpec)) peepholeAssemblesCard

/-- THE TIED CARD OF 'stelelaw24.PeepholeOptimize'. -/
def peepholeOptimizeCard : Claim7 := { stood := { row := peepholeOptimizeRow, standIns := [], harness := (true, "6087ee05f65fb79204f4fc566741b829c578ca0ced97caff1c59ed2ce90f69a0"), looks := true }, kinds := [], alts := [], laidByText := true, laidKinds := [.data, .data, .data, .data, .sentinel, .sentinel, .pinned], laidTests := true, laidLooks := .later }
def PeepholeOptimizeCardSaid : Prop := Claim7.holds Tryz.pinned (.plain (OpenSpec.ofChange peepholeOptimizeSpec)) peepholeOptimizeCard

/-- THE TIED CARD OF 'stelelaw24.PeepholeStraight'. -/
def peepholeStraightCard : Claim7 := { stood := { row := peepholeStraightRow, standIns := [], harness := (true, "6087ee05f65fb79204f4fc566741b829c578ca0ced97caff1c59ed2ce90f69a0"), looks := true }, kinds := [], alts := [], laidByText := true, laidKinds := [.data, .data, .data, .data, .sentinel, .sentinel, .pinned], laidTests := true, laidLooks := .later }
def PeepholeStraightCardSaid : Prop := Claim7.holds Tryz.pinned (.plain (OpenSpec.ofChange peepholeStraightSpec)) peepholeStraightCard

/-- THE TIED CARD OF 'stelelaw24.PeepholeFolding'. -/
def peepholeFoldingCard : Claim7 := { stood := { row := peepholeFoldingRow, standIns := [], harness := (true, "6087ee05f65fb79204f4fc566741b829c578ca0ced97caff1c59ed2ce90f69a0"), looks := true }, kinds := [], alts := [], laidByText := true, laidKinds := [.data, .data, .data, .data, .sentinel, .sentinel, .pinned], laidTests := true, laidLooks := .later }
def PeepholeFoldingCardSaid : Prop := Claim7.holds Tryz.pinned (.plain (OpenSpec.ofChange peepholeFoldingSpec)) peepholeFoldingCard

/-- THE SECOND FORM's CARD OF 'stelelaw24.PeepholeOnce'. -/
def peepholeOnceUptoCard : Claim7 := { stood := { row := peepholeOnceUptoRow, standIns := [], harness := (true, "6087ee05f65fb79204f4fc566741b829c578ca0ced97caff1c59ed2ce90f69a0"), looks := true }, kinds := [], alts := [], laidByText := true, laidKinds := [.data, .data, .data, .data, .sentinel, .sentinel, .pinned], laidTests := true, laidLooks := .later }
def PeepholeOnceUptoCardSaid : Prop := Claim7.holds Tryz.pinned (.plain (OpenSpec.upto peepholeOnceSpec)) peepholeOnceUptoCard

/-- THE SECOND FORM's CARD OF 'stelelaw24.PeepholeFixpoint'. -/
def peepholeFixpointUptoCard : Claim7 := { stood := { row := peepholeFixpointUptoRow, standIns := [], harness := (true, "6087ee05f65fb79204f4fc566741b829c578ca0ced97caff1c59ed2ce90f69a0"), looks := true }, kinds := [], alts := [], laidByText := true, laidKinds := [.data, .data, .data, .data, .sentinel, .sentinel, .pinned], laidTests := true, laidLooks := .later }
def PeepholeFixpointUptoCardSaid : Prop := Claim7.holds Tryz.pinned (.plain (OpenSpec.upto peepholeFixpointSpec)) peepholeFixpointUptoCard

/-- THE SECOND FORM's CARD OF 'stelelaw24.PeepholeAssembles'. -/
def peepholeAssemblesUptoCard : Claim7 := { stood := { row := peepholeAssemblesUptoRow, standIns := [], harness := (true, "6087ee05f65fb79204f4fc566741b829c578ca0ced97caff1c59ed2ce90f69a0"), looks := true }, kinds := [], alts := [], laidByText := true, laidKinds := [.data, .data, .data, .data, .sentinel, .sentinel, .pinned], laidTests := true, laidLooks := .later }
def PeepholeAssemblesUptoCardSaid : Prop := Claim7.holds Tryz.pinned (.plain (OpenSpec.upto peepholeAssemblesSpec)) peepholeAssemblesUptoCard

/-- THE SECOND FORM's CARD OF 'stelelaw24.PeepholeOptimize'. -/
def peepholeOptimizeUptoCard : Claim7 := { stood := { row := peepholeOptimizeUptoRow, standIns := [], harness := (true, "6087ee05f65fb79204f4fc566741b829c578ca0ced97caff1c59ed2ce90f69a0"), looks := true }, kinds := [], alts := [], laidByText := true, laidKinds := [.data, .data, .data, .data, .sentinel, .sentinel, .pinned], laidTests := true, laidLooks := .later }
def PeepholeOptimizeUptoCardSaid : Prop := Claim7.holds Tryz.pinned (.plain (OpenSpec.upto peepholeOptimizeSpec)) peepholeOptimizeUptoCard

/-- THE SECOND FORM's CARD OF 'stelelaw24.PeepholeStraight'. -/
def peepholeStraightUptoCard : Claim7 := { stood := { row := peepholeStraightUptoRow, standIns := [], harness := (true, "6087ee05f65fb79204f4fc566741b829c578ca0ced97caff1c59ed2ce90f69a0"), looks := true }, kinds := [], alts := [], laidByText := true, laidKinds := [.data, .data, .data, .data, .sentinel, .sentinel, .pinned], laidTests := true, laidLooks := .later }
def PeepholeStraightUptoCardSaid : Prop := Claim7.holds Tryz.pinned (.plain (OpenSpec.upto peepholeStraightSpec)) peepholeStraightUptoCard

/-- THE SECOND FORM's CARD OF 'stelelaw24.PeepholeFolding'. -/
def peepholeFoldingUptoCard : Claim7 := { stood := { row := peepholeFoldingUptoRow, standIns := [], harness := (true, "6087ee05f65fb79204f4fc566741b829c578ca0ced97caff1c59ed2ce90f69a0"), looks := true }, kinds := [], alts := [], laidByText := true, laidKinds := [.data, .data, .data, .data, .sentinel, .sentinel, .pinned], laidTests := true, laidLooks := .later }
def PeepholeFoldingUptoCardSaid : Prop := Claim7.holds Tryz.pinned (.plain (OpenSpec.upto peepholeFoldingSpec)) peepholeFoldingUptoCard
end Rows
end Go.Proofs.YtkjjenppmmipmaaGreatDoor
