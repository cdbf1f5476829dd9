/-
  DERIVED. GIVEN WITH THE SEED: THE CARDS: each row of YtdakelgkjdaijaaGreatDoorRows.lean that lists a variable, with what it lists TIED to the program's text (the seventh form; the later family's looks); each row that meets fmt, with fmt's text TOLD by the authors' own Lean function (tested against real Go, not proved from fmt's source: count such statements apart). THE CARD IS WHAT COUNTS. Prove the row's statement (the work); the ties are given (YtdakelgkjdaijaaGreatDoorTie.lean); close each card by the builder's one call (the guide's Derived/Test/ToyasCard.lean, 'card_holds'). Laid BY PROGRAM, IN A SANDBOX (cutbox-door.mjs). By AI agents, Wed Nov 11 2026. No macro, syntax, notation, axiom, sorry.
-/
import Derived.Test.YtdakelgkjdaijaaGreatDoorRows
import GoSem.ClaimSeven
namespace Go.Proofs.YtdakelgkjdaijaaGreatDoor
namespace Rows

/-- THE TIED CARD OF 'steletop.TopSourcePrograms'. -/
def topSourceProgramsCard : Claim7 := { stood := { row := topSourceProgramsRow, standIns := [], harness := (true, "1d6be54cf581887abdbe728b0255139bea28ae8dfe1010062d2b298f95f94725"), looks := true }, kinds := [], alts := [], laidByText := true, laidKinds := [.data, .data, .data, .data, .sentinel, .sentinel, .pinned], laidTests := true, laidLooks := .later }
def TopSourceProgramsCardSaid : Prop := Claim7.holds Tryz.pinned (.plain (OpenSpec.ofChange topSourceProgramsSpec)) topSourceProgramsCard

/-- THE TIED CARD OF 'stelelaw24.PeepholeFolding'. -/
def peepholeFoldingCard : Claim7 := { stood := { row := peepholeFoldingRow, standIns := [], harness := (true, "1d6be54cf581887abdbe728b0255139bea28ae8dfe1010062d2b298f95f94725"), looks := true }, kinds := [], alts := [], laidByText := true, laidKinds := [.data, .data, .data, .data, .sentinel, .sentinel, .pinned], laidTests := true, laidLooks := .later }
def PeepholeFoldingCardSaid : Prop := Claim7.holds Tryz.pinned (.plain (OpenSpec.ofChange peepholeFoldingSpec)) peepholeFoldingCard

/-- THE TIED CARD OF 'stelelaw24.PeepholeStraight'. -/
def peepholeStraightCard : Claim7 := { stood := { row := peepholeStraightRow, standIns := [], harness := (true, "1d6be54cf581887abdbe728b0255139bea28ae8dfe1010062d2b298f95f94725"), looks := true }, kinds := [], alts := [], laidByText := true, laidKinds := [.data, .data, .data, .data, .sentinel, .sentinel, .pinned], laidTests := true, laidLooks := .later }
def PeepholeStraightCardSaid : Prop := Claim7.holds Tryz.pinned (.plain (OpenSpec.ofChange peepholeStraightSpec)) peepholeStraightCard

/-- THE SECOND FORM's CARD OF 'steletop.TopSourcePrograms'. -/
def topSourceProgramsUptoCard : Claim7 := { stood := { row := topSourceProgramsUptoRow, standIns := [], harness := (true, "1d6be54cf581887abdbe728b0255139bea28ae8dfe1010062d2b298f95f94725"), looks := true }, kinds := [], alts := [], laidByText := true, laidKinds := [.data, .data, .data, .data, .sentinel, .sentinel, .pinned], laidTests := true, laidLooks := .later }
def TopSourceProgramsUptoCardSaid : Prop := Claim7.holds Tryz.pinned (.plain (OpenSpec.upto topSourceProgramsSpec)) topSourceProgramsUptoCard

/-- THE SECOND FORM's CARD OF 'stelelaw24.PeepholeFolding'. -/
def peepholeFoldingUptoCard : Claim7 := { stood := { row := peepholeFoldingUptoRow, standIns := [], harness := (true, "1d6be54cf581887abdbe728b0255139bea28ae8dfe1010062d2b298f95f94725"), looks := true }, kinds := [], alts := [], laidByText := true, laidKinds := [.data, .data, .data, .data, .sentinel, .sentinel, .pinned], laidTests := true, laidLooks := .later }
def PeepholeFoldingUptoCardSaid : Prop := Claim7.holds Tryz.pinned (.plain (OpenSpec.upto peepholeFoldingSpec)) peepholeFoldingUptoCard

/-- THE SECOND FORM's CARD OF 'stelelaw24.PeepholeStraight'. -/
def peepholeStraightUptoCard : Claim7 := { stood := { row := peepholeStraightUptoRow, standIns := [], harness := (true, "1d6be54cf581887abdbe728b0255139bea28ae8dfe1010062d2b298f95f94725"), looks := true }, kinds := [], alts := [], laidByText := true, laidKinds := [.data, .data, .data, .data, .sentinel, .sentinel, .pinned], laidTests := true, laidLooks := .later }
def PeepholeStraightUptoCardSaid : Prop := Claim7.holds Tryz.pinned (.plain (OpenSpec.upto peepholeStraightSpec)) peepholeStraightUptoCard
end Rows
end Go.Proofs.YtdakelgkjdaijaaGreatDoor
