/-
  DERIVED. GIVEN WITH THE SEED: THE CARDS: each row of YtocofhbdbgnmbaaGreatDoorRows.lean that lists a variable, with what it lists TIED to the program's text (the seventh form; the later family's looks); each row that meets fmt, with fmt's text TOLD by the authors' own Lean function (tested against real Go, not proved from fmt's source: count such statements apart). THE CARD IS WHAT COUNTS. Prove the row's statement (the work); the ties are given (YtocofhbdbgnmbaaGreatDoorTie.lean); close each card by the builder's one call (the guide's Derived/Test/ToyasCard.lean, 'card_holds'). Laid BY PROGRAM, IN A SANDBOX (cutbox-door.mjs). By AI agents, Wed Nov 11 2026. No macro, syntax, notation, axiom, sorry.
-/
import Derived.Test.YtocofhbdbgnmbaaGreatDoorRows
import GoSem.ClaimSeven
namespace Go.Proofs.YtocofhbdbgnmbaaGreatDoor
namespace Rows

/-- THE TIED CARD OF 'stelelaw53.RendererRenders'. -/
def rendererRendersCard : Claim7 := { stood := { row := rendererRendersRow, standIns := [], harness := (true, "474b1f38cadd5845cefe7515719faabdfa5caed714d50b63e0801256835e7774"), looks := true }, kinds := [], alts := [], laidByText := true, laidKinds := [.data, .data, .data, .data, .sentinel, .sentinel, .pinned], laidTests := true, laidLooks := .later }
def RendererRendersCardSaid : Prop := Claim7.holds Tryz.pinned (.plain (OpenSpec.ofChange rendererRendersSpec)) rendererRendersCard

/-- THE TIED CARD OF 'stelelaw53.RendererPicture'. -/
def rendererPictureCard : Claim7 := { stood := { row := rendererPictureRow, standIns := [], harness := (true, "474b1f38cadd5845cefe7515719faabdfa5caed714d50b63e0801256835e7774"), looks := true }, kinds := [], alts := [], laidByText := true, laidKinds := [.data, .data, .data, .data, .sentinel, .sentinel, .pinned], laidTests := true, laidLooks := .later }
def RendererPictureCardSaid : Prop := Claim7.holds Tryz.pinned (.plain (OpenSpec.ofChange rendererPictureSpec)) rendererPictureCard

/-- THE TIED CARD OF 'stelelaw53.RendererBlocks'. -/
def rendererBlocksCard : Claim7 := { stood := { row := rendererBlocksRow, standIns := [], harness := (true, "474b1f38cadd5845cefe7515719faabdfa5caed714d50b63e0801256835e7774"), looks := true }, kinds := [], alts := [], laidByText := true, laidKinds := [.data, .data, .data, .data, .sentinel, .sentinel, .pinned], laidTests := true, laidLooks := .later }
def RendererBlocksCardSaid : Prop := Claim7.holds Tryz.pinned (.plain (OpenSpec.ofChange rendererBlocksSpec)) rendererBlocksCard

/-- THE TIED CARD OF 'stelelaw53.RendererWide'. -/
def rendererWideCard : Claim7 := { stood := { row := rendererWideRow, standIns := [], harness := (true, "474b1f38cadd5845cefe7515719faabdfa5caed714d50b63e0801256835e7774"), looks := true }, kinds := [], alts := [], laidByText := true, laidKinds := [.data, .data, .data, .data, .sentinel, .sentinel, .pinned], laidTests := true, laidLooks := .later }
def RendererWideCardSaid : Prop := Claim7.holds Tryz.pinned (.plain (OpenSpec.ofChange rendererWideSpec)) rendererWideCard

/-- THE TIED CARD OF 'stelelaw53.RendererWidth'. -/
def rendererWidthCard : Claim7 := { stood := { row := rendererWidthRow, standIns := [], harness := (true, "474b1f38cadd5845cefe7515719faabdfa5caed714d50b63e0801256835e7774"), looks := true }, kinds := [], alts := [], laidByText := true, laidKinds := [.data, .data, .data, .data, .sentinel, .sentinel, .pinned], laidTests := true, laidLooks := .later }
def RendererWidthCardSaid : Prop := Claim7.holds Tryz.pinned (.plain (OpenSpec.ofChange rendererWidthSpec)) rendererWidthCard

/-- THE SECOND FORM's CARD OF 'stelelaw53.RendererRenders'. -/
def rendererRendersUptoCard : Claim7 := { stood := { row := rendererRendersUptoRow, standIns := [], harness := (true, "474b1f38cadd5845cefe7515719faabdfa5caed714d50b63e0801256835e7774"), looks := true }, kinds := [], alts := [], laidByText := true, laidKinds := [.data, .data, .data, .data, .sentinel, .sentinel, .pinned], laidTests := true, laidLooks := .later }
def RendererRendersUptoCardSaid : Prop := Claim7.holds Tryz.pinned (.plain (OpenSpec.upto rendererRendersSpec)) rendererRendersUptoCard

/-- THE SECOND FORM's CARD OF 'stelelaw53.RendererPicture'. -/
def rendererPictureUptoCard : Claim7 := { stood := { row := rendererPictureUptoRow, standIns := [], harness := (true, "474b1f38cadd5845cefe7515719faabdfa5caed714d50b63e0801256835e7774"), looks := true }, kinds := [], alts := [], laidByText := true, laidKinds := [.data, .data, .data, .data, .sentinel, .sentinel, .pinned], laidTests := true, laidLooks := .later }
def RendererPictureUptoCardSaid : Prop := Claim7.holds Tryz.pinned (.plain (OpenSpec.upto rendererPictureSpec)) rendererPictureUptoCard

/-- THE SECOND FORM's CARD OF 'stelelaw53.RendererBlocks'. -/
def rendererBlocksUptoCard : Claim7 := { stood := { row := rendererBlocksUptoRow, standIns := [], harness := (true, "474b1f38cadd5845cefe7515719faabdfa5caed714d50b63e0801256835e7774"), looks := true }, kinds := [], alts := [], laidByText := true, laidKinds := [.data, .data, .data, .data, .sentinel, .sentinel, .pinned], laidTests := true, laidLooks := .later }
def RendererBlocksUptoCardSaid : Prop := Claim7.holds Tryz.pinned (.plain (OpenSpec.upto rendererBlocksSpec)) rendererBlocksUptoCard

/-- THE SECOND FORM's CARD OF 'stelelaw53.RendererWide'. -/
def rendererWideUptoCard : Claim7 := { stood := { row := rendererWideUptoRow, standIns := [], harness := (true, "474b1f38cadd5845cefe7515719faabdfa5caed714d50b63e0801256835e7774"), looks := true }, kinds := [], alts := [], laidByText := true, laidKinds := [.data, .data, .data, .data, .sentinel, .sentinel, .pinned], laidTests := true, laidLooks := .later }
def RendererWideUptoCardSaid : Prop := Claim7.holds Tryz.pinned (.plain (OpenSpec.upto rendererWideSpec)) rendererWideUptoCard

/-- THE SECOND FORM's CARD OF 'stelelaw53.RendererWidth'. -/
def rendererWidthUptoCard : Claim7 := { stood := { row := rendererWidthUptoRow, standIns := [], harness := (true, "474b1f38cadd5845cefe7515719faabdfa5caed714d50b63e0801256835e7774"), looks := true }, kinds := [], alts := [], laidByText := true, laidKinds := [.data, .data, .data, .data, .sentinel, .sentinel, .pinned], laidTests := true, laidLooks := .later }
def RendererWidthUptoCardSaid : Prop := Claim7.holds Tryz.pinned (.plain (OpenSpec.upto rendererWidthSpec)) rendererWidthUptoCard
end Rows
end Go.Proofs.YtocofhbdbgnmbaaGreatDoor
