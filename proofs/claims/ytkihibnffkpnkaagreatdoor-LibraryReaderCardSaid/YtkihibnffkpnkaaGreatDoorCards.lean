/-
  DERIVED. GIVEN WITH THE SEED: THE CARDS: each row of YtkihibnffkpnkaaGreatDoorRows.lean that lists a variable, with what it lists TIED to the program's text (the seventh form; the later family's looks); each row that meets fmt, with fmt's text TOLD by the authors' own Lean function (tested against real Go, not proved from fmt's source: count such statements apart). THE CARD IS WHAT COUNTS. Prove the row's statement (the work); the ties are given (YtkihibnffkpnkaaGreatDoorTie.lean); close each card by the builder's one call (the guide's Derived/Test/ToyasCard.lean, 'card_holds'). Laid BY PROGRAM, IN A SANDBOX (cutbox-door.mjs). By AI agents, Wed Nov 11 2026. No macro, syntax, notation, axiom, sorry.
-/
import Derived.Test.YtkihibnffkpnkaaGreatDoorRows
import GoSem.ClaimSeven
namespace Go.Proofs.YtkihibnffkpnkaaGreatDoor
namespace Rows

/-- THE TIED CARD OF 'stelelaw25.LibraryCrc'. -/
def libraryCrcCard : Claim7 := { stood := { row := libraryCrcRow, standIns := [], harness := (true, "a24edd81082014c7bde49ad6e56c8ca56c76965a1cf16536fa2399a4bdb8bdfc"), looks := true }, kinds := [], alts := [], laidByText := true, laidKinds := [.data, .data, .data, .data, .sentinel, .sentinel, .pinned], laidTests := true, laidLooks := .later }
def LibraryCrcCardSaid : Prop := Claim7.holds Tryz.pinned (.plain (OpenSpec.ofChange libraryCrcSpec)) libraryCrcCard

/-- THE TIED CARD OF 'stelelaw25.LibraryTexts'. -/
def libraryTextsCard : Claim7 := { stood := { row := libraryTextsRow, standIns := [], harness := (true, "a24edd81082014c7bde49ad6e56c8ca56c76965a1cf16536fa2399a4bdb8bdfc"), looks := true }, kinds := [], alts := [], laidByText := true, laidKinds := [.data, .data, .data, .data, .sentinel, .sentinel, .pinned], laidTests := true, laidLooks := .later }
def LibraryTextsCardSaid : Prop := Claim7.holds Tryz.pinned (.plain (OpenSpec.ofChange libraryTextsSpec)) libraryTextsCard

/-- THE TIED CARD OF 'stelelaw25.LibraryModules'. -/
def libraryModulesCard : Claim7 := { stood := { row := libraryModulesRow, standIns := [], harness := (true, "a24edd81082014c7bde49ad6e56c8ca56c76965a1cf16536fa2399a4bdb8bdfc"), looks := true }, kinds := [], alts := [], laidByText := true, laidKinds := [.data, .data, .data, .data, .sentinel, .sentinel, .pinned], laidTests := true, laidLooks := .later }
def LibraryModulesCardSaid : Prop := Claim7.holds Tryz.pinned (.plain (OpenSpec.ofChange libraryModulesSpec)) libraryModulesCard

/-- THE TIED CARD OF 'stelelaw25.LibraryReader'. -/
def libraryReaderCard : Claim7 := { stood := { row := libraryReaderRow, standIns := [], harness := (true, "a24edd81082014c7bde49ad6e56c8ca56c76965a1cf16536fa2399a4bdb8bdfc"), looks := true }, kinds := [], alts := [], laidByText := true, laidKinds := [.data, .data, .data, .data, .sentinel, .sentinel, .pinned], laidTests := true, laidLooks := .later }
def LibraryReaderCardSaid : Prop := Claim7.holds Tryz.pinned (.plain (OpenSpec.ofChange libraryReaderSpec)) libraryReaderCard

/-- THE SECOND FORM's CARD OF 'stelelaw25.LibraryCrc'. -/
def libraryCrcUptoCard : Claim7 := { stood := { row := libraryCrcUptoRow, standIns := [], harness := (true, "a24edd81082014c7bde49ad6e56c8ca56c76965a1cf16536fa2399a4bdb8bdfc"), looks := true }, kinds := [], alts := [], laidByText := true, laidKinds := [.data, .data, .data, .data, .sentinel, .sentinel, .pinned], laidTests := true, laidLooks := .later }
def LibraryCrcUptoCardSaid : Prop := Claim7.holds Tryz.pinned (.plain (OpenSpec.upto libraryCrcSpec)) libraryCrcUptoCard

/-- THE SECOND FORM's CARD OF 'stelelaw25.LibraryTexts'. -/
def libraryTextsUptoCard : Claim7 := { stood := { row := libraryTextsUptoRow, standIns := [], harness := (true, "a24edd81082014c7bde49ad6e56c8ca56c76965a1cf16536fa2399a4bdb8bdfc"), looks := true }, kinds := [], alts := [], laidByText := true, laidKinds := [.data, .data, .data, .data, .sentinel, .sentinel, .pinned], laidTests := true, laidLooks := .later }
def LibraryTextsUptoCardSaid : Prop := Claim7.holds Tryz.pinned (.plain (OpenSpec.upto libraryTextsSpec)) libraryTextsUptoCard

/-- THE SECOND FORM's CARD OF 'stelelaw25.LibraryModules'. -/
def libraryModulesUptoCard : Claim7 := { stood := { row := libraryModulesUptoRow, standIns := [], harness := (true, "a24edd81082014c7bde49ad6e56c8ca56c76965a1cf16536fa2399a4bdb8bdfc"), looks := true }, kinds := [], alts := [], laidByText := true, laidKinds := [.data, .data, .data, .data, .sentinel, .sentinel, .pinned], laidTests := true, laidLooks := .later }
def LibraryModulesUptoCardSaid : Prop := Claim7.holds Tryz.pinned (.plain (OpenSpec.upto libraryModulesSpec)) libraryModulesUptoCard

/-- THE SECOND FORM's CARD OF 'stelelaw25.LibraryReader'. -/
def libraryReaderUptoCard : Claim7 := { stood := { row := libraryReaderUptoRow, standIns := [], harness := (true, "a24edd81082014c7bde49ad6e56c8ca56c76965a1cf16536fa2399a4bdb8bdfc"), looks := true }, kinds := [], alts := [], laidByText := true, laidKinds := [.data, .data, .data, .data, .sentinel, .sentinel, .pinned], laidTests := true, laidLooks := .later }
def LibraryReaderUptoCardSaid : Prop := Claim7.holds Tryz.pinned (.plain (OpenSpec.upto libraryReaderSpec)) libraryReaderUptoCard
end Rows
end Go.Proofs.YtkihibnffkpnkaaGreatDoor
