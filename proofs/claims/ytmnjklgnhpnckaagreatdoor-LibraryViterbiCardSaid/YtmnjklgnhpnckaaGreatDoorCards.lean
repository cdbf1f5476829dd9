/-
  DERIVED. GIVEN WITH THE SEED: THE CARDS: each row of YtmnjklgnhpnckaaGreatDoorRows.lean that lists a variable, with what it lists TIED to the program's text (the seventh form; the later family's looks); each row that meets fmt, with fmt's text TOLD by the authors' own Lean function (tested against real Go, not proved from fmt's source: count such statements apart). THE CARD IS WHAT COUNTS. Prove the row's statement (the work); the ties are given (YtmnjklgnhpnckaaGreatDoorTie.lean); close each card by the builder's one call (the guide's Derived/Test/ToyasCard.lean, 'card_holds'). Laid BY PROGRAM, IN A SANDBOX (cutbox-door.mjs). By AI agents, Wed Nov 11 2026. No macro, syntax, notation, axiom, sorry.
-/
import Derived.Test.YtmnjklgnhpnckaaGreatDoorRows
import GoSem.ClaimSeven
namespace Go.Proofs.YtmnjklgnhpnckaaGreatDoor
namespace Rows

/-- THE TIED CARD OF 'stelelaw25.LibraryBlake'. -/
def libraryBlakeCard : Claim7 := { stood := { row := libraryBlakeRow, standIns := [], harness := (true, "225cff843be28437877931ab9e0d9def803cdcece527ec2464488e88bf8ed9d8"), looks := true }, kinds := [], alts := [], laidByText := true, laidKinds := [.data, .data, .data, .data, .sentinel, .sentinel, .pinned], laidTests := true, laidLooks := .later }
def LibraryBlakeCardSaid : Prop := Claim7.holds Tryz.pinned (.plain (OpenSpec.ofChange libraryBlakeSpec)) libraryBlakeCard

/-- THE TIED CARD OF 'stelelaw25.LibraryViterbi'. -/
def libraryViterbiCard : Claim7 := { stood := { row := libraryViterbiRow, standIns := [], harness := (true, "225cff843be28437877931ab9e0d9def803cdcece527ec2464488e88bf8ed9d8"), looks := true }, kinds := [], alts := [], laidByText := true, laidKinds := [.data, .data, .data, .data, .sentinel, .sentinel, .pinned], laidTests := true, laidLooks := .later }
def LibraryViterbiCardSaid : Prop := Claim7.holds Tryz.pinned (.plain (OpenSpec.ofChange libraryViterbiSpec)) libraryViterbiCard

/-- THE SECOND FORM's CARD OF 'stelelaw25.LibraryBlake'. -/
def libraryBlakeUptoCard : Claim7 := { stood := { row := libraryBlakeUptoRow, standIns := [], harness := (true, "225cff843be28437877931ab9e0d9def803cdcece527ec2464488e88bf8ed9d8"), looks := true }, kinds := [], alts := [], laidByText := true, laidKinds := [.data, .data, .data, .data, .sentinel, .sentinel, .pinned], laidTests := true, laidLooks := .later }
def LibraryBlakeUptoCardSaid : Prop := Claim7.holds Tryz.pinned (.plain (OpenSpec.upto libraryBlakeSpec)) libraryBlakeUptoCard

/-- THE SECOND FORM's CARD OF 'stelelaw25.LibraryViterbi'. -/
def libraryViterbiUptoCard : Claim7 := { stood := { row := libraryViterbiUptoRow, standIns := [], harness := (true, "225cff843be28437877931ab9e0d9def803cdcece527ec2464488e88bf8ed9d8"), looks := true }, kinds := [], alts := [], laidByText := true, laidKinds := [.data, .data, .data, .data, .sentinel, .sentinel, .pinned], laidTests := true, laidLooks := .later }
def LibraryViterbiUptoCardSaid : Prop := Claim7.holds Tryz.pinned (.plain (OpenSpec.upto libraryViterbiSpec)) libraryViterbiUptoCard
end Rows
end Go.Proofs.YtmnjklgnhpnckaaGreatDoor
