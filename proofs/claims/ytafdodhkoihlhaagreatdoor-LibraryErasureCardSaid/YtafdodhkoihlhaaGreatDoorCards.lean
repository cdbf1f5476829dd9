/-
  DERIVED. GIVEN WITH THE SEED: THE CARDS: each row of YtafdodhkoihlhaaGreatDoorRows.lean that lists a variable, with what it lists TIED to the program's text (the seventh form; the later family's looks); each row that meets fmt, with fmt's text TOLD by the authors' own Lean function (tested against real Go, not proved from fmt's source: count such statements apart). THE CARD IS WHAT COUNTS. Prove the row's statement (the work); the ties are given (YtafdodhkoihlhaaGreatDoorTie.lean); close each card by the builder's one call (the guide's Derived/Test/ToyasCard.lean, 'card_holds'). Laid BY PROGRAM, IN A SANDBOX (cutbox-door.mjs). By AI agents, Wed Nov 11 2026. No macro, syntax, notation, axiom, sorry.
-/
import Derived.Test.YtafdodhkoihlhaaGreatDoorRows
import GoSem.ClaimSeven
namespace Go.Proofs.YtafdodhkoihlhaaGreatDoor
namespace Rows

/-- THE TIED CARD OF 'stelelaw25.LibraryErasure'. -/
def libraryErasureCard : Claim7 := { stood := { row := libraryErasureRow, standIns := [], harness := (true, "7d5dd516f52d6dfd665e977a486160ef1b7e706aa6703a604277b4012259c42c"), looks := true }, kinds := [], alts := [], laidByText := true, laidKinds := [.data, .data, .data, .data, .sentinel, .sentinel, .pinned], laidTests := true, laidLooks := .later }
def LibraryErasureCardSaid : Prop := Claim7.holds Tryz.pinned (.plain (OpenSpec.ofChange libraryErasureSpec)) libraryErasureCard

/-- THE TIED CARD OF 'stelelaw25.LibraryReedSolomon'. -/
def libraryReedSolomonCard : Claim7 := { stood := { row := libraryReedSolomonRow, standIns := [], harness := (true, "7d5dd516f52d6dfd665e977a486160ef1b7e706aa6703a604277b4012259c42c"), looks := true }, kinds := [], alts := [], laidByText := true, laidKinds := [.data, .data, .data, .data, .sentinel, .sentinel, .pinned], laidTests := true, laidLooks := .later }
def LibraryReedSolomonCardSaid : Prop := Claim7.holds Tryz.pinned (.plain (OpenSpec.ofChange libraryReedSolomonSpec)) libraryReedSolomonCard

/-- THE SECOND FORM's CARD OF 'stelelaw25.LibraryErasure'. -/
def libraryErasureUptoCard : Claim7 := { stood := { row := libraryErasureUptoRow, standIns := [], harness := (true, "7d5dd516f52d6dfd665e977a486160ef1b7e706aa6703a604277b4012259c42c"), looks := true }, kinds := [], alts := [], laidByText := true, laidKinds := [.data, .data, .data, .data, .sentinel, .sentinel, .pinned], laidTests := true, laidLooks := .later }
def LibraryErasureUptoCardSaid : Prop := Claim7.holds Tryz.pinned (.plain (OpenSpec.upto libraryErasureSpec)) libraryErasureUptoCard

/-- THE SECOND FORM's CARD OF 'stelelaw25.LibraryReedSolomon'. -/
def libraryReedSolomonUptoCard : Claim7 := { stood := { row := libraryReedSolomonUptoRow, standIns := [], harness := (true, "7d5dd516f52d6dfd665e977a486160ef1b7e706aa6703a604277b4012259c42c"), looks := true }, kinds := [], alts := [], laidByText := true, laidKinds := [.data, .data, .data, .data, .sentinel, .sentinel, .pinned], laidTests := true, laidLooks := .later }
def LibraryReedSolomonUptoCardSaid : Prop := Claim7.holds Tryz.pinned (.plain (OpenSpec.upto libraryReedSolomonSpec)) libraryReedSolomonUptoCard
end Rows
end Go.Proofs.YtafdodhkoihlhaaGreatDoor
