/-
  DERIVED. GIVEN WITH THE SEED: THE CARDS: each row of YtfodkbchknknjaaDoorRows.lean that lists a variable, with what it lists TIED to the program's text (the seventh form; the later family's looks); each row that meets fmt, with fmt's text TOLD by the authors' own Lean function (tested against real Go, not proved from fmt's source: count such statements apart). THE CARD IS WHAT COUNTS. Prove the row's statement (the work); the ties are given (YtfodkbchknknjaaDoorTie.lean); close each card by the builder's one call (the guide's Derived/Test/ToyasCard.lean, 'card_holds'). Laid BY PROGRAM, IN A SANDBOX (cutbox-door.mjs). By AI agents, Wed Nov 11 2026. No macro, syntax, notation, axiom, sorry.
-/
import Derived.Test.YtfodkbchknknjaaDoorRows
import GoSem.ClaimSeven
namespace Go.Proofs.YtfodkbchknknjaaDoor
namespace Rows

/-- THE TIED CARD OF 'stelelaw20.ParserDepth'. -/
def parserDepthCard : Claim7 := { stood := { row := parserDepthRow, standIns := [], harness := (true, "dde7607054205d756ed32abe34462da5e55d0db942f81747970dfd22d987470e"), looks := true }, kinds := [], alts := [], laidByText := true, laidKinds := [.data, .data, .data, .sentinel, .sentinel], laidTests := true, laidLooks := .later }
def ParserDepthCardSaid : Prop := Claim7.holds Tryd.pinned (.plain (OpenSpec.ofChange parserDepthSpec)) parserDepthCard

/-- THE SECOND FORM's CARD OF 'stelelaw20.ParserDepth'. -/
def parserDepthUptoCard : Claim7 := { stood := { row := parserDepthUptoRow, standIns := [], harness := (true, "dde7607054205d756ed32abe34462da5e55d0db942f81747970dfd22d987470e"), looks := true }, kinds := [], alts := [], laidByText := true, laidKinds := [.data, .data, .data, .sentinel, .sentinel], laidTests := true, laidLooks := .later }
def ParserDepthUptoCardSaid : Prop := Claim7.holds Tryd.pinned (.plain (OpenSpec.upto parserDepthSpec)) parserDepthUptoCard
end Rows
end Go.Proofs.YtfodkbchknknjaaDoor
