/-
  DERIVED. GIVEN WITH THE SEED: THE CARDS: each row of YtcbpcianefpniaaGreatDoorRows.lean that lists a variable, with what it lists TIED to the program's text (the seventh form; the later family's looks); each row that meets fmt, with fmt's text TOLD by the authors' own Lean function (tested against real Go, not proved from fmt's source: count such statements apart). THE CARD IS WHAT COUNTS. Prove the row's statement (the work); the ties are given (YtcbpcianefpniaaGreatDoorTie.lean); close each card by the builder's one call (the guide's Derived/Test/ToyasCard.lean, 'card_holds'). Laid BY PROGRAM, IN A SANDBOX (cutbox-door.mjs). By AI agents, Wed Nov 11 2026. No macro, syntax, notation, axiom, sorry.
-/
import Derived.Test.YtcbpcianefpniaaGreatDoorRows
import GoSem.ClaimSeven
namespace Go.Proofs.YtcbpcianefpniaaGreatDoor
namespace Rows

/-- THE TIED CARD OF 'stelelaw22.InterpreterSource'. -/
def interpreterSourceCard : Claim7 := { stood := { row := interpreterSourceRow, standIns := [], harness := (true, "c543127df176b47553ef70d6caae094351aa2281b4fecfdc2c39eeffd1f03c38"), looks := true }, kinds := [], alts := [], laidByText := true, laidKinds := [.data, .data, .data, .sentinel, .sentinel], laidTests := true, laidLooks := .later }
def InterpreterSourceCardSaid : Prop := Claim7.holds Tryz.pinned (.plain (OpenSpec.ofChange interpreterSourceSpec)) interpreterSourceCard

/-- THE TIED CARD OF 'stelelaw22.InterpreterRun'. -/
def interpreterRunCard : Claim7 := { stood := { row := interpreterRunRow, standIns := [], harness := (true, "c543127df176b47553ef70d6caae094351aa2281b4fecfdc2c39eeffd1f03c38"), looks := true }, kinds := [], alts := [], laidByText := true, laidKinds := [.data, .data, .data, .sentinel, .sentinel], laidTests := true, laidLooks := .later }
def InterpreterRunCardSaid : Prop := Claim7.holds Tryz.pinned (.plain (OpenSpec.ofChange interpreterRunSpec)) interpreterRunCard

/-- THE TIED CARD OF 'stelelaw22.InterpreterLimit'. -/
def interpreterLimitCard : Claim7 := { stood := { row := interpreterLimitRow, standIns := [], harness := (true, "c543127df176b47553ef70d6caae094351aa2281b4fecfdc2c39eeffd1f03c38"), looks := true }, kinds := [], alts := [], laidByText := true, laidKinds := [.data, .data, .data, .sentinel, .sentinel], laidTests := true, laidLooks := .later }
def InterpreterLimitCardSaid : Prop := Claim7.holds Tryz.pinned (.plain (OpenSpec.ofChange interpreterLimitSpec)) interpreterLimitCard

/-- THE TIED CARD OF 'stelelaw22.InterpreterLoop'. -/
def interpreterLoopCard : Claim7 := { stood := { row := interpreterLoopRow, standIns := [], harness := (true, "c543127df176b47553ef70d6caae094351aa2281b4fecfdc2c39eeffd1f03c38"), looks := true }, kinds := [], alts := [], laidByText := true, laidKinds := [.data, .data, .data, .sentinel, .sentinel], laidTests := true, laidLooks := .later }
def InterpreterLoopCardSaid : Prop := Claim7.holds Tryz.pinned (.plain (OpenSpec.ofChange interpreterLoopSpec)) interpreterLoopCard

/-- THE TIED CARD OF 'stelelaw22.InterpreterArithmetic'. -/
def interpreterArithmeticCard : Claim7 := { stood := { row := interpreterArithmeticRow, standIns := [], harness := (true, "c543127df176b47553ef70d6caae094351aa2281b4fecfdc2c39eeffd1f03c38"), looks := true }, kinds := [], alts := [], laidByText := true, laidKinds := [.data, .data, .data, .sentinel, .sentinel], laidTests := true, laidLooks := .later }
def InterpreterArithmeticCardSaid : Prop := Claim7.holds Tryz.pinned (.plain (OpenSpec.ofChange interpreterArithmeticSpec)) interpreterArithmeticCard

/-- THE TIED CARD OF 'stelelaw22.InterpreterStatic'. -/
def interpreterStaticCard : Claim7 := { stood := { row := interpreterStaticRow, standIns := [], harness := (true, "c543127df176b47553ef70d6caae094351aa2281b4fecfdc2c39eeffd1f03c38"), looks := true }, kinds := [], alts := [], laidByText := true, laidKinds := [.data, .data, .data, .sentinel, .sentinel], laidTests := true, laidLooks := .later }
def InterpreterStaticCardSaid : Prop := Claim7.holds Tryz.pinned (.plain (OpenSpec.ofChange interpreterStaticSpec)) interpreterStaticCard

/-- THE TIED CARD OF 'stelelaw22.InterpreterUnused'. -/
def interpreterUnusedCard : Claim7 := { stood := { row := interpreterUnusedRow, standIns := [], harness := (true, "c543127df176b47553ef70d6caae094351aa2281b4fecfdc2c39eeffd1f03c38"), looks := true }, kinds := [], alts := [], laidByText := true, laidKinds := [.data, .data, .data, .sentinel, .sentinel], laidTests := true, laidLooks := .later }
def InterpreterUnusedCardSaid : Prop := Claim7.holds Tryz.pinned (.plain (OpenSpec.ofChange interpreterUnusedSpec)) interpreterUnusedCard

/-- THE TIED CARD OF 'stelelaw22.InterpreterInput'. -/
def interpreterInputCard : Claim7 := { stood := { row := interpreterInputRow, standIns := [], harness := (true, "c543127df176b47553ef70d6caae094351aa2281b4fecfdc2c39eeffd1f03c38"), looks := true }, kinds := [], alts := [], laidByText := true, laidKinds := [.data, .data, .data, .data, .sentinel, .sentinel, .pinned], laidTests := true, laidLooks := .later }
def InterpreterInputCardSaid : Prop := Claim7.holds Tryz.pinned (.plain (OpenSpec.ofChange interpreterInputSpec)) interpreterInputCard

/-- THE SECOND FORM's CARD OF 'stelelaw22.InterpreterSource'. -/
def interpreterSourceUptoCard : Claim7 := { stood := { row := interpreterSourceUptoRow, standIns := [], harness := (true, "c543127df176b47553ef70d6caae094351aa2281b4fecfdc2c39eeffd1f03c38"), looks := true }, kinds := [], alts := [], laidByText := true, laidKinds := [.data, .data, .data, .sentinel, .sentinel], laidTests := true, laidLooks := .later }
def InterpreterSourceUptoCardSaid : Prop := Claim7.holds Tryz.pinned (.plain (OpenSpec.upto interpreterSourceSpec)) interpreterSourceUptoCard

/-- THE SECOND FORM's CARD OF 'stelelaw22.InterpreterRun'. -/
def interpreterRunUptoCard : Claim7 := { stood := { row := interpreterRunUptoRow, standIns := [], harness := (true, "c543127df176b47553ef70d6caae094351aa2281b4fecfdc2c39eeffd1f03c38"), looks := true }, kinds := [], alts := [], laidByText := true, laidKinds := [.data, .data, .data, .sentinel, .sentinel], laidTests := true, laidLooks := .later }
def InterpreterRunUptoCardSaid : Prop := Claim7.holds Tryz.pinned (.plain (OpenSpec.upto interpreterRunSpec)) interpreterRunUptoCard

/-- THE SECOND FORM's CARD OF 'stelelaw22.InterpreterLimit'. -/
def interpreterLimitUptoCard : Claim7 := { stood := { row := interpreterLimitUptoRow, standIns := [], harness := (true, "c543127df176b47553ef70d6caae094351aa2281b4fecfdc2c39eeffd1f03c38"), looks := true }, kinds := [], alts := [], laidByText := true, laidKinds := [.data, .data, .data, .sentinel, .sentinel], laidTests := true, laidLooks := .later }
def InterpreterLimitUptoCardSaid : Prop := Claim7.holds Tryz.pinned (.plain (OpenSpec.upto interpreterLimitSpec)) interpreterLimitUptoCard

/-- THE SECOND FORM's CARD OF 'stelelaw22.InterpreterLoop'. -/
def interpreterLoopUptoCard : Claim7 := { stood := { row := interpreterLoopUptoRow, standIns := [], harness := (true, "c543127df176b47553ef70d6caae094351aa2281b4fecfdc2c39eeffd1f03c38"), looks := true }, kinds := [], alts := [], laidByText := true, laidKinds := [.data, .data, .data, .sentinel, .sentinel], laidTests := true, laidLooks := .later }
def InterpreterLoopUptoCardSaid : Prop := Claim7.holds Tryz.pinned (.plain (OpenSpec.upto interpreterLoopSpec)) interpreterLoopUptoCard

/-- THE SECOND FORM's CARD OF 'stelelaw22.InterpreterArithmetic'. -/
def interpreterArithmeticUptoCard : Claim7 := { stood := { row := interpreterArithmeticUptoRow, standIns := [], harness := (true, "c543127df176b47553ef70d6caae094351aa2281b4fecfdc2c39eeffd1f03c38"), looks := true }, kinds := [], alts := [], laidByText := true, laidKinds := [.data, .data, .data, .sentinel, .sentinel], laidTests := true, laidLooks := .later }
def InterpreterArithmeticUptoCardSaid : Prop := Claim7.holds Tryz.pinned (.plain (OpenSpec.upto interpreterArithmeticSpec)) interpreterArithmeticUptoCard

/-- THE SECOND FORM's CARD OF 'stelelaw22.InterpreterStatic'. -/
def interpreterStaticUptoCard : Claim7 := { stood := { row := interpreterStaticUptoRow, standIns := [], harness := (true, "c543127df176b47553ef70d6caae094351aa2281b4fecfdc2c39eeffd1f03c38"), looks := true }, kinds := [], alts := [], laidByText := true, laidKinds := [.data, .data, .data, .sentinel, .sentinel], laidTests := true, laidLooks := .later }
def InterpreterStaticUptoCardSaid : Prop := Claim7.holds Tryz.pinned (.plain (OpenSpec.upto interpreterStaticSpec)) interpreterStaticUptoCard

/-- THE SECOND FORM's CARD OF 'stelelaw22.InterpreterUnused'. -/
def interpreterUnusedUptoCard : Claim7 := { stood := { row := interpreterUnusedUptoRow, standIns := [], harness := (true, "c543127df176b47553ef70d6caae094351aa2281b4fecfdc2c39eeffd1f03c38"), looks := true }, kinds := [], alts := [], laidByText := true, laidKinds := [.data, .data, .data, .sentinel, .sentinel], laidTests := true, laidLooks := .later }
def InterpreterUnusedUptoCardSaid : Prop := Claim7.holds Tryz.pinned (.plain (OpenSpec.upto interpreterUnusedSpec)) interpreterUnusedUptoCard

/-- THE SECOND FORM's CARD OF 'stelelaw22.InterpreterInput'. -/
def interpreterInputUptoCard : Claim7 := { stood := { row := interpreterInputUptoRow, standIns := [], harness := (true, "c543127df176b47553ef70d6caae094351aa2281b4fecfdc2c39eeffd1f03c38"), looks := true }, kinds := [], alts := [], laidByText := true, laidKinds := [.data, .data, .data, .data, .sentinel, .sentinel, .pinned], laidTests := true, laidLooks := .later }
def InterpreterInputUptoCardSaid : Prop := Claim7.holds Tryz.pinned (.plain (OpenSpec.upto interpreterInputSpec)) interpreterInputUptoCard
end Rows
end Go.Proofs.YtcbpcianefpniaaGreatDoor
