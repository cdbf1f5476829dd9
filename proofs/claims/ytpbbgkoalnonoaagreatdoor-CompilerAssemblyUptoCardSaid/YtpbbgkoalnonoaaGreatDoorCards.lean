/-
  DERIVED. GIVEN WITH THE SEED: THE CARDS: each row of YtpbbgkoalnonoaaGreatDoorRows.lean that lists a variable, with what it lists TIED to the program's text (the seventh form; the later family's looks); each row that meets fmt, with fmt's text TOLD by the authors' own Lean function (tested against real Go, not proved from fmt's source: count such statements apart). THE CARD IS WHAT COUNTS. Prove the row's statement (the work); the ties are given (YtpbbgkoalnonoaaGreatDoorTie.lean); close each card by the builder's one call (the guide's Derived/Test/ToyasCard.lean, 'card_holds'). Laid BY PROGRAM, IN A SANDBOX (cutbox-door.mjs). By AI agents, Wed Nov 11 2026. No macro, syntax, notation, axiom, sorry.
-/
import Derived.Test.YtpbbgkoalnonoaaGreatDoorRows
import GoSem.ClaimSeven
namespace Go.Proofs.YtpbbgkoalnonoaaGreatDoor
namespace Rows

/-- THE TIED CARD OF 'stelelaw23.CompilerAssembly'. -/
def compilerAssemblyCard : Claim7 := { stood := { row := compilerAssemblyRow, standIns := [], harness := (true, "9bdf6b745b23ef84ff7b0e53b4e7d552ffda991a1937c37c8389efa09b69d93e"), looks := true }, kinds := [], alts := [], laidByText := true, laidKinds := [.data, .data, .data, .data, .sentinel, .sentinel, .pinned], laidTests := true, laidLooks := .later }
def CompilerAssemblyCardSaid : Prop := Claim7.holds Tryz.pinned (.plain (OpenSpec.ofChange compilerAssemblySpec)) compilerAssemblyCard

/-- THE TIED CARD OF 'stelelaw23.CompilerBuild'. -/
def compilerBuildCard : Claim7 := { stood := { row := compilerBuildRow, standIns := [], harness := (true, "9bdf6b745b23ef84ff7b0e53b4e7d552ffda991a1937c37c8389efa09b69d93e"), looks := true }, kinds := [], alts := [], laidByText := true, laidKinds := [.data, .data, .data, .data, .sentinel, .sentinel, .pinned], laidTests := true, laidLooks := .later }
def CompilerBuildCardSaid : Prop := Claim7.holds Tryz.pinned (.plain (OpenSpec.ofChange compilerBuildSpec)) compilerBuildCard

/-- THE TIED CARD OF 'stelelaw23.CompilerFits'. -/
def compilerFitsCard : Claim7 := { stood := { row := compilerFitsRow, standIns := [], harness := (true, "9bdf6b745b23ef84ff7b0e53b4e7d552ffda991a1937c37c8389efa09b69d93e"), looks := true }, kinds := [], alts := [], laidByText := true, laidKinds := [.data, .data, .data, .data, .sentinel, .sentinel, .pinned], laidTests := true, laidLooks := .later }
def CompilerFitsCardSaid : Prop := Claim7.holds Tryz.pinned (.plain (OpenSpec.ofChange compilerFitsSpec)) compilerFitsCard

/-- THE TIED CARD OF 'stelelaw23.CompilerCorrect'. -/
def compilerCorrectCard : Claim7 := { stood := { row := compilerCorrectRow, standIns := [], harness := (true, "9bdf6b745b23ef84ff7b0e53b4e7d552ffda991a1937c37c8389efa09b69d93e"), looks := true }, kinds := [], alts := [], laidByText := true, laidKinds := [.data, .data, .data, .data, .sentinel, .sentinel, .pinned], laidTests := true, laidLooks := .later }
def CompilerCorrectCardSaid : Prop := Claim7.holds Tryz.pinned (.plain (OpenSpec.ofChange compilerCorrectSpec)) compilerCorrectCard

/-- THE TIED CARD OF 'stelelaw23.CompilerProgress'. -/
def compilerProgressCard : Claim7 := { stood := { row := compilerProgressRow, standIns := [], harness := (true, "9bdf6b745b23ef84ff7b0e53b4e7d552ffda991a1937c37c8389efa09b69d93e"), looks := true }, kinds := [], alts := [], laidByText := true, laidKinds := [.data, .data, .data, .data, .sentinel, .sentinel, .pinned], laidTests := true, laidLooks := .later }
def CompilerProgressCardSaid : Prop := Claim7.holds Tryz.pinned (.plain (OpenSpec.ofChange compilerProgressSpec)) compilerProgressCard

/-- THE TIED CARD OF 'stelelaw23.CompilerRelocates'. -/
def compilerRelocatesCard : Claim7 := { stood := { row := compilerRelocatesRow, standIns := [], harness := (true, "9bdf6b745b23ef84ff7b0e53b4e7d552ffda991a1937c37c8389efa09b69d93e"), looks := true }, kinds := [], alts := [], laidByText := true, laidKinds := [.data, .data, .data, .data, .sentinel, .sentinel, .pinned], laidTests := true, laidLooks := .later }
def CompilerRelocatesCardSaid : Prop := Claim7.holds Tryz.pinned (.plain (OpenSpec.ofChange compilerRelocatesSpec)) compilerRelocatesCard

/-- THE SECOND FORM's CARD OF 'stelelaw23.CompilerAssembly'. -/
def compilerAssemblyUptoCard : Claim7 := { stood := { row := compilerAssemblyUptoRow, standIns := [], harness := (true, "9bdf6b745b23ef84ff7b0e53b4e7d552ffda991a1937c37c8389efa09b69d93e"), looks := true }, kinds := [], alts := [], laidByText := true, laidKinds := [.data, .data, .data, .data, .sentinel, .sentinel, .pinned], laidTests := true, laidLooks := .later }
def CompilerAssemblyUptoCardSaid : Prop := Claim7.holds Tryz.pinned (.plain (OpenSpec.upto compilerAssemblySpec)) compilerAssemblyUptoCard

/-- THE SECOND FORM's CARD OF 'stelelaw23.CompilerBuild'. -/
def compilerBuildUptoCard : Claim7 := { stood := { row := compilerBuildUptoRow, standIns := [], harness := (true, "9bdf6b745b23ef84ff7b0e53b4e7d552ffda991a1937c37c8389efa09b69d93e"), looks := true }, kinds := [], alts := [], laidByText := true, laidKinds := [.data, .data, .data, .data, .sentinel, .sentinel, .pinned], laidTests := true, laidLooks := .later }
def CompilerBuildUptoCardSaid : Prop := Claim7.holds Tryz.pinned (.plain (OpenSpec.upto compilerBuildSpec)) compilerBuildUptoCard

/-- THE SECOND FORM's CARD OF 'stelelaw23.CompilerFits'. -/
def compilerFitsUptoCard : Claim7 := { stood := { row := compilerFitsUptoRow, standIns := [], harness := (true, "9bdf6b745b23ef84ff7b0e53b4e7d552ffda991a1937c37c8389efa09b69d93e"), looks := true }, kinds := [], alts := [], laidByText := true, laidKinds := [.data, .data, .data, .data, .sentinel, .sentinel, .pinned], laidTests := true, laidLooks := .later }
def CompilerFitsUptoCardSaid : Prop := Claim7.holds Tryz.pinned (.plain (OpenSpec.upto compilerFitsSpec)) compilerFitsUptoCard

/-- THE SECOND FORM's CARD OF 'stelelaw23.CompilerCorrect'. -/
def compilerCorrectUptoCard : Claim7 := { stood := { row := compilerCorrectUptoRow, standIns := [], harness := (true, "9bdf6b745b23ef84ff7b0e53b4e7d552ffda991a1937c37c8389efa09b69d93e"), looks := true }, kinds := [], alts := [], laidByText := true, laidKinds := [.data, .data, .data, .data, .sentinel, .sentinel, .pinned], laidTests := true, laidLooks := .later }
def CompilerCorrectUptoCardSaid : Prop := Claim7.holds Tryz.pinned (.plain (OpenSpec.upto compilerCorrectSpec)) compilerCorrectUptoCard

/-- THE SECOND FORM's CARD OF 'stelelaw23.CompilerProgress'. -/
def compilerProgressUptoCard : Claim7 := { stood := { row := compilerProgressUptoRow, standIns := [], harness := (true, "9bdf6b745b23ef84ff7b0e53b4e7d552ffda991a1937c37c8389efa09b69d93e"), looks := true }, kinds := [], alts := [], laidByText := true, laidKinds := [.data, .data, .data, .data, .sentinel, .sentinel, .pinned], laidTests := true, laidLooks := .later }
def CompilerProgressUptoCardSaid : Prop := Claim7.holds Tryz.pinned (.plain (OpenSpec.upto compilerProgressSpec)) compilerProgressUptoCard

/-- THE SECOND FORM's CARD OF 'stelelaw23.CompilerRelocates'. -/
def compilerRelocatesUptoCard : Claim7 := { stood := { row := compilerRelocatesUptoRow, standIns := [], harness := (true, "9bdf6b745b23ef84ff7b0e53b4e7d552ffda991a1937c37c8389efa09b69d93e"), looks := true }, kinds := [], alts := [], laidByText := true, laidKinds := [.data, .data, .data, .data, .sentinel, .sentinel, .pinned], laidTests := true, laidLooks := .later }
def CompilerRelocatesUptoCardSaid : Prop := Claim7.holds Tryz.pinned (.plain (OpenSpec.upto compilerRelocatesSpec)) compilerRelocatesUptoCard
end Rows
end Go.Proofs.YtpbbgkoalnonoaaGreatDoor
