/-
  DERIVED. GIVEN WITH THE SEED: THE CARDS: each row of YtpokklffoihafaaGreatDoorRows.lean that lists a variable, with what it lists TIED to the program's text (the seventh form; the later family's looks); each row that meets fmt, with fmt's text TOLD by the authors' own Lean function (tested against real Go, not proved from fmt's source: count such statements apart). THE CARD IS WHAT COUNTS. Prove the row's statement (the work); the ties are given (YtpokklffoihafaaGreatDoorTie.lean); close each card by the builder's one call (the guide's Derived/Test/ToyasCard.lean, 'card_holds'). Laid BY PROGRAM, IN A SANDBOX (cutbox-door.mjs). By AI agents, Wed Nov 11 2026. No macro, syntax, notation, axiom, sorry.
-/
import Derived.Test.YtpokklffoihafaaGreatDoorRows
import GoSem.ClaimSeven
namespace Go.Proofs.YtpokklffoihafaaGreatDoor
namespace Rows

/-- THE TIED CARD OF 'stelelaw23.CompilerAssembly'. -/
def compilerAssemblyCard : Claim7 := { stood := { row := compilerAssemblyRow, standIns := [], harness := (true, "8ed33a52fdb399cbb1e59a9aa4d6beb946421ec9432cda6b42a2518917113d8e"), looks := true }, kinds := [], alts := [], laidByText := true, laidKinds := [.data, .data, .data, .data, .sentinel, .sentinel, .pinned], laidTests := true, laidLooks := .later }
def CompilerAssemblyCardSaid : Prop := Claim7.holds Tryz.pinned (.plain (OpenSpec.ofChange compilerAssemblySpec)) compilerAssemblyCard

/-- THE TIED CARD OF 'stelelaw23.CompilerBuild'. -/
def compilerBuildCard : Claim7 := { stood := { row := compilerBuildRow, standIns := [], harness := (true, "8ed33a52fdb399cbb1e59a9aa4d6beb946421ec9432cda6b42a2518917113d8e"), looks := true }, kinds := [], alts := [], laidByText := true, laidKinds := [.data, .data, .data, .data, .sentinel, .sentinel, .pinned], laidTests := true, laidLooks := .later }
def CompilerBuildCardSaid : Prop := Claim7.holds Tryz.pinned (.plain (OpenSpec.ofChange compilerBuildSpec)) compilerBuildCard

/-- THE TIED CARD OF 'stelelaw23.CompilerFits'. -/
def compilerFitsCard : Claim7 := { stood := { row := compilerFitsRow, standIns := [], harness := (true, "8ed33a52fdb399cbb1e59a9aa4d6beb946421ec9432cda6b42a2518917113d8e"), looks := true }, kinds := [], alts := [], laidByText := true, laidKinds := [.data, .data, .data, .data, .sentinel, .sentinel, .pinned], laidTests := true, laidLooks := .later }
def CompilerFitsCardSaid : Prop := Claim7.holds Tryz.pinned (.plain (OpenSpec.ofChange compilerFitsSpec)) compilerFitsCard

/-- THE TIED CARD OF 'stelelaw23.CompilerForm'. -/
def compilerFormCard : Claim7 := { stood := { row := compilerFormRow, standIns := [], harness := (true, "8ed33a52fdb399cbb1e59a9aa4d6beb946421ec9432cda6b42a2518917113d8e"), looks := true }, kinds := [], alts := [], laidByText := true, laidKinds := [.data, .data, .data, .data, .sentinel, .sentinel, .pinned], laidTests := true, laidLooks := .later }
def CompilerFormCardSaid : Prop := Claim7.holds Tryz.pinned (.plain (OpenSpec.ofChange compilerFormSpec)) compilerFormCard

/-- THE TIED CARD OF 'stelelaw23.CompilerStages'. -/
def compilerStagesCard : Claim7 := { stood := { row := compilerStagesRow, standIns := [], harness := (true, "8ed33a52fdb399cbb1e59a9aa4d6beb946421ec9432cda6b42a2518917113d8e"), looks := true }, kinds := [], alts := [], laidByText := true, laidKinds := [.data, .data, .data, .data, .sentinel, .sentinel, .pinned], laidTests := true, laidLooks := .later }
def CompilerStagesCardSaid : Prop := Claim7.holds Tryz.pinned (.plain (OpenSpec.ofChange compilerStagesSpec)) compilerStagesCard

/-- THE TIED CARD OF 'stelelaw23.CompilerCorrect'. -/
def compilerCorrectCard : Claim7 := { stood := { row := compilerCorrectRow, standIns := [], harness := (true, "8ed33a52fdb399cbb1e59a9aa4d6beb946421ec9432cda6b42a2518917113d8e"), looks := true }, kinds := [], alts := [], laidByText := true, laidKinds := [.data, .data, .data, .data, .sentinel, .sentinel, .pinned], laidTests := true, laidLooks := .later }
def CompilerCorrectCardSaid : Prop := Claim7.holds Tryz.pinned (.plain (OpenSpec.ofChange compilerCorrectSpec)) compilerCorrectCard

/-- THE TIED CARD OF 'stelelaw23.CompilerProgress'. -/
def compilerProgressCard : Claim7 := { stood := { row := compilerProgressRow, standIns := [], harness := (true, "8ed33a52fdb399cbb1e59a9aa4d6beb946421ec9432cda6b42a2518917113d8e"), looks := true }, kinds := [], alts := [], laidByText := true, laidKinds := [.data, .data, .data, .data, .sentinel, .sentinel, .pinned], laidTests := true, laidLooks := .later }
def CompilerProgressCardSaid : Prop := Claim7.holds Tryz.pinned (.plain (OpenSpec.ofChange compilerProgressSpec)) compilerProgressCard

/-- THE TIED CARD OF 'stelelaw23.CompilerRelocates'. -/
def compilerRelocatesCard : Claim7 := { stood := { row := compilerRelocatesRow, standIns := [], harness := (true, "8ed33a52fdb399cbb1e59a9aa4d6beb946421ec9432cda6b42a2518917113d8e"), looks := true }, kinds := [], alts := [], laidByText := true, laidKinds := [.data, .data, .data, .data, .sentinel, .sentinel, .pinned], laidTests := true, laidLooks := .later }
def CompilerRelocatesCardSaid : Prop := Claim7.holds Tryz.pinned (.plain (OpenSpec.ofChange compilerRelocatesSpec)) compilerRelocatesCard

/-- THE TIED CARD OF 'steletop.TopSourcePrograms'. -/
def topSourceProgramsCard : Claim7 := { stood := { row := topSourceProgramsRow, standIns := [], harness := (true, "8ed33a52fdb399cbb1e59a9aa4d6beb946421ec9432cda6b42a2518917113d8e"), looks := true }, kinds := [], alts := [], laidByText := true, laidKinds := [.data, .data, .data, .data, .sentinel, .sentinel, .pinned], laidTests := true, laidLooks := .later }
def TopSourceProgramsCardSaid : Prop := Claim7.holds Tryz.pinned (.plain (OpenSpec.ofChange topSourceProgramsSpec)) topSourceProgramsCard

/-- THE SECOND FORM's CARD OF 'stelelaw23.CompilerAssembly'. -/
def compilerAssemblyUptoCard : Claim7 := { stood := { row := compilerAssemblyUptoRow, standIns := [], harness := (true, "8ed33a52fdb399cbb1e59a9aa4d6beb946421ec9432cda6b42a2518917113d8e"), looks := true }, kinds := [], alts := [], laidByText := true, laidKinds := [.data, .data, .data, .data, .sentinel, .sentinel, .pinned], laidTests := true, laidLooks := .later }
def CompilerAssemblyUptoCardSaid : Prop := Claim7.holds Tryz.pinned (.plain (OpenSpec.upto compilerAssemblySpec)) compilerAssemblyUptoCard

/-- THE SECOND FORM's CARD OF 'stelelaw23.CompilerBuild'. -/
def compilerBuildUptoCard : Claim7 := { stood := { row := compilerBuildUptoRow, standIns := [], harness := (true, "8ed33a52fdb399cbb1e59a9aa4d6beb946421ec9432cda6b42a2518917113d8e"), looks := true }, kinds := [], alts := [], laidByText := true, laidKinds := [.data, .data, .data, .data, .sentinel, .sentinel, .pinned], laidTests := true, laidLooks := .later }
def CompilerBuildUptoCardSaid : Prop := Claim7.holds Tryz.pinned (.plain (OpenSpec.upto compilerBuildSpec)) compilerBuildUptoCard

/-- THE SECOND FORM's CARD OF 'stelelaw23.CompilerFits'. -/
def compilerFitsUptoCard : Claim7 := { stood := { row := compilerFitsUptoRow, standIns := [], harness := (true, "8ed33a52fdb399cbb1e59a9aa4d6beb946421ec9432cda6b42a2518917113d8e"), looks := true }, kinds := [], alts := [], laidByText := true, laidKinds := [.data, .data, .data, .data, .sentinel, .sentinel, .pinned], laidTests := true, laidLooks := .later }
def CompilerFitsUptoCardSaid : Prop := Claim7.holds Tryz.pinned (.plain (OpenSpec.upto compilerFitsSpec)) compilerFitsUptoCard

/-- THE SECOND FORM's CARD OF 'stelelaw23.CompilerForm'. -/
def compilerFormUptoCard : Claim7 := { stood := { row := compilerFormUptoRow, standIns := [], harness := (true, "8ed33a52fdb399cbb1e59a9aa4d6beb946421ec9432cda6b42a2518917113d8e"), looks := true }, kinds := [], alts := [], laidByText := true, laidKinds := [.data, .data, .data, .data, .sentinel, .sentinel, .pinned], laidTests := true, laidLooks := .later }
def CompilerFormUptoCardSaid : Prop := Claim7.holds Tryz.pinned (.plain (OpenSpec.upto compilerFormSpec)) compilerFormUptoCard

/-- THE SECOND FORM's CARD OF 'stelelaw23.CompilerStages'. -/
def compilerStagesUptoCard : Claim7 := { stood := { row := compilerStagesUptoRow, standIns := [], harness := (true, "8ed33a52fdb399cbb1e59a9aa4d6beb946421ec9432cda6b42a2518917113d8e"), looks := true }, kinds := [], alts := [], laidByText := true, laidKinds := [.data, .data, .data, .data, .sentinel, .sentinel, .pinned], laidTests := true, laidLooks := .later }
def CompilerStagesUptoCardSaid : Prop := Claim7.holds Tryz.pinned (.plain (OpenSpec.upto compilerStagesSpec)) compilerStagesUptoCard

/-- THE SECOND FORM's CARD OF 'stelelaw23.CompilerCorrect'. -/
def compilerCorrectUptoCard : Claim7 := { stood := { row := compilerCorrectUptoRow, standIns := [], harness := (true, "8ed33a52fdb399cbb1e59a9aa4d6beb946421ec9432cda6b42a2518917113d8e"), looks := true }, kinds := [], alts := [], laidByText := true, laidKinds := [.data, .data, .data, .data, .sentinel, .sentinel, .pinned], laidTests := true, laidLooks := .later }
def CompilerCorrectUptoCardSaid : Prop := Claim7.holds Tryz.pinned (.plain (OpenSpec.upto compilerCorrectSpec)) compilerCorrectUptoCard

/-- THE SECOND FORM's CARD OF 'stelelaw23.CompilerProgress'. -/
def compilerProgressUptoCard : Claim7 := { stood := { row := compilerProgressUptoRow, standIns := [], harness := (true, "8ed33a52fdb399cbb1e59a9aa4d6beb946421ec9432cda6b42a2518917113d8e"), looks := true }, kinds := [], alts := [], laidByText := true, laidKinds := [.data, .data, .data, .data, .sentinel, .sentinel, .pinned], laidTests := true, laidLooks := .later }
def CompilerProgressUptoCardSaid : Prop := Claim7.holds Tryz.pinned (.plain (OpenSpec.upto compilerProgressSpec)) compilerProgressUptoCard

/-- THE SECOND FORM's CARD OF 'stelelaw23.CompilerRelocates'. -/
def compilerRelocatesUptoCard : Claim7 := { stood := { row := compilerRelocatesUptoRow, standIns := [], harness := (true, "8ed33a52fdb399cbb1e59a9aa4d6beb946421ec9432cda6b42a2518917113d8e"), looks := true }, kinds := [], alts := [], laidByText := true, laidKinds := [.data, .data, .data, .data, .sentinel, .sentinel, .pinned], laidTests := true, laidLooks := .later }
def CompilerRelocatesUptoCardSaid : Prop := Claim7.holds Tryz.pinned (.plain (OpenSpec.upto compilerRelocatesSpec)) compilerRelocatesUptoCard

/-- THE SECOND FORM's CARD OF 'steletop.TopSourcePrograms'. -/
def topSourceProgramsUptoCard : Claim7 := { stood := { row := topSourceProgramsUptoRow, standIns := [], harness := (true, "8ed33a52fdb399cbb1e59a9aa4d6beb946421ec9432cda6b42a2518917113d8e"), looks := true }, kinds := [], alts := [], laidByText := true, laidKinds := [.data, .data, .data, .data, .sentinel, .sentinel, .pinned], laidTests := true, laidLooks := .later }
def TopSourceProgramsUptoCardSaid : Prop := Claim7.holds Tryz.pinned (.plain (OpenSpec.upto topSourceProgramsSpec)) topSourceProgramsUptoCard
end Rows
end Go.Proofs.YtpokklffoihafaaGreatDoor
