/-
  DERIVED. GIVEN WITH THE SEED: THE CARDS: each row of YtlipmagkplbkdaaDoorRows.lean that lists a variable, with what it lists TIED to the program's text (the seventh form; the later family's looks); each row that meets fmt, with fmt's text TOLD by the authors' own Lean function (tested against real Go, not proved from fmt's source: count such statements apart). THE CARD IS WHAT COUNTS. Prove the row's statement (the work); the ties are given (YtlipmagkplbkdaaDoorTie.lean); close each card by the builder's one call (the guide's Derived/Test/ToyasCard.lean, 'card_holds'). Laid BY PROGRAM, IN A SANDBOX (cutbox-door.mjs). By AI agents, Wed Nov 11 2026. No macro, syntax, notation, axiom, sorry.
-/
import Derived.Test.YtlipmagkplbkdaaDoorRows
import GoSem.ClaimSeven
namespace Go.Proofs.YtlipmagkplbkdaaDoor
namespace Rows

/-- THE TIED CARD OF 'gambrellaw09.ChanceRuns'. -/
def chanceRunsCard : Claim7 := { stood := { row := chanceRunsRow, standIns := [], harness := (true, "abaac83fc4868ea9254126a3a3daea99ccfe170d65e3ef038ba687f7c421ab0b"), looks := false }, kinds := [], alts := [], goes := true, laidByText := true, laidKinds := [.data, .data, .data], laidTests := true, laidLooks := .later }
def ChanceRunsCardSaid : Prop := Claim7.holds Tryd.pinned (.plain (OpenSpec.ofChange chanceRunsSpec)) chanceRunsCard

/-- THE TIED CARD OF 'gambrellaw09.ChanceCells'. -/
def chanceCellsCard : Claim7 := { stood := { row := chanceCellsRow, standIns := [], harness := (true, "abaac83fc4868ea9254126a3a3daea99ccfe170d65e3ef038ba687f7c421ab0b"), looks := false }, kinds := [], alts := [], laidByText := true, laidKinds := [.data, .data, .data, .data, .pinned], laidTests := true, laidLooks := .later }
def ChanceCellsCardSaid : Prop := Claim7.holds Tryd.pinned (.plain (OpenSpec.ofChange chanceCellsSpec)) chanceCellsCard

/-- THE TIED CARD OF 'gambrellaw09.ChanceSteps'. -/
def chanceStepsCard : Claim7 := { stood := { row := chanceStepsRow, standIns := [], harness := (true, "abaac83fc4868ea9254126a3a3daea99ccfe170d65e3ef038ba687f7c421ab0b"), looks := false }, kinds := [], alts := [], goes := true, laidByText := true, laidKinds := [.data, .data, .data, .data, .pinned], laidTests := true, laidLooks := .later }
def ChanceStepsCardSaid : Prop := Claim7.holds Tryd.pinned (.plain (OpenSpec.ofChange chanceStepsSpec)) chanceStepsCard

/-- THE TIED CARD OF 'gambrellaw09.ChanceFits'. -/
def chanceFitsCard : Claim7 := { stood := { row := chanceFitsRow, standIns := [], harness := (true, "abaac83fc4868ea9254126a3a3daea99ccfe170d65e3ef038ba687f7c421ab0b"), looks := false }, kinds := [], alts := [], goes := true, laidByText := true, laidKinds := [.data, .data, .data, .data, .pinned], laidTests := true, laidLooks := .later }
def ChanceFitsCardSaid : Prop := Claim7.holds Tryd.pinned (.plain (OpenSpec.ofChange chanceFitsSpec)) chanceFitsCard

/-- THE TIED CARD OF 'gambrellaw09.ChanceNames'. -/
def chanceNamesCard : Claim7 := { stood := { row := chanceNamesRow, standIns := [], harness := (true, "abaac83fc4868ea9254126a3a3daea99ccfe170d65e3ef038ba687f7c421ab0b"), looks := false }, kinds := [], alts := [], goes := true, laidByText := true, laidKinds := [.data, .data, .data, .data, .pinned], laidTests := true, laidLooks := .later }
def ChanceNamesCardSaid : Prop := Claim7.holds Tryd.pinned (.plain (OpenSpec.ofChange chanceNamesSpec)) chanceNamesCard

/-- THE TIED CARD OF 'gambrellaw09.ChanceParts'. -/
def chancePartsCard : Claim7 := { stood := { row := chancePartsRow, standIns := [], harness := (true, "abaac83fc4868ea9254126a3a3daea99ccfe170d65e3ef038ba687f7c421ab0b"), looks := false }, kinds := [], alts := [], goes := true, laidByText := true, laidKinds := [.data, .data, .data, .data, .pinned], laidTests := true, laidLooks := .later }
def ChancePartsCardSaid : Prop := Claim7.holds Tryd.pinned (.plain (OpenSpec.ofChange chancePartsSpec)) chancePartsCard

/-- THE TIED CARD OF 'gambrellaw09.ChancePaths'. -/
def chancePathsCard : Claim7 := { stood := { row := chancePathsRow, standIns := [], harness := (true, "abaac83fc4868ea9254126a3a3daea99ccfe170d65e3ef038ba687f7c421ab0b"), looks := false }, kinds := [], alts := [], goes := true, laidByText := true, laidKinds := [.data, .data, .data, .data, .pinned], laidTests := true, laidLooks := .later }
def ChancePathsCardSaid : Prop := Claim7.holds Tryd.pinned (.plain (OpenSpec.ofChange chancePathsSpec)) chancePathsCard

/-- THE TIED CARD OF 'gambrellaw09.ChanceAlone'. -/
def chanceAloneCard : Claim7 := { stood := { row := chanceAloneRow, standIns := [], harness := (true, "abaac83fc4868ea9254126a3a3daea99ccfe170d65e3ef038ba687f7c421ab0b"), looks := false }, kinds := [], alts := [], goes := true, laidByText := true, laidKinds := [.data, .data, .data, .data, .pinned], laidTests := true, laidLooks := .later }
def ChanceAloneCardSaid : Prop := Claim7.holds Tryd.pinned (.plain (OpenSpec.ofChange chanceAloneSpec)) chanceAloneCard

/-- THE SECOND FORM's CARD OF 'gambrellaw09.ChanceRuns'. -/
def chanceRunsUptoCard : Claim7 := { stood := { row := chanceRunsUptoRow, standIns := [], harness := (true, "abaac83fc4868ea9254126a3a3daea99ccfe170d65e3ef038ba687f7c421ab0b"), looks := false }, kinds := [], alts := [], goes := true, laidByText := true, laidKinds := [.data, .data, .data], laidTests := true, laidLooks := .later }
def ChanceRunsUptoCardSaid : Prop := Claim7.holds Tryd.pinned (.plain (OpenSpec.upto chanceRunsSpec)) chanceRunsUptoCard

/-- THE SECOND FORM's CARD OF 'gambrellaw09.ChanceCells'. -/
def chanceCellsUptoCard : Claim7 := { stood := { row := chanceCellsUptoRow, standIns := [], harness := (true, "abaac83fc4868ea9254126a3a3daea99ccfe170d65e3ef038ba687f7c421ab0b"), looks := false }, kinds := [], alts := [], laidByText := true, laidKinds := [.data, .data, .data, .data, .pinned], laidTests := true, laidLooks := .later }
def ChanceCellsUptoCardSaid : Prop := Claim7.holds Tryd.pinned (.plain (OpenSpec.upto chanceCellsSpec)) chanceCellsUptoCard

/-- THE SECOND FORM's CARD OF 'gambrellaw09.ChanceSteps'. -/
def chanceStepsUptoCard : Claim7 := { stood := { row := chanceStepsUptoRow, standIns := [], harness := (true, "abaac83fc4868ea9254126a3a3daea99ccfe170d65e3ef038ba687f7c421ab0b"), looks := false }, kinds := [], alts := [], goes := true, laidByText := true, laidKinds := [.data, .data, .data, .data, .pinned], laidTests := true, laidLooks := .later }
def ChanceStepsUptoCardSaid : Prop := Claim7.holds Tryd.pinned (.plain (OpenSpec.upto chanceStepsSpec)) chanceStepsUptoCard

/-- THE SECOND FORM's CARD OF 'gambrellaw09.ChanceFits'. -/
def chanceFitsUptoCard : Claim7 := { stood := { row := chanceFitsUptoRow, standIns := [], harness := (true, "abaac83fc4868ea9254126a3a3daea99ccfe170d65e3ef038ba687f7c421ab0b"), looks := false }, kinds := [], alts := [], goes := true, laidByText := true, laidKinds := [.data, .data, .data, .data, .pinned], laidTests := true, laidLooks := .later }
def ChanceFitsUptoCardSaid : Prop := Claim7.holds Tryd.pinned (.plain (OpenSpec.upto chanceFitsSpec)) chanceFitsUptoCard

/-- THE SECOND FORM's CARD OF 'gambrellaw09.ChanceNames'. -/
def chanceNamesUptoCard : Claim7 := { stood := { row := chanceNamesUptoRow, standIns := [], harness := (true, "abaac83fc4868ea9254126a3a3daea99ccfe170d65e3ef038ba687f7c421ab0b"), looks := false }, kinds := [], alts := [], goes := true, laidByText := true, laidKinds := [.data, .data, .data, .data, .pinned], laidTests := true, laidLooks := .later }
def ChanceNamesUptoCardSaid : Prop := Claim7.holds Tryd.pinned (.plain (OpenSpec.upto chanceNamesSpec)) chanceNamesUptoCard

/-- THE SECOND FORM's CARD OF 'gambrellaw09.ChanceParts'. -/
def chancePartsUptoCard : Claim7 := { stood := { row := chancePartsUptoRow, standIns := [], harness := (true, "abaac83fc4868ea9254126a3a3daea99ccfe170d65e3ef038ba687f7c421ab0b"), looks := false }, kinds := [], alts := [], goes := true, laidByText := true, laidKinds := [.data, .data, .data, .data, .pinned], laidTests := true, laidLooks := .later }
def ChancePartsUptoCardSaid : Prop := Claim7.holds Tryd.pinned (.plain (OpenSpec.upto chancePartsSpec)) chancePartsUptoCard

/-- THE SECOND FORM's CARD OF 'gambrellaw09.ChancePaths'. -/
def chancePathsUptoCard : Claim7 := { stood := { row := chancePathsUptoRow, standIns := [], harness := (true, "abaac83fc4868ea9254126a3a3daea99ccfe170d65e3ef038ba687f7c421ab0b"), looks := false }, kinds := [], alts := [], goes := true, laidByText := true, laidKinds := [.data, .data, .data, .data, .pinned], laidTests := true, laidLooks := .later }
def ChancePathsUptoCardSaid : Prop := Claim7.holds Tryd.pinned (.plain (OpenSpec.upto chancePathsSpec)) chancePathsUptoCard

/-- THE SECOND FORM's CARD OF 'gambrellaw09.ChanceAlone'. -/
def chanceAloneUptoCard : Claim7 := { stood := { row := chanceAloneUptoRow, standIns := [], harness := (true, "abaac83fc4868ea9254126a3a3daea99ccfe170d65e3ef038ba687f7c421ab0b"), looks := false }, kinds := [], alts := [], goes := true, laidByText := true, laidKinds := [.data, .data, .data, .data, .pinned], laidTests := true, laidLooks := .later }
def ChanceAloneUptoCardSaid : Prop := Claim7.holds Tryd.pinned (.plain (OpenSpec.upto chanceAloneSpec)) chanceAloneUptoCard
end Rows
end Go.Proofs.YtlipmagkplbkdaaDoor
