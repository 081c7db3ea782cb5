/-
  DERIVED. GIVEN WITH THE SEED: THE CARDS: each row of YtpeknefmjdipmaaGreatDoorRows.lean that lists a variable, with what it lists TIED to the program's text (the seventh form; the later family's looks); each row that meets fmt, with fmt's text TOLD by the authors' own Lean function (tested against real Go, not proved from fmt's source: count such statements apart). THE CARD IS WHAT COUNTS. Prove the row's statement (the work); the ties are given (YtpeknefmjdipmaaGreatDoorTie.lean); close each card by the builder's one call (the guide's Derived/Test/ToyasCard.lean, 'card_holds'). Laid BY PROGRAM, IN A SANDBOX (cutbox-door.mjs). By AI agents, Wed Nov 11 2026. No macro, syntax, notation, axiom, sorry.
-/
import Derived.Test.YtpeknefmjdipmaaGreatDoorRows
import GoSem.ClaimSeven
namespace Go.Proofs.YtpeknefmjdipmaaGreatDoor
namespace Rows

/-- THE TIED CARD OF 'gambrellaw08.ContextBranch'. -/
def contextBranchCard : Claim7 := { stood := { row := contextBranchRow, standIns := [], harness := (true, "ed9ddc76746bbd8ad58bbbb35ebb61b546f8bee6481178510cfa0666971443c8"), looks := true }, kinds := [], alts := [], laidByText := true, laidKinds := [.data, .data, .data, .data, .sentinel, .sentinel, .pinned], laidTests := true, laidLooks := .later }
def ContextBranchCardSaid : Prop := Claim7.holds Tryz.pinned (.plain (OpenSpec.ofChange contextBranchSpec)) contextBranchCard

/-- THE TIED CARD OF 'gambrellaw08.ContextFits'. -/
def contextFitsCard : Claim7 := { stood := { row := contextFitsRow, standIns := [], harness := (true, "ed9ddc76746bbd8ad58bbbb35ebb61b546f8bee6481178510cfa0666971443c8"), looks := true }, kinds := [], alts := [], laidByText := true, laidKinds := [.data, .data, .data, .data, .sentinel, .sentinel, .pinned], laidTests := true, laidLooks := .later }
def ContextFitsCardSaid : Prop := Claim7.holds Tryz.pinned (.plain (OpenSpec.ofChange contextFitsSpec)) contextFitsCard

/-- THE TIED CARD OF 'gambrellaw08.ContextPlain'. -/
def contextPlainCard : Claim7 := { stood := { row := contextPlainRow, standIns := [], harness := (true, "ed9ddc76746bbd8ad58bbbb35ebb61b546f8bee6481178510cfa0666971443c8"), looks := true }, kinds := [], alts := [], laidByText := true, laidKinds := [.data, .data, .data, .data, .sentinel, .sentinel, .pinned], laidTests := true, laidLooks := .later }
def ContextPlainCardSaid : Prop := Claim7.holds Tryz.pinned (.plain (OpenSpec.ofChange contextPlainSpec)) contextPlainCard

/-- THE SECOND FORM's CARD OF 'gambrellaw08.ContextBranch'. -/
def contextBranchUptoCard : Claim7 := { stood := { row := contextBranchUptoRow, standIns := [], harness := (true, "ed9ddc76746bbd8ad58bbbb35ebb61b546f8bee6481178510cfa0666971443c8"), looks := true }, kinds := [], alts := [], laidByText := true, laidKinds := [.data, .data, .data, .data, .sentinel, .sentinel, .pinned], laidTests := true, laidLooks := .later }
def ContextBranchUptoCardSaid : Prop := Claim7.holds Tryz.pinned (.plain (OpenSpec.upto contextBranchSpec)) contextBranchUptoCard

/-- THE SECOND FORM's CARD OF 'gambrellaw08.ContextFits'. -/
def contextFitsUptoCard : Claim7 := { stood := { row := contextFitsUptoRow, standIns := [], harness := (true, "ed9ddc76746bbd8ad58bbbb35ebb61b546f8bee6481178510cfa0666971443c8"), looks := true }, kinds := [], alts := [], laidByText := true, laidKinds := [.data, .data, .data, .data, .sentinel, .sentinel, .pinned], laidTests := true, laidLooks := .later }
def ContextFitsUptoCardSaid : Prop := Claim7.holds Tryz.pinned (.plain (OpenSpec.upto contextFitsSpec)) contextFitsUptoCard

/-- THE SECOND FORM's CARD OF 'gambrellaw08.ContextPlain'. -/
def contextPlainUptoCard : Claim7 := { stood := { row := contextPlainUptoRow, standIns := [], harness := (true, "ed9ddc76746bbd8ad58bbbb35ebb61b546f8bee6481178510cfa0666971443c8"), looks := true }, kinds := [], alts := [], laidByText := true, laidKinds := [.data, .data, .data, .data, .sentinel, .sentinel, .pinned], laidTests := true, laidLooks := .later }
def ContextPlainUptoCardSaid : Prop := Claim7.holds Tryz.pinned (.plain (OpenSpec.upto contextPlainSpec)) contextPlainUptoCard
end Rows
end Go.Proofs.YtpeknefmjdipmaaGreatDoor
