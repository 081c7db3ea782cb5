/-
  DERIVED. GIVEN WITH THE SEED: THE CARDS: each row of YtpeknefmjdipmaaDoorRows.lean that lists a variable, with what it lists TIED to the program's text (the seventh form; the later family's looks); each row that meets fmt, with fmt's text TOLD by the authors' own Lean function (tested against real Go, not proved from fmt's source: count such statements apart). THE CARD IS WHAT COUNTS. Prove the row's statement (the work); the ties are given (YtpeknefmjdipmaaDoorTie.lean); close each card by the builder's one call (the guide's Derived/Test/ToyasCard.lean, 'card_holds'). Laid BY PROGRAM, IN A SANDBOX (cutbox-door.mjs). By AI agents, Wed Nov 11 2026. No macro, syntax, notation, axiom, sorry.
-/
import Derived.Test.YtpeknefmjdipmaaDoorRows
import GoSem.ClaimSeven
namespace Go.Proofs.YtpeknefmjdipmaaDoor
namespace Rows

/-- THE TIED CARD OF 'gambrellaw08.ContextBack'. -/
def contextBackCard : Claim7 := { stood := { row := contextBackRow, standIns := [], harness := (true, "6752f742216d1d3dc39c97c04fabcc23867b4f34b8fc0da195309efb3f7743fe"), looks := true }, kinds := [], alts := [], laidByText := true, laidKinds := [.data, .data, .data, .data, .sentinel, .sentinel, .pinned], laidTests := true, laidLooks := .later }
def ContextBackCardSaid : Prop := Claim7.holds Tryd.pinned (.plain (OpenSpec.ofChange contextBackSpec)) contextBackCard

/-- THE TIED CARD OF 'gambrellaw08.ContextNames'. -/
def contextNamesCard : Claim7 := { stood := { row := contextNamesRow, standIns := [], harness := (true, "6752f742216d1d3dc39c97c04fabcc23867b4f34b8fc0da195309efb3f7743fe"), looks := true }, kinds := [], alts := [], laidByText := true, laidKinds := [.data, .data, .data, .data, .sentinel, .sentinel, .pinned], laidTests := true, laidLooks := .later }
def ContextNamesCardSaid : Prop := Claim7.holds Tryd.pinned (.plain (OpenSpec.ofChange contextNamesSpec)) contextNamesCard

/-- THE SECOND FORM's CARD OF 'gambrellaw08.ContextBack'. -/
def contextBackUptoCard : Claim7 := { stood := { row := contextBackUptoRow, standIns := [], harness := (true, "6752f742216d1d3dc39c97c04fabcc23867b4f34b8fc0da195309efb3f7743fe"), looks := true }, kinds := [], alts := [], laidByText := true, laidKinds := [.data, .data, .data, .data, .sentinel, .sentinel, .pinned], laidTests := true, laidLooks := .later }
def ContextBackUptoCardSaid : Prop := Claim7.holds Tryd.pinned (.plain (OpenSpec.upto contextBackSpec)) contextBackUptoCard

/-- THE SECOND FORM's CARD OF 'gambrellaw08.ContextNames'. -/
def contextNamesUptoCard : Claim7 := { stood := { row := contextNamesUptoRow, standIns := [], harness := (true, "6752f742216d1d3dc39c97c04fabcc23867b4f34b8fc0da195309efb3f7743fe"), looks := true }, kinds := [], alts := [], laidByText := true, laidKinds := [.data, .data, .data, .data, .sentinel, .sentinel, .pinned], laidTests := true, laidLooks := .later }
def ContextNamesUptoCardSaid : Prop := Claim7.holds Tryd.pinned (.plain (OpenSpec.upto contextNamesSpec)) contextNamesUptoCard
end Rows
end Go.Proofs.YtpeknefmjdipmaaDoor
