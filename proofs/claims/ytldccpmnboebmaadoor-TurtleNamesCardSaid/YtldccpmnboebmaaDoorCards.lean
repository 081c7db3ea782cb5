/-
  DERIVED. GIVEN WITH THE SEED: THE CARDS: each row of YtldccpmnboebmaaDoorRows.lean that lists a variable, with what it lists TIED to the program's text (the seventh form; the later family's looks); each row that meets fmt, with fmt's text TOLD by the authors' own Lean function (tested against real Go, not proved from fmt's source: count such statements apart). THE CARD IS WHAT COUNTS. Prove the row's statement (the work); the ties are given (YtldccpmnboebmaaDoorTie.lean); close each card by the builder's one call (the guide's Derived/Test/ToyasCard.lean, 'card_holds'). Laid BY PROGRAM, IN A SANDBOX (cutbox-door.mjs). By AI agents, Wed Nov 11 2026. No macro, syntax, notation, axiom, sorry.
-/
import Derived.Test.YtldccpmnboebmaaDoorRows
import GoSem.ClaimSeven
namespace Go.Proofs.YtldccpmnboebmaaDoor
namespace Rows

/-- THE TIED CARD OF 'gambrellaw17.TurtleJoins'. -/
def turtleJoinsCard : Claim7 := { stood := { row := turtleJoinsRow, standIns := [], harness := (true, "d47b2fad39f356e3c5a903e712c859fe6eda7ca86b1136c5f9a96f9a0d51c920"), looks := true }, kinds := [], alts := [], laidByText := true, laidKinds := [.data, .data, .data, .data, .sentinel, .sentinel, .pinned], laidTests := true, laidLooks := .later }
def TurtleJoinsCardSaid : Prop := Claim7.holds Tryd.pinned (.plain (OpenSpec.ofChange turtleJoinsSpec)) turtleJoinsCard

/-- THE TIED CARD OF 'gambrellaw17.TurtleBranches'. -/
def turtleBranchesCard : Claim7 := { stood := { row := turtleBranchesRow, standIns := [], harness := (true, "d47b2fad39f356e3c5a903e712c859fe6eda7ca86b1136c5f9a96f9a0d51c920"), looks := true }, kinds := [], alts := [], laidByText := true, laidKinds := [.data, .data, .data, .data, .sentinel, .sentinel, .pinned], laidTests := true, laidLooks := .later }
def TurtleBranchesCardSaid : Prop := Claim7.holds Tryd.pinned (.plain (OpenSpec.ofChange turtleBranchesSpec)) turtleBranchesCard

/-- THE TIED CARD OF 'gambrellaw17.TurtleBends'. -/
def turtleBendsCard : Claim7 := { stood := { row := turtleBendsRow, standIns := [], harness := (true, "d47b2fad39f356e3c5a903e712c859fe6eda7ca86b1136c5f9a96f9a0d51c920"), looks := true }, kinds := [], alts := [], laidByText := true, laidKinds := [.data, .data, .data, .data, .sentinel, .sentinel, .pinned], laidTests := true, laidLooks := .later }
def TurtleBendsCardSaid : Prop := Claim7.holds Tryd.pinned (.plain (OpenSpec.ofChange turtleBendsSpec)) turtleBendsCard

/-- THE TIED CARD OF 'gambrellaw17.TurtleLengths'. -/
def turtleLengthsCard : Claim7 := { stood := { row := turtleLengthsRow, standIns := [], harness := (true, "d47b2fad39f356e3c5a903e712c859fe6eda7ca86b1136c5f9a96f9a0d51c920"), looks := true }, kinds := [], alts := [], laidByText := true, laidKinds := [.data, .data, .data, .data, .sentinel, .sentinel, .pinned], laidTests := true, laidLooks := .later }
def TurtleLengthsCardSaid : Prop := Claim7.holds Tryd.pinned (.plain (OpenSpec.ofChange turtleLengthsSpec)) turtleLengthsCard

/-- THE TIED CARD OF 'gambrellaw17.TurtlePlaces'. -/
def turtlePlacesCard : Claim7 := { stood := { row := turtlePlacesRow, standIns := [], harness := (true, "d47b2fad39f356e3c5a903e712c859fe6eda7ca86b1136c5f9a96f9a0d51c920"), looks := true }, kinds := [], alts := [], laidByText := true, laidKinds := [.data, .data, .data, .data, .sentinel, .sentinel, .pinned], laidTests := true, laidLooks := .later }
def TurtlePlacesCardSaid : Prop := Claim7.holds Tryd.pinned (.plain (OpenSpec.ofChange turtlePlacesSpec)) turtlePlacesCard

/-- THE TIED CARD OF 'gambrellaw17.TurtleNames'. -/
def turtleNamesCard : Claim7 := { stood := { row := turtleNamesRow, standIns := [], harness := (true, "d47b2fad39f356e3c5a903e712c859fe6eda7ca86b1136c5f9a96f9a0d51c920"), looks := true }, kinds := [], alts := [], laidByText := true, laidKinds := [.data, .data, .data, .data, .sentinel, .sentinel, .pinned], laidTests := true, laidLooks := .later }
def TurtleNamesCardSaid : Prop := Claim7.holds Tryd.pinned (.plain (OpenSpec.ofChange turtleNamesSpec)) turtleNamesCard

/-- THE SECOND FORM's CARD OF 'gambrellaw17.TurtleJoins'. -/
def turtleJoinsUptoCard : Claim7 := { stood := { row := turtleJoinsUptoRow, standIns := [], harness := (true, "d47b2fad39f356e3c5a903e712c859fe6eda7ca86b1136c5f9a96f9a0d51c920"), looks := true }, kinds := [], alts := [], laidByText := true, laidKinds := [.data, .data, .data, .data, .sentinel, .sentinel, .pinned], laidTests := true, laidLooks := .later }
def TurtleJoinsUptoCardSaid : Prop := Claim7.holds Tryd.pinned (.plain (OpenSpec.upto turtleJoinsSpec)) turtleJoinsUptoCard

/-- THE SECOND FORM's CARD OF 'gambrellaw17.TurtleBranches'. -/
def turtleBranchesUptoCard : Claim7 := { stood := { row := turtleBranchesUptoRow, standIns := [], harness := (true, "d47b2fad39f356e3c5a903e712c859fe6eda7ca86b1136c5f9a96f9a0d51c920"), looks := true }, kinds := [], alts := [], laidByText := true, laidKinds := [.data, .data, .data, .data, .sentinel, .sentinel, .pinned], laidTests := true, laidLooks := .later }
def TurtleBranchesUptoCardSaid : Prop := Claim7.holds Tryd.pinned (.plain (OpenSpec.upto turtleBranchesSpec)) turtleBranchesUptoCard

/-- THE SECOND FORM's CARD OF 'gambrellaw17.TurtleBends'. -/
def turtleBendsUptoCard : Claim7 := { stood := { row := turtleBendsUptoRow, standIns := [], harness := (true, "d47b2fad39f356e3c5a903e712c859fe6eda7ca86b1136c5f9a96f9a0d51c920"), looks := true }, kinds := [], alts := [], laidByText := true, laidKinds := [.data, .data, .data, .data, .sentinel, .sentinel, .pinned], laidTests := true, laidLooks := .later }
def TurtleBendsUptoCardSaid : Prop := Claim7.holds Tryd.pinned (.plain (OpenSpec.upto turtleBendsSpec)) turtleBendsUptoCard

/-- THE SECOND FORM's CARD OF 'gambrellaw17.TurtleLengths'. -/
def turtleLengthsUptoCard : Claim7 := { stood := { row := turtleLengthsUptoRow, standIns := [], harness := (true, "d47b2fad39f356e3c5a903e712c859fe6eda7ca86b1136c5f9a96f9a0d51c920"), looks := true }, kinds := [], alts := [], laidByText := true, laidKinds := [.data, .data, .data, .data, .sentinel, .sentinel, .pinned], laidTests := true, laidLooks := .later }
def TurtleLengthsUptoCardSaid : Prop := Claim7.holds Tryd.pinned (.plain (OpenSpec.upto turtleLengthsSpec)) turtleLengthsUptoCard

/-- THE SECOND FORM's CARD OF 'gambrellaw17.TurtlePlaces'. -/
def turtlePlacesUptoCard : Claim7 := { stood := { row := turtlePlacesUptoRow, standIns := [], harness := (true, "d47b2fad39f356e3c5a903e712c859fe6eda7ca86b1136c5f9a96f9a0d51c920"), looks := true }, kinds := [], alts := [], laidByText := true, laidKinds := [.data, .data, .data, .data, .sentinel, .sentinel, .pinned], laidTests := true, laidLooks := .later }
def TurtlePlacesUptoCardSaid : Prop := Claim7.holds Tryd.pinned (.plain (OpenSpec.upto turtlePlacesSpec)) turtlePlacesUptoCard

/-- THE SECOND FORM's CARD OF 'gambrellaw17.TurtleNames'. -/
def turtleNamesUptoCard : Claim7 := { stood := { row := turtleNamesUptoRow, standIns := [], harness := (true, "d47b2fad39f356e3c5a903e712c859fe6eda7ca86b1136c5f9a96f9a0d51c920"), looks := true }, kinds := [], alts := [], laidByText := true, laidKinds := [.data, .data, .data, .data, .sentinel, .sentinel, .pinned], laidTests := true, laidLooks := .later }
def TurtleNamesUptoCardSaid : Prop := Claim7.holds Tryd.pinned (.plain (OpenSpec.upto turtleNamesSpec)) turtleNamesUptoCard
end Rows
end Go.Proofs.YtldccpmnboebmaaDoor
