/-
  DERIVED. GIVEN WITH THE SEED: THE CARDS: each row of YtckffdaomjbglaaDoorRows.lean that lists a variable, with what it lists TIED to the program's text (the seventh form; the later family's looks); each row that meets fmt, with fmt's text TOLD by the authors' own Lean function (tested against real Go, not proved from fmt's source: count such statements apart). THE CARD IS WHAT COUNTS. Prove the row's statement (the work); the ties are given (YtckffdaomjbglaaDoorTie.lean); close each card by the builder's one call (the guide's Derived/Test/ToyasCard.lean, 'card_holds'). Laid BY PROGRAM, IN A SANDBOX (cutbox-door.mjs). By AI agents, Wed Nov 11 2026. No macro, syntax, notation, axiom, sorry.
-/
import Derived.Test.YtckffdaomjbglaaDoorRows
import GoSem.ClaimSeven
namespace Go.Proofs.YtckffdaomjbglaaDoor
namespace Rows

/-- THE TIED CARD OF 'gambrellaw42.InferBack'. -/
def inferBackCard : Claim7 := { stood := { row := inferBackRow, standIns := [], harness := (true, "b4f3c7e6b363baa98c4712d253a0fe8d4e3d35aaba9276cecd193d1cddf370cf"), looks := true }, kinds := [], alts := [], laidByText := true, laidKinds := [.data, .data, .data, .data, .sentinel, .sentinel, .pinned], laidTests := true, laidLooks := .later }
def InferBackCardSaid : Prop := Claim7.holds Tryd.pinned (.plain (OpenSpec.ofChange inferBackSpec)) inferBackCard

/-- THE TIED CARD OF 'gambrellaw42.InferFewer'. -/
def inferFewerCard : Claim7 := { stood := { row := inferFewerRow, standIns := [], harness := (true, "b4f3c7e6b363baa98c4712d253a0fe8d4e3d35aaba9276cecd193d1cddf370cf"), looks := true }, kinds := [], alts := [], laidByText := true, laidKinds := [.data, .data, .data, .data, .sentinel, .sentinel, .pinned], laidTests := true, laidLooks := .later }
def InferFewerCardSaid : Prop := Claim7.holds Tryd.pinned (.plain (OpenSpec.ofChange inferFewerSpec)) inferFewerCard

/-- THE TIED CARD OF 'gambrellaw42.InferUsed'. -/
def inferUsedCard : Claim7 := { stood := { row := inferUsedRow, standIns := [], harness := (true, "b4f3c7e6b363baa98c4712d253a0fe8d4e3d35aaba9276cecd193d1cddf370cf"), looks := true }, kinds := [], alts := [], laidByText := true, laidKinds := [.data, .data, .data, .data, .sentinel, .sentinel, .pinned], laidTests := true, laidLooks := .later }
def InferUsedCardSaid : Prop := Claim7.holds Tryd.pinned (.plain (OpenSpec.ofChange inferUsedSpec)) inferUsedCard

/-- THE TIED CARD OF 'gambrellaw42.InferNames'. -/
def inferNamesCard : Claim7 := { stood := { row := inferNamesRow, standIns := [], harness := (true, "b4f3c7e6b363baa98c4712d253a0fe8d4e3d35aaba9276cecd193d1cddf370cf"), looks := true }, kinds := [], alts := [], laidByText := true, laidKinds := [.data, .data, .data, .data, .sentinel, .sentinel, .pinned], laidTests := true, laidLooks := .later }
def InferNamesCardSaid : Prop := Claim7.holds Tryd.pinned (.plain (OpenSpec.ofChange inferNamesSpec)) inferNamesCard

/-- THE SECOND FORM's CARD OF 'gambrellaw42.InferBack'. -/
def inferBackUptoCard : Claim7 := { stood := { row := inferBackUptoRow, standIns := [], harness := (true, "b4f3c7e6b363baa98c4712d253a0fe8d4e3d35aaba9276cecd193d1cddf370cf"), looks := true }, kinds := [], alts := [], laidByText := true, laidKinds := [.data, .data, .data, .data, .sentinel, .sentinel, .pinned], laidTests := true, laidLooks := .later }
def InferBackUptoCardSaid : Prop := Claim7.holds Tryd.pinned (.plain (OpenSpec.upto inferBackSpec)) inferBackUptoCard

/-- THE SECOND FORM's CARD OF 'gambrellaw42.InferFewer'. -/
def inferFewerUptoCard : Claim7 := { stood := { row := inferFewerUptoRow, standIns := [], harness := (true, "b4f3c7e6b363baa98c4712d253a0fe8d4e3d35aaba9276cecd193d1cddf370cf"), looks := true }, kinds := [], alts := [], laidByText := true, laidKinds := [.data, .data, .data, .data, .sentinel, .sentinel, .pinned], laidTests := true, laidLooks := .later }
def InferFewerUptoCardSaid : Prop := Claim7.holds Tryd.pinned (.plain (OpenSpec.upto inferFewerSpec)) inferFewerUptoCard

/-- THE SECOND FORM's CARD OF 'gambrellaw42.InferUsed'. -/
def inferUsedUptoCard : Claim7 := { stood := { row := inferUsedUptoRow, standIns := [], harness := (true, "b4f3c7e6b363baa98c4712d253a0fe8d4e3d35aaba9276cecd193d1cddf370cf"), looks := true }, kinds := [], alts := [], laidByText := true, laidKinds := [.data, .data, .data, .data, .sentinel, .sentinel, .pinned], laidTests := true, laidLooks := .later }
def InferUsedUptoCardSaid : Prop := Claim7.holds Tryd.pinned (.plain (OpenSpec.upto inferUsedSpec)) inferUsedUptoCard

/-- THE SECOND FORM's CARD OF 'gambrellaw42.InferNames'. -/
def inferNamesUptoCard : Claim7 := { stood := { row := inferNamesUptoRow, standIns := [], harness := (true, "b4f3c7e6b363baa98c4712d253a0fe8d4e3d35aaba9276cecd193d1cddf370cf"), looks := true }, kinds := [], alts := [], laidByText := true, laidKinds := [.data, .data, .data, .data, .sentinel, .sentinel, .pinned], laidTests := true, laidLooks := .later }
def InferNamesUptoCardSaid : Prop := Claim7.holds Tryd.pinned (.plain (OpenSpec.upto inferNamesSpec)) inferNamesUptoCard
end Rows
end Go.Proofs.YtckffdaomjbglaaDoor
