/-
  DERIVED. GIVEN WITH THE SEED: THE CARDS: each row of YtipdppkoodlkcaaDoorRows.lean that lists a variable, with what it lists TIED to the program's text (the seventh form; the later family's looks); each row that meets fmt, with fmt's text TOLD by the authors' own Lean function (tested against real Go, not proved from fmt's source: count such statements apart). THE CARD IS WHAT COUNTS. Prove the row's statement (the work); the ties are given (YtipdppkoodlkcaaDoorTie.lean); close each card by the builder's one call (the guide's Derived/Test/ToyasCard.lean, 'card_holds'). Laid BY PROGRAM, IN A SANDBOX (cutbox-door.mjs). By AI agents, Wed Nov 11 2026. No macro, syntax, notation, axiom, sorry.
-/
import Derived.Test.YtipdppkoodlkcaaDoorRows
import GoSem.ClaimSeven
namespace Go.Proofs.YtipdppkoodlkcaaDoor
namespace Rows

/-- THE TIED CARD OF 'gambrellaw07.RewriteFirst'. -/
def rewriteFirstCard : Claim7 := { stood := { row := rewriteFirstRow, standIns := [], harness := (true, "391b6ab1acd7842b28b8619b8c5c313462f6609992b24b593d8014f459bd0e5b"), looks := true }, kinds := [], alts := [], laidByText := true, laidKinds := [.data, .data, .data, .data, .sentinel, .sentinel, .pinned], laidTests := true, laidLooks := .later }
def RewriteFirstCardSaid : Prop := Claim7.holds Tryd.pinned (.plain (OpenSpec.ofChange rewriteFirstSpec)) rewriteFirstCard

/-- THE SECOND FORM's CARD OF 'gambrellaw07.RewriteFirst'. -/
def rewriteFirstUptoCard : Claim7 := { stood := { row := rewriteFirstUptoRow, standIns := [], harness := (true, "391b6ab1acd7842b28b8619b8c5c313462f6609992b24b593d8014f459bd0e5b"), looks := true }, kinds := [], alts := [], laidByText := true, laidKinds := [.data, .data, .data, .data, .sentinel, .sentinel, .pinned], laidTests := true, laidLooks := .later }
def RewriteFirstUptoCardSaid : Prop := Claim7.holds Tryd.pinned (.plain (OpenSpec.upto rewriteFirstSpec)) rewriteFirstUptoCard
end Rows
end Go.Proofs.YtipdppkoodlkcaaDoor
