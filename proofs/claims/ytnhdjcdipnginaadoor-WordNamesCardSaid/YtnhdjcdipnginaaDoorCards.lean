/-
  DERIVED. GIVEN WITH THE SEED: THE CARDS: each row of YtnhdjcdipnginaaDoorRows.lean that lists a variable, with what it lists TIED to the program's text (the seventh form; the later family's looks); each row that meets fmt, with fmt's text TOLD by the authors' own Lean function (tested against real Go, not proved from fmt's source: count such statements apart). THE CARD IS WHAT COUNTS. Prove the row's statement (the work); the ties are given (YtnhdjcdipnginaaDoorTie.lean); close each card by the builder's one call (the guide's Derived/Test/ToyasCard.lean, 'card_holds'). Laid BY PROGRAM, IN A SANDBOX (cutbox-door.mjs). By AI agents, Wed Nov 11 2026. No macro, syntax, notation, axiom, sorry.
-/
import Derived.Test.YtnhdjcdipnginaaDoorRows
import GoSem.ClaimSeven
namespace Go.Proofs.YtnhdjcdipnginaaDoor
namespace Rows

/-- THE TIED CARD OF 'gambrellaw06.WordTexts'. -/
def wordTextsCard : Claim7 := { stood := { row := wordTextsRow, standIns := [], harness := (true, "aa1681d212db681c2898fcb44a820be0cbb1d4a4422e59275f35397b36aa2a7e"), looks := true }, kinds := [], alts := [], laidByText := true, laidKinds := [.data, .data, .data, .data, .sentinel, .sentinel, .pinned], laidTests := true, laidLooks := .later }
def WordTextsCardSaid : Prop := Claim7.holds Tryd.pinned (.plain (OpenSpec.ofChange wordTextsSpec)) wordTextsCard

/-- THE TIED CARD OF 'gambrellaw06.WordBrackets'. -/
def wordBracketsCard : Claim7 := { stood := { row := wordBracketsRow, standIns := [], harness := (true, "aa1681d212db681c2898fcb44a820be0cbb1d4a4422e59275f35397b36aa2a7e"), looks := true }, kinds := [], alts := [], laidByText := true, laidKinds := [.data, .data, .data, .data, .sentinel, .sentinel, .pinned], laidTests := true, laidLooks := .later }
def WordBracketsCardSaid : Prop := Claim7.holds Tryd.pinned (.plain (OpenSpec.ofChange wordBracketsSpec)) wordBracketsCard

/-- THE TIED CARD OF 'gambrellaw06.WordNames'. -/
def wordNamesCard : Claim7 := { stood := { row := wordNamesRow, standIns := [], harness := (true, "aa1681d212db681c2898fcb44a820be0cbb1d4a4422e59275f35397b36aa2a7e"), looks := true }, kinds := [], alts := [], laidByText := true, laidKinds := [.data, .data, .data, .data, .sentinel, .sentinel, .pinned], laidTests := true, laidLooks := .later }
def WordNamesCardSaid : Prop := Claim7.holds Tryd.pinned (.plain (OpenSpec.ofChange wordNamesSpec)) wordNamesCard

/-- THE TIED CARD OF 'gambrellaw06.WordBack'. -/
def wordBackCard : Claim7 := { stood := { row := wordBackRow, standIns := [], harness := (true, "aa1681d212db681c2898fcb44a820be0cbb1d4a4422e59275f35397b36aa2a7e"), looks := true }, kinds := [], alts := [], laidByText := true, laidKinds := [.data, .data, .data, .data, .sentinel, .sentinel, .pinned], laidTests := true, laidLooks := .later }
def WordBackCardSaid : Prop := Claim7.holds Tryd.pinned (.plain (OpenSpec.ofChange wordBackSpec)) wordBackCard

/-- THE TIED CARD OF 'gambrellaw06.WordTrunks'. -/
def wordTrunksCard : Claim7 := { stood := { row := wordTrunksRow, standIns := [], harness := (true, "aa1681d212db681c2898fcb44a820be0cbb1d4a4422e59275f35397b36aa2a7e"), looks := true }, kinds := [], alts := [], laidByText := true, laidKinds := [.data, .data, .data, .data, .sentinel, .sentinel, .pinned], laidTests := true, laidLooks := .later }
def WordTrunksCardSaid : Prop := Claim7.holds Tryd.pinned (.plain (OpenSpec.ofChange wordTrunksSpec)) wordTrunksCard

/-- THE SECOND FORM's CARD OF 'gambrellaw06.WordTexts'. -/
def wordTextsUptoCard : Claim7 := { stood := { row := wordTextsUptoRow, standIns := [], harness := (true, "aa1681d212db681c2898fcb44a820be0cbb1d4a4422e59275f35397b36aa2a7e"), looks := true }, kinds := [], alts := [], laidByText := true, laidKinds := [.data, .data, .data, .data, .sentinel, .sentinel, .pinned], laidTests := true, laidLooks := .later }
def WordTextsUptoCardSaid : Prop := Claim7.holds Tryd.pinned (.plain (OpenSpec.upto wordTextsSpec)) wordTextsUptoCard

/-- THE SECOND FORM's CARD OF 'gambrellaw06.WordBrackets'. -/
def wordBracketsUptoCard : Claim7 := { stood := { row := wordBracketsUptoRow, standIns := [], harness := (true, "aa1681d212db681c2898fcb44a820be0cbb1d4a4422e59275f35397b36aa2a7e"), looks := true }, kinds := [], alts := [], laidByText := true, laidKinds := [.data, .data, .data, .data, .sentinel, .sentinel, .pinned], laidTests := true, laidLooks := .later }
def WordBracketsUptoCardSaid : Prop := Claim7.holds Tryd.pinned (.plain (OpenSpec.upto wordBracketsSpec)) wordBracketsUptoCard

/-- THE SECOND FORM's CARD OF 'gambrellaw06.WordNames'. -/
def wordNamesUptoCard : Claim7 := { stood := { row := wordNamesUptoRow, standIns := [], harness := (true, "aa1681d212db681c2898fcb44a820be0cbb1d4a4422e59275f35397b36aa2a7e"), looks := true }, kinds := [], alts := [], laidByText := true, laidKinds := [.data, .data, .data, .data, .sentinel, .sentinel, .pinned], laidTests := true, laidLooks := .later }
def WordNamesUptoCardSaid : Prop := Claim7.holds Tryd.pinned (.plain (OpenSpec.upto wordNamesSpec)) wordNamesUptoCard

/-- THE SECOND FORM's CARD OF 'gambrellaw06.WordBack'. -/
def wordBackUptoCard : Claim7 := { stood := { row := wordBackUptoRow, standIns := [], harness := (true, "aa1681d212db681c2898fcb44a820be0cbb1d4a4422e59275f35397b36aa2a7e"), looks := true }, kinds := [], alts := [], laidByText := true, laidKinds := [.data, .data, .data, .data, .sentinel, .sentinel, .pinned], laidTests := true, laidLooks := .later }
def WordBackUptoCardSaid : Prop := Claim7.holds Tryd.pinned (.plain (OpenSpec.upto wordBackSpec)) wordBackUptoCard

/-- THE SECOND FORM's CARD OF 'gambrellaw06.WordTrunks'. -/
def wordTrunksUptoCard : Claim7 := { stood := { row := wordTrunksUptoRow, standIns := [], harness := (true, "aa1681d212db681c2898fcb44a820be0cbb1d4a4422e59275f35397b36aa2a7e"), looks := true }, kinds := [], alts := [], laidByText := true, laidKinds := [.data, .data, .data, .data, .sentinel, .sentinel, .pinned], laidTests := true, laidLooks := .later }
def WordTrunksUptoCardSaid : Prop := Claim7.holds Tryd.pinned (.plain (OpenSpec.upto wordTrunksSpec)) wordTrunksUptoCard
end Rows
end Go.Proofs.YtnhdjcdipnginaaDoor
