/-
  DERIVED. GIVEN WITH THE SEED: THE CARDS: each row of YtmcgfhgpldfknaaDoorRows.lean that lists a variable, with what it lists TIED to the program's text (the seventh form; the later family's looks); each row that meets fmt, with fmt's text TOLD by the authors' own Lean function (tested against real Go, not proved from fmt's source: count such statements apart). THE CARD IS WHAT COUNTS. Prove the row's statement (the work); the ties are given (YtmcgfhgpldfknaaDoorTie.lean); close each card by the builder's one call (the guide's Derived/Test/ToyasCard.lean, 'card_holds'). Laid BY PROGRAM, IN A SANDBOX (cutbox-door.mjs). By AI agents, Wed Nov 11 2026. No macro, syntax, notation, axiom, sorry.
-/
import Derived.Test.YtmcgfhgpldfknaaDoorRows
import GoSem.ClaimSeven
namespace Go.Proofs.YtmcgfhgpldfknaaDoor
namespace Rows

/-- THE TIED CARD OF 'gambrellaw07.RewriteRuns'. -/
def rewriteRunsCard : Claim7 := { stood := { row := rewriteRunsRow, standIns := [], harness := (true, "53a748513b15f6c0fb229773d871e94421a40b71e80d876c0c8949ccc72140e5"), looks := true }, kinds := [], alts := [], laidByText := true, laidKinds := [.data, .data, .data, .data, .sentinel, .sentinel, .pinned], laidTests := true, laidLooks := .later }
def RewriteRunsCardSaid : Prop := Claim7.holds Tryd.pinned (.plain (OpenSpec.ofChange rewriteRunsSpec)) rewriteRunsCard

/-- THE TIED CARD OF 'gambrellaw07.RewriteStill'. -/
def rewriteStillCard : Claim7 := { stood := { row := rewriteStillRow, standIns := [], harness := (true, "53a748513b15f6c0fb229773d871e94421a40b71e80d876c0c8949ccc72140e5"), looks := true }, kinds := [], alts := [], laidByText := true, laidKinds := [.data, .data, .data, .data, .sentinel, .sentinel, .pinned], laidTests := true, laidLooks := .later }
def RewriteStillCardSaid : Prop := Claim7.holds Tryd.pinned (.plain (OpenSpec.ofChange rewriteStillSpec)) rewriteStillCard

/-- THE TIED CARD OF 'gambrellaw07.RewriteJoins'. -/
def rewriteJoinsCard : Claim7 := { stood := { row := rewriteJoinsRow, standIns := [], harness := (true, "53a748513b15f6c0fb229773d871e94421a40b71e80d876c0c8949ccc72140e5"), looks := true }, kinds := [], alts := [], laidByText := true, laidKinds := [.data, .data, .data, .data, .sentinel, .sentinel, .pinned], laidTests := true, laidLooks := .later }
def RewriteJoinsCardSaid : Prop := Claim7.holds Tryd.pinned (.plain (OpenSpec.ofChange rewriteJoinsSpec)) rewriteJoinsCard

/-- THE TIED CARD OF 'gambrellaw07.RewriteNames'. -/
def rewriteNamesCard : Claim7 := { stood := { row := rewriteNamesRow, standIns := [], harness := (true, "53a748513b15f6c0fb229773d871e94421a40b71e80d876c0c8949ccc72140e5"), looks := true }, kinds := [], alts := [], laidByText := true, laidKinds := [.data, .data, .data, .data, .sentinel, .sentinel, .pinned], laidTests := true, laidLooks := .later }
def RewriteNamesCardSaid : Prop := Claim7.holds Tryd.pinned (.plain (OpenSpec.ofChange rewriteNamesSpec)) rewriteNamesCard

/-- THE TIED CARD OF 'gambrellaw07.RewriteFirst'. -/
def rewriteFirstCard : Claim7 := { stood := { row := rewriteFirstRow, standIns := [], harness := (true, "53a748513b15f6c0fb229773d871e94421a40b71e80d876c0c8949ccc72140e5"), looks := true }, kinds := [], alts := [], laidByText := true, laidKinds := [.data, .data, .data, .data, .sentinel, .sentinel, .pinned], laidTests := true, laidLooks := .later }
def RewriteFirstCardSaid : Prop := Claim7.holds Tryd.pinned (.plain (OpenSpec.ofChange rewriteFirstSpec)) rewriteFirstCard

/-- THE SECOND FORM's CARD OF 'gambrellaw07.RewriteRuns'. -/
def rewriteRunsUptoCard : Claim7 := { stood := { row := rewriteRunsUptoRow, standIns := [], harness := (true, "53a748513b15f6c0fb229773d871e94421a40b71e80d876c0c8949ccc72140e5"), looks := true }, kinds := [], alts := [], laidByText := true, laidKinds := [.data, .data, .data, .data, .sentinel, .sentinel, .pinned], laidTests := true, laidLooks := .later }
def RewriteRunsUptoCardSaid : Prop := Claim7.holds Tryd.pinned (.plain (OpenSpec.upto rewriteRunsSpec)) rewriteRunsUptoCard

/-- THE SECOND FORM's CARD OF 'gambrellaw07.RewriteStill'. -/
def rewriteStillUptoCard : Claim7 := { stood := { row := rewriteStillUptoRow, standIns := [], harness := (true, "53a748513b15f6c0fb229773d871e94421a40b71e80d876c0c8949ccc72140e5"), looks := true }, kinds := [], alts := [], laidByText := true, laidKinds := [.data, .data, .data, .data, .sentinel, .sentinel, .pinned], laidTests := true, laidLooks := .later }
def RewriteStillUptoCardSaid : Prop := Claim7.holds Tryd.pinned (.plain (OpenSpec.upto rewriteStillSpec)) rewriteStillUptoCard

/-- THE SECOND FORM's CARD OF 'gambrellaw07.RewriteJoins'. -/
def rewriteJoinsUptoCard : Claim7 := { stood := { row := rewriteJoinsUptoRow, standIns := [], harness := (true, "53a748513b15f6c0fb229773d871e94421a40b71e80d876c0c8949ccc72140e5"), looks := true }, kinds := [], alts := [], laidByText := true, laidKinds := [.data, .data, .data, .data, .sentinel, .sentinel, .pinned], laidTests := true, laidLooks := .later }
def RewriteJoinsUptoCardSaid : Prop := Claim7.holds Tryd.pinned (.plain (OpenSpec.upto rewriteJoinsSpec)) rewriteJoinsUptoCard

/-- THE SECOND FORM's CARD OF 'gambrellaw07.RewriteNames'. -/
def rewriteNamesUptoCard : Claim7 := { stood := { row := rewriteNamesUptoRow, standIns := [], harness := (true, "53a748513b15f6c0fb229773d871e94421a40b71e80d876c0c8949ccc72140e5"), looks := true }, kinds := [], alts := [], laidByText := true, laidKinds := [.data, .data, .data, .data, .sentinel, .sentinel, .pinned], laidTests := true, laidLooks := .later }
def RewriteNamesUptoCardSaid : Prop := Claim7.holds Tryd.pinned (.plain (OpenSpec.upto rewriteNamesSpec)) rewriteNamesUptoCard

/-- THE SECOND FORM's CARD OF 'gambrellaw07.RewriteFirst'. -/
def rewriteFirstUptoCard : Claim7 := { stood := { row := rewriteFirstUptoRow, standIns := [], harness := (true, "53a748513b15f6c0fb229773d871e94421a40b71e80d876c0c8949ccc72140e5"), looks := true }, kinds := [], alts := [], laidByText := true, laidKinds := [.data, .data, .data, .data, .sentinel, .sentinel, .pinned], laidTests := true, laidLooks := .later }
def RewriteFirstUptoCardSaid : Prop := Claim7.holds Tryd.pinned (.plain (OpenSpec.upto rewriteFirstSpec)) rewriteFirstUptoCard
end Rows
end Go.Proofs.YtmcgfhgpldfknaaDoor
