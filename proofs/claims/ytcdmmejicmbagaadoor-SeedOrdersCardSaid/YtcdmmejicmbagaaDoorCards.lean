/-
  DERIVED. GIVEN WITH THE SEED: THE CARDS: each row of YtcdmmejicmbagaaDoorRows.lean that lists a variable, with what it lists TIED to the program's text (the seventh form; the later family's looks); each row that meets fmt, with fmt's text TOLD by the authors' own Lean function (tested against real Go, not proved from fmt's source: count such statements apart). THE CARD IS WHAT COUNTS. Prove the row's statement (the work); the ties are given (YtcdmmejicmbagaaDoorTie.lean); close each card by the builder's one call (the guide's Derived/Test/ToyasCard.lean, 'card_holds'). Laid BY PROGRAM, IN A SANDBOX (cutbox-door.mjs). By AI agents, Wed Nov 11 2026. No macro, syntax, notation, axiom, sorry.
-/
import Derived.Test.YtcdmmejicmbagaaDoorRows
import GoSem.ClaimSeven
namespace Go.Proofs.YtcdmmejicmbagaaDoor
namespace Rows

/-- THE TIED CARD OF 'gambrellaw05.SeedPicks'. -/
def seedPicksCard : Claim7 := { stood := { row := seedPicksRow, standIns := [], harness := (true, "acc6c172d095810353e2faaa2be0ffcf13b08061c2cac38aaa3c79c31c7118d1"), looks := false }, kinds := [], alts := [], laidByText := true, laidKinds := [.data, .data, .data], laidTests := true, laidLooks := .later }
def SeedPicksCardSaid : Prop := Claim7.holds Tryd.pinned (.plain (OpenSpec.ofChange seedPicksSpec)) seedPicksCard

/-- THE TIED CARD OF 'gambrellaw05.SeedFair'. -/
def seedFairCard : Claim7 := { stood := { row := seedFairRow, standIns := [], harness := (true, "acc6c172d095810353e2faaa2be0ffcf13b08061c2cac38aaa3c79c31c7118d1"), looks := false }, kinds := [], alts := [], laidByText := true, laidKinds := [.data, .data, .data], laidTests := true, laidLooks := .later }
def SeedFairCardSaid : Prop := Claim7.holds Tryd.pinned (.plain (OpenSpec.ofChange seedFairSpec)) seedFairCard

/-- THE TIED CARD OF 'gambrellaw05.SeedApart'. -/
def seedApartCard : Claim7 := { stood := { row := seedApartRow, standIns := [], harness := (true, "acc6c172d095810353e2faaa2be0ffcf13b08061c2cac38aaa3c79c31c7118d1"), looks := false }, kinds := [], alts := [], laidByText := true, laidKinds := [.data, .data, .data], laidTests := true, laidLooks := .later }
def SeedApartCardSaid : Prop := Claim7.holds Tryd.pinned (.plain (OpenSpec.ofChange seedApartSpec)) seedApartCard

/-- THE TIED CARD OF 'gambrellaw05.SeedOrders'. -/
def seedOrdersCard : Claim7 := { stood := { row := seedOrdersRow, standIns := [], harness := (true, "acc6c172d095810353e2faaa2be0ffcf13b08061c2cac38aaa3c79c31c7118d1"), looks := false }, kinds := [], alts := [], laidByText := true, laidKinds := [.data, .data, .data], laidTests := true, laidLooks := .later }
def SeedOrdersCardSaid : Prop := Claim7.holds Tryd.pinned (.plain (OpenSpec.ofChange seedOrdersSpec)) seedOrdersCard

/-- THE TIED CARD OF 'gambrellaw05.SeedNames'. -/
def seedNamesCard : Claim7 := { stood := { row := seedNamesRow, standIns := [], harness := (true, "acc6c172d095810353e2faaa2be0ffcf13b08061c2cac38aaa3c79c31c7118d1"), looks := false }, kinds := [], alts := [], laidByText := true, laidKinds := [.data, .data, .data], laidTests := true, laidLooks := .later }
def SeedNamesCardSaid : Prop := Claim7.holds Tryd.pinned (.plain (OpenSpec.ofChange seedNamesSpec)) seedNamesCard

/-- THE TIED CARD OF 'gambrellaw05.SeedSame'. -/
def seedSameCard : Claim7 := { stood := { row := seedSameRow, standIns := [], harness := (true, "acc6c172d095810353e2faaa2be0ffcf13b08061c2cac38aaa3c79c31c7118d1"), looks := false }, kinds := [], alts := [], laidByText := true, laidKinds := [.data, .data, .data], laidTests := true, laidLooks := .later }
def SeedSameCardSaid : Prop := Claim7.holds Tryd.pinned (.plain (OpenSpec.ofChange seedSameSpec)) seedSameCard

/-- THE SECOND FORM's CARD OF 'gambrellaw05.SeedPicks'. -/
def seedPicksUptoCard : Claim7 := { stood := { row := seedPicksUptoRow, standIns := [], harness := (true, "acc6c172d095810353e2faaa2be0ffcf13b08061c2cac38aaa3c79c31c7118d1"), looks := false }, kinds := [], alts := [], laidByText := true, laidKinds := [.data, .data, .data], laidTests := true, laidLooks := .later }
def SeedPicksUptoCardSaid : Prop := Claim7.holds Tryd.pinned (.plain (OpenSpec.upto seedPicksSpec)) seedPicksUptoCard

/-- THE SECOND FORM's CARD OF 'gambrellaw05.SeedFair'. -/
def seedFairUptoCard : Claim7 := { stood := { row := seedFairUptoRow, standIns := [], harness := (true, "acc6c172d095810353e2faaa2be0ffcf13b08061c2cac38aaa3c79c31c7118d1"), looks := false }, kinds := [], alts := [], laidByText := true, laidKinds := [.data, .data, .data], laidTests := true, laidLooks := .later }
def SeedFairUptoCardSaid : Prop := Claim7.holds Tryd.pinned (.plain (OpenSpec.upto seedFairSpec)) seedFairUptoCard

/-- THE SECOND FORM's CARD OF 'gambrellaw05.SeedApart'. -/
def seedApartUptoCard : Claim7 := { stood := { row := seedApartUptoRow, standIns := [], harness := (true, "acc6c172d095810353e2faaa2be0ffcf13b08061c2cac38aaa3c79c31c7118d1"), looks := false }, kinds := [], alts := [], laidByText := true, laidKinds := [.data, .data, .data], laidTests := true, laidLooks := .later }
def SeedApartUptoCardSaid : Prop := Claim7.holds Tryd.pinned (.plain (OpenSpec.upto seedApartSpec)) seedApartUptoCard

/-- THE SECOND FORM's CARD OF 'gambrellaw05.SeedOrders'. -/
def seedOrdersUptoCard : Claim7 := { stood := { row := seedOrdersUptoRow, standIns := [], harness := (true, "acc6c172d095810353e2faaa2be0ffcf13b08061c2cac38aaa3c79c31c7118d1"), looks := false }, kinds := [], alts := [], laidByText := true, laidKinds := [.data, .data, .data], laidTests := true, laidLooks := .later }
def SeedOrdersUptoCardSaid : Prop := Claim7.holds Tryd.pinned (.plain (OpenSpec.upto seedOrdersSpec)) seedOrdersUptoCard

/-- THE SECOND FORM's CARD OF 'gambrellaw05.SeedNames'. -/
def seedNamesUptoCard : Claim7 := { stood := { row := seedNamesUptoRow, standIns := [], harness := (true, "acc6c172d095810353e2faaa2be0ffcf13b08061c2cac38aaa3c79c31c7118d1"), looks := false }, kinds := [], alts := [], laidByText := true, laidKinds := [.data, .data, .data], laidTests := true, laidLooks := .later }
def SeedNamesUptoCardSaid : Prop := Claim7.holds Tryd.pinned (.plain (OpenSpec.upto seedNamesSpec)) seedNamesUptoCard

/-- THE SECOND FORM's CARD OF 'gambrellaw05.SeedSame'. -/
def seedSameUptoCard : Claim7 := { stood := { row := seedSameUptoRow, standIns := [], harness := (true, "acc6c172d095810353e2faaa2be0ffcf13b08061c2cac38aaa3c79c31c7118d1"), looks := false }, kinds := [], alts := [], laidByText := true, laidKinds := [.data, .data, .data], laidTests := true, laidLooks := .later }
def SeedSameUptoCardSaid : Prop := Claim7.holds Tryd.pinned (.plain (OpenSpec.upto seedSameSpec)) seedSameUptoCard
end Rows
end Go.Proofs.YtcdmmejicmbagaaDoor
