/-
  No cell of these rows narrows 'for every input' (looked for: loops, veiled, ifaces, maps, wideKeys, modest, calm, conditions, laid).
  DERIVED. THE GIVEN ROWS OF THIS SEAT. 6 by the template 'for every input the law returns true; each argument reads behind the call as it read before'; 0 by the template 'total and deterministic' (their statements: YtdjjhlnhfbcojaaTotals.lean).
  GIVEN WITH THE SEED: the statements are not yours to turn. If you find one false, say at which input.
  Laid BY PROGRAM, IN A SANDBOX (cutbox-rows.mjs): the forced cells as the released guide's own fill.sh prints them over the translation e8a9de3d015412c7… (all of the seat's roots in one cut). By AI agents, Wed Nov 11 2026. No macro, syntax, notation, axiom, sorry.
-/
import Derived.Test.YtdjjhlnhfbcojaaChecked
import GoSem.Claim
import GoSem.ClaimJoined
import GoSem.ClaimMapViews
import Derived.JoinedTies
import Derived.KernelRfl
namespace Go.Proofs.Ytdjjhlnhfbcojaa
/- THE CELL 'sum', in the pinned program and in every row, IS THE sha256 OF THE DUMP (.gsa) THAT YtdjjhlnhfbcojaaProg.lean LOADS. Nothing in Lean hashes anything: it is a label: what it is worth is what the hold of that sum in a sandbox is worth. -/
noncomputable def Try.pinned : Pinned := { name := "ytdjjhlnhfbcojaa", sum := "e8a9de3d015412c74e4fccd28f8e562483324d54241d164c35eed6d9c027341c", checked := Try.checked }
namespace Rows
def none {H : Type} : Left H := { results := [], args := [] }

/-- 'gambrellaw10.GrowthTimes': WHATEVER THE INPUT: true; the input reads as it did. -/
def growthTimesSpec : ChangeSpec := { name := "growthTimes", fn := fun _ => fun
  | [d1, d2] => { results := [.lit (.bool true)], args := [d1, d2] }
  | _ => none }
def growthTimesRow : OpenClaim := { program := "ytdjjhlnhfbcojaa", sum := "e8a9de3d015412c74e4fccd28f8e562483324d54241d164c35eed6d9c027341c", func := "gambrel/gambrellaw10.GrowthTimes", spec := "growthTimes", apart := false }
def GrowthTimesSaid : Prop := growthTimesRow.holds Try.pinned (OpenSpec.ofChange growthTimesSpec)

/-- ITS FALSE NEIGHBOUR: 'it returns false'. Refute it at one input. -/
def growthTimesWrong : ChangeSpec := { name := "growthTimes", fn := fun _ => fun
  | [d1, d2] => { results := [.lit (.bool false)], args := [d1, d2] }
  | _ => none }
def GrowthTimesWrongFalsely : Prop := growthTimesRow.holds Try.pinned (OpenSpec.ofChange growthTimesWrong)

/-- 'gambrellaw10.GrowthCounts': WHATEVER THE INPUT: true; the input reads as it did. -/
def growthCountsSpec : ChangeSpec := { name := "growthCounts", fn := fun _ => fun
  | [d1, d2, d3, d4] => { results := [.lit (.bool true)], args := [d1, d2, d3, d4] }
  | _ => none }
def growthCountsRow : OpenClaim := { program := "ytdjjhlnhfbcojaa", sum := "e8a9de3d015412c74e4fccd28f8e562483324d54241d164c35eed6d9c027341c", func := "gambrel/gambrellaw10.GrowthCounts", spec := "growthCounts", inPlace := ["internal/bytealg.IndexByteString"], apart := false }
def GrowthCountsSaid : Prop := growthCountsRow.holds Try.pinned (OpenSpec.ofChange growthCountsSpec)

/-- ITS FALSE NEIGHBOUR: 'it returns false'. Refute it at one input. -/
def growthCountsWrong : ChangeSpec := { name := "growthCounts", fn := fun _ => fun
  | [d1, d2, d3, d4] => { results := [.lit (.bool false)], args := [d1, d2, d3, d4] }
  | _ => none }
def GrowthCountsWrongFalsely : Prop := growthCountsRow.holds Try.pinned (OpenSpec.ofChange growthCountsWrong)

/-- 'gambrellaw10.GrowthSums': WHATEVER THE INPUT: true; the input reads as it did. -/
def growthSumsSpec : ChangeSpec := { name := "growthSums", fn := fun _ => fun
  | [d1, d2, d3, d4, d5] => { results := [.lit (.bool true)], args := [d1, d2, d3, d4, d5] }
  | _ => none }
def growthSumsRow : OpenClaim := { program := "ytdjjhlnhfbcojaa", sum := "e8a9de3d015412c74e4fccd28f8e562483324d54241d164c35eed6d9c027341c", func := "gambrel/gambrellaw10.GrowthSums", spec := "growthSums", inPlace := ["internal/bytealg.IndexByteString"], apart := false }
def GrowthSumsSaid : Prop := growthSumsRow.holds Try.pinned (OpenSpec.ofChange growthSumsSpec)

/-- ITS FALSE NEIGHBOUR: 'it returns false'. Refute it at one input. -/
def growthSumsWrong : ChangeSpec := { name := "growthSums", fn := fun _ => fun
  | [d1, d2, d3, d4, d5] => { results := [.lit (.bool false)], args := [d1, d2, d3, d4, d5] }
  | _ => none }
def GrowthSumsWrongFalsely : Prop := growthSumsRow.holds Try.pinned (OpenSpec.ofChange growthSumsWrong)

/-- 'gambrellaw10.GrowthNames': WHATEVER THE INPUT: true; the input reads as it did. -/
def growthNamesSpec : ChangeSpec := { name := "growthNames", fn := fun _ => fun
  | [] => { results := [.lit (.bool true)], args := [] }
  | _ => none }
def growthNamesRow : OpenClaim := { program := "ytdjjhlnhfbcojaa", sum := "e8a9de3d015412c74e4fccd28f8e562483324d54241d164c35eed6d9c027341c", func := "gambrel/gambrellaw10.GrowthNames", spec := "growthNames", inPlace := ["internal/bytealg.IndexByteString"], apart := false }
def GrowthNamesSaid : Prop := growthNamesRow.holds Try.pinned (OpenSpec.ofChange growthNamesSpec)

/-- ITS FALSE NEIGHBOUR: 'it returns false'. Refute it at one input. -/
def growthNamesWrong : ChangeSpec := { name := "growthNames", fn := fun _ => fun
  | [] => { results := [.lit (.bool false)], args := [] }
  | _ => none }
def GrowthNamesWrongFalsely : Prop := growthNamesRow.holds Try.pinned (OpenSpec.ofChange growthNamesWrong)

/-- 'gambrellaw10.GrowthPowers': WHATEVER THE INPUT: true; the input reads as it did. -/
def growthPowersSpec : ChangeSpec := { name := "growthPowers", fn := fun _ => fun
  | [d1, d2, d3, d4, d5] => { results := [.lit (.bool true)], args := [d1, d2, d3, d4, d5] }
  | _ => none }
def growthPowersRow : OpenClaim := { program := "ytdjjhlnhfbcojaa", sum := "e8a9de3d015412c74e4fccd28f8e562483324d54241d164c35eed6d9c027341c", func := "gambrel/gambrellaw10.GrowthPowers", spec := "growthPowers", inPlace := ["internal/bytealg.IndexByteString"], apart := false }
def GrowthPowersSaid : Prop := growthPowersRow.holds Try.pinned (OpenSpec.ofChange growthPowersSpec)

/-- ITS FALSE NEIGHBOUR: 'it returns false'. Refute it at one input. -/
def growthPowersWrong : ChangeSpec := { name := "growthPowers", fn := fun _ => fun
  | [d1, d2, d3, d4, d5] => { results := [.lit (.bool false)], args := [d1, d2, d3, d4, d5] }
  | _ => none }
def GrowthPowersWrongFalsely : Prop := growthPowersRow.holds Try.pinned (OpenSpec.ofChange growthPowersWrong)

/-- 'gambrellaw10.GrowthWords': WHATEVER THE INPUT: true; the input reads as it did. -/
def growthWordsSpec : ChangeSpec := { name := "growthWords", fn := fun _ => fun
  | [d1, d2, d3, d4] => { results := [.lit (.bool true)], args := [d1, d2, d3, d4] }
  | _ => none }
def growthWordsRow : OpenClaim := { program := "ytdjjhlnhfbcojaa", sum := "e8a9de3d015412c74e4fccd28f8e562483324d54241d164c35eed6d9c027341c", func := "gambrel/gambrellaw10.GrowthWords", spec := "growthWords", inPlace := ["internal/bytealg.IndexByteString"], unfollowed := true, recurses := true, apart := false }
def GrowthWordsSaid : Prop := growthWordsRow.holds Try.pinned (OpenSpec.ofChange growthWordsSpec)

/-- ITS FALSE NEIGHBOUR: 'it returns false'. Refute it at one input. -/
def growthWordsWrong : ChangeSpec := { name := "growthWords", fn := fun _ => fun
  | [d1, d2, d3, d4] => { results := [.lit (.bool false)], args := [d1, d2, d3, d4] }
  | _ => none }
def GrowthWordsWrongFalsely : Prop := growthWordsRow.holds Try.pinned (OpenSpec.ofChange growthWordsWrong)

/- THE SECOND FORM. 'bulk': how many values and letters a reading holds, each counted each time it is reached (what is shared counts as often as it is met; a slice's spare places count too). A statement '..UptoSaid' is the law's where the arguments, and the package variables that the reading takes, are together of bulk at most 1048576: NARROWER than '..Said'. Prove '..Said' where nothing that the law and all that it calls make is longer than what came in: it says more and counts as full. Else prove '..UptoSaid'. A law counts once. -/
mutual
def uptoBulk {H : Type} : DataW H → Nat
  | .lit (.string bytes) => bytes.length + 1
  | .lit _ => 1
  | .nil => 1
  | .ptr d => uptoBulk d + 1
  | .slice elems spare => uptoBulkAll elems + uptoBulkAll spare + 1
  | .agg parts => uptoBulkAll parts + 1
  | .iface _ d => uptoBulk d + 1
  | .map entries => uptoBulkEntries entries + 1
  | .held _ => 1
def uptoBulkAll {H : Type} : List (DataW H) → Nat
  | [] => 0
  | d :: r => uptoBulk d + uptoBulkAll r
def uptoBulkEntries {H : Type} : List (Lit × DataW H) → Nat
  | [] => 0
  | x :: r => uptoBulkEntry x + uptoBulkEntries r
def uptoBulkEntry {H : Type} : Lit × DataW H → Nat
  | (.string bytes, d) => bytes.length + uptoBulk d + 1
  | (_, d) => uptoBulk d + 1
 end
def uptoSmall : (H : Type) → List (DataW H) → Bool := fun _ ds => decide (uptoBulkAll ds ≤ 1048576)
def OpenSpec.upto (s : _root_.Go.ChangeSpec) : _root_.Go.OpenSpec := { _root_.Go.OpenSpec.ofChange s with cond := some uptoSmall }

/-- 'gambrellaw10.GrowthTimes', WHERE WHAT IT READS IS OF BULK AT MOST 1048576: true; the input reads as it did. -/
def growthTimesUptoRow : OpenClaim := { program := "ytdjjhlnhfbcojaa", sum := "e8a9de3d015412c74e4fccd28f8e562483324d54241d164c35eed6d9c027341c", func := "gambrel/gambrellaw10.GrowthTimes", spec := "growthTimes", apart := false, narrowed := true }
def GrowthTimesUptoSaid : Prop := growthTimesUptoRow.holds Try.pinned (OpenSpec.upto growthTimesSpec)

/-- 'gambrellaw10.GrowthCounts', WHERE WHAT IT READS IS OF BULK AT MOST 1048576: true; the input reads as it did. -/
def growthCountsUptoRow : OpenClaim := { program := "ytdjjhlnhfbcojaa", sum := "e8a9de3d015412c74e4fccd28f8e562483324d54241d164c35eed6d9c027341c", func := "gambrel/gambrellaw10.GrowthCounts", spec := "growthCounts", inPlace := ["internal/bytealg.IndexByteString"], apart := false, narrowed := true }
def GrowthCountsUptoSaid : Prop := growthCountsUptoRow.holds Try.pinned (OpenSpec.upto growthCountsSpec)

/-- 'gambrellaw10.GrowthSums', WHERE WHAT IT READS IS OF BULK AT MOST 1048576: true; the input reads as it did. -/
def growthSumsUptoRow : OpenClaim := { program := "ytdjjhlnhfbcojaa", sum := "e8a9de3d015412c74e4fccd28f8e562483324d54241d164c35eed6d9c027341c", func := "gambrel/gambrellaw10.GrowthSums", spec := "growthSums", inPlace := ["internal/bytealg.IndexByteString"], apart := false, narrowed := true }
def GrowthSumsUptoSaid : Prop := growthSumsUptoRow.holds Try.pinned (OpenSpec.upto growthSumsSpec)

/-- 'gambrellaw10.GrowthNames', WHERE WHAT IT READS IS OF BULK AT MOST 1048576: true; the input reads as it did. -/
def growthNamesUptoRow : OpenClaim := { program := "ytdjjhlnhfbcojaa", sum := "e8a9de3d015412c74e4fccd28f8e562483324d54241d164c35eed6d9c027341c", func := "gambrel/gambrellaw10.GrowthNames", spec := "growthNames", inPlace := ["internal/bytealg.IndexByteString"], apart := false, narrowed := true }
def GrowthNamesUptoSaid : Prop := growthNamesUptoRow.holds Try.pinned (OpenSpec.upto growthNamesSpec)

/-- 'gambrellaw10.GrowthPowers', WHERE WHAT IT READS IS OF BULK AT MOST 1048576: true; the input reads as it did. -/
def growthPowersUptoRow : OpenClaim := { program := "ytdjjhlnhfbcojaa", sum := "e8a9de3d015412c74e4fccd28f8e562483324d54241d164c35eed6d9c027341c", func := "gambrel/gambrellaw10.GrowthPowers", spec := "growthPowers", inPlace := ["internal/bytealg.IndexByteString"], apart := false, narrowed := true }
def GrowthPowersUptoSaid : Prop := growthPowersUptoRow.holds Try.pinned (OpenSpec.upto growthPowersSpec)

/-- 'gambrellaw10.GrowthWords', WHERE WHAT IT READS IS OF BULK AT MOST 1048576: true; the input reads as it did. -/
def growthWordsUptoRow : OpenClaim := { program := "ytdjjhlnhfbcojaa", sum := "e8a9de3d015412c74e4fccd28f8e562483324d54241d164c35eed6d9c027341c", func := "gambrel/gambrellaw10.GrowthWords", spec := "growthWords", inPlace := ["internal/bytealg.IndexByteString"], unfollowed := true, recurses := true, apart := false, narrowed := true }
def GrowthWordsUptoSaid : Prop := growthWordsUptoRow.holds Try.pinned (OpenSpec.upto growthWordsSpec)

end Rows
end Go.Proofs.Ytdjjhlnhfbcojaa
