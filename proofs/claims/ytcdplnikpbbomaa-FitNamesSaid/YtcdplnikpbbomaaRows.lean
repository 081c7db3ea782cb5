/-
  No cell of these rows narrows 'for every input' (looked for: loops, veiled, ifaces, maps, wideKeys, modest, calm, conditions, laid).
  DERIVED. THE GIVEN ROWS OF THIS SEAT. 7 by the template 'for every input the law returns true; each argument reads behind the call as it read before'; 0 by the template 'total and deterministic' (their statements: YtcdplnikpbbomaaTotals.lean).
  GIVEN WITH THE SEED: the statements are not yours to turn. If you find one false, say at which input.
  Laid BY PROGRAM, IN A SANDBOX (cutbox-rows.mjs): the forced cells as the released guide's own fill.sh prints them over the translation 9411428bbf027de5… (all of the seat's roots in one cut). By AI agents, Wed Nov 11 2026. No macro, syntax, notation, axiom, sorry.
-/
import Derived.Test.YtcdplnikpbbomaaChecked
import GoSem.Claim
import GoSem.ClaimJoined
import GoSem.ClaimMapViews
import Derived.JoinedTies
import Derived.KernelRfl
namespace Go.Proofs.Ytcdplnikpbbomaa
/- THE CELL 'sum', in the pinned program and in every row, IS THE sha256 OF THE DUMP (.gsa) THAT YtcdplnikpbbomaaProg.lean LOADS. Nothing in Lean hashes anything: it is a label: what it is worth is what the hold of that sum in a sandbox is worth. -/
noncomputable def Try.pinned : Pinned := { name := "ytcdplnikpbbomaa", sum := "9411428bbf027de56bb2d13985f61d56a174cf2525174d4458e06c0b7efbb9fa", checked := Try.checked }
namespace Rows
def none {H : Type} : Left H := { results := [], args := [] }

/-- 'gambrellaw43.FitCosts': WHATEVER THE INPUT: true; the input reads as it did. -/
def fitCostsSpec : ChangeSpec := { name := "fitCosts", fn := fun _ => fun
  | [d1, d2, d3] => { results := [.lit (.bool true)], args := [d1, d2, d3] }
  | _ => none }
def fitCostsRow : OpenClaim := { program := "ytcdplnikpbbomaa", sum := "9411428bbf027de56bb2d13985f61d56a174cf2525174d4458e06c0b7efbb9fa", func := "gambrel/gambrellaw43.FitCosts", spec := "fitCosts", inPlace := ["internal/bytealg.IndexByteString"], apart := false }
def FitCostsSaid : Prop := fitCostsRow.holds Try.pinned (OpenSpec.ofChange fitCostsSpec)

/-- ITS FALSE NEIGHBOUR: 'it returns false'. Refute it at one input. -/
def fitCostsWrong : ChangeSpec := { name := "fitCosts", fn := fun _ => fun
  | [d1, d2, d3] => { results := [.lit (.bool false)], args := [d1, d2, d3] }
  | _ => none }
def FitCostsWrongFalsely : Prop := fitCostsRow.holds Try.pinned (OpenSpec.ofChange fitCostsWrong)

/-- 'gambrellaw43.FitProofs': WHATEVER THE INPUT: true; the input reads as it did. -/
def fitProofsSpec : ChangeSpec := { name := "fitProofs", fn := fun _ => fun
  | [d1, d2, d3] => { results := [.lit (.bool true)], args := [d1, d2, d3] }
  | _ => none }
def fitProofsRow : OpenClaim := { program := "ytcdplnikpbbomaa", sum := "9411428bbf027de56bb2d13985f61d56a174cf2525174d4458e06c0b7efbb9fa", func := "gambrel/gambrellaw43.FitProofs", spec := "fitProofs", inPlace := ["internal/bytealg.IndexByteString"], unfollowed := true, recurses := true, apart := false }
def FitProofsSaid : Prop := fitProofsRow.holds Try.pinned (OpenSpec.ofChange fitProofsSpec)

/-- ITS FALSE NEIGHBOUR: 'it returns false'. Refute it at one input. -/
def fitProofsWrong : ChangeSpec := { name := "fitProofs", fn := fun _ => fun
  | [d1, d2, d3] => { results := [.lit (.bool false)], args := [d1, d2, d3] }
  | _ => none }
def FitProofsWrongFalsely : Prop := fitProofsRow.holds Try.pinned (OpenSpec.ofChange fitProofsWrong)

/-- 'gambrellaw43.FitNames': WHATEVER THE INPUT: true; the input reads as it did. -/
def fitNamesSpec : ChangeSpec := { name := "fitNames", fn := fun _ => fun
  | [] => { results := [.lit (.bool true)], args := [] }
  | _ => none }
def fitNamesRow : OpenClaim := { program := "ytcdplnikpbbomaa", sum := "9411428bbf027de56bb2d13985f61d56a174cf2525174d4458e06c0b7efbb9fa", func := "gambrel/gambrellaw43.FitNames", spec := "fitNames", inPlace := ["internal/bytealg.IndexByteString"], unfollowed := true, recurses := true, apart := false }
def FitNamesSaid : Prop := fitNamesRow.holds Try.pinned (OpenSpec.ofChange fitNamesSpec)

/-- ITS FALSE NEIGHBOUR: 'it returns false'. Refute it at one input. -/
def fitNamesWrong : ChangeSpec := { name := "fitNames", fn := fun _ => fun
  | [] => { results := [.lit (.bool false)], args := [] }
  | _ => none }
def FitNamesWrongFalsely : Prop := fitNamesRow.holds Try.pinned (OpenSpec.ofChange fitNamesWrong)

/-- 'gambrellaw43.FitSound': WHATEVER THE INPUT: true; the input reads as it did. -/
def fitSoundSpec : ChangeSpec := { name := "fitSound", fn := fun _ => fun
  | [d1, d2, d3, d4] => { results := [.lit (.bool true)], args := [d1, d2, d3, d4] }
  | _ => none }
def fitSoundRow : OpenClaim := { program := "ytcdplnikpbbomaa", sum := "9411428bbf027de56bb2d13985f61d56a174cf2525174d4458e06c0b7efbb9fa", func := "gambrel/gambrellaw43.FitSound", spec := "fitSound", inPlace := ["internal/bytealg.IndexByteString"], unfollowed := true, recurses := true, apart := false }
def FitSoundSaid : Prop := fitSoundRow.holds Try.pinned (OpenSpec.ofChange fitSoundSpec)

/-- ITS FALSE NEIGHBOUR: 'it returns false'. Refute it at one input. -/
def fitSoundWrong : ChangeSpec := { name := "fitSound", fn := fun _ => fun
  | [d1, d2, d3, d4] => { results := [.lit (.bool false)], args := [d1, d2, d3, d4] }
  | _ => none }
def FitSoundWrongFalsely : Prop := fitSoundRow.holds Try.pinned (OpenSpec.ofChange fitSoundWrong)

/-- 'gambrellaw43.FitBest': WHATEVER THE INPUT: true; the input reads as it did. -/
def fitBestSpec : ChangeSpec := { name := "fitBest", fn := fun _ => fun
  | [d1, d2] => { results := [.lit (.bool true)], args := [d1, d2] }
  | _ => none }
def fitBestRow : OpenClaim := { program := "ytcdplnikpbbomaa", sum := "9411428bbf027de56bb2d13985f61d56a174cf2525174d4458e06c0b7efbb9fa", func := "gambrel/gambrellaw43.FitBest", spec := "fitBest", inPlace := ["internal/bytealg.IndexByteString"], unfollowed := true, recurses := true, apart := false }
def FitBestSaid : Prop := fitBestRow.holds Try.pinned (OpenSpec.ofChange fitBestSpec)

/-- ITS FALSE NEIGHBOUR: 'it returns false'. Refute it at one input. -/
def fitBestWrong : ChangeSpec := { name := "fitBest", fn := fun _ => fun
  | [d1, d2] => { results := [.lit (.bool false)], args := [d1, d2] }
  | _ => none }
def FitBestWrongFalsely : Prop := fitBestRow.holds Try.pinned (OpenSpec.ofChange fitBestWrong)

/-- 'gambrellaw43.FitBounds': WHATEVER THE INPUT: true; the input reads as it did. -/
def fitBoundsSpec : ChangeSpec := { name := "fitBounds", fn := fun _ => fun
  | [d1, d2, d3] => { results := [.lit (.bool true)], args := [d1, d2, d3] }
  | _ => none }
def fitBoundsRow : OpenClaim := { program := "ytcdplnikpbbomaa", sum := "9411428bbf027de56bb2d13985f61d56a174cf2525174d4458e06c0b7efbb9fa", func := "gambrel/gambrellaw43.FitBounds", spec := "fitBounds", inPlace := ["internal/bytealg.IndexByteString"], unfollowed := true, recurses := true, apart := false }
def FitBoundsSaid : Prop := fitBoundsRow.holds Try.pinned (OpenSpec.ofChange fitBoundsSpec)

/-- ITS FALSE NEIGHBOUR: 'it returns false'. Refute it at one input. -/
def fitBoundsWrong : ChangeSpec := { name := "fitBounds", fn := fun _ => fun
  | [d1, d2, d3] => { results := [.lit (.bool false)], args := [d1, d2, d3] }
  | _ => none }
def FitBoundsWrongFalsely : Prop := fitBoundsRow.holds Try.pinned (OpenSpec.ofChange fitBoundsWrong)

/-- 'gambrellaw43.FitShifts': WHATEVER THE INPUT: true; the input reads as it did. -/
def fitShiftsSpec : ChangeSpec := { name := "fitShifts", fn := fun _ => fun
  | [d1, d2, d3] => { results := [.lit (.bool true)], args := [d1, d2, d3] }
  | _ => none }
def fitShiftsRow : OpenClaim := { program := "ytcdplnikpbbomaa", sum := "9411428bbf027de56bb2d13985f61d56a174cf2525174d4458e06c0b7efbb9fa", func := "gambrel/gambrellaw43.FitShifts", spec := "fitShifts", inPlace := ["internal/bytealg.IndexByteString"], unfollowed := true, recurses := true, apart := false }
def FitShiftsSaid : Prop := fitShiftsRow.holds Try.pinned (OpenSpec.ofChange fitShiftsSpec)

/-- ITS FALSE NEIGHBOUR: 'it returns false'. Refute it at one input. -/
def fitShiftsWrong : ChangeSpec := { name := "fitShifts", fn := fun _ => fun
  | [d1, d2, d3] => { results := [.lit (.bool false)], args := [d1, d2, d3] }
  | _ => none }
def FitShiftsWrongFalsely : Prop := fitShiftsRow.holds Try.pinned (OpenSpec.ofChange fitShiftsWrong)

/- THE SECOND FORM. 'bulk': how many values and letters a reading holds, each counted each time it is reached (what is shared counts as often as it is met; a slice's spare places count too). A statement '..UptoSaid' is the law's where the arguments, and the package variables that the reading takes, are together of bulk at most 1048576: NARROWER than '..Said'. Prove '..Said' where nothing that the law and all that it calls make is longer than what came in: it says more and counts as full. Else prove '..UptoSaid'. A law counts once. -/
mutual
def uptoBulk {H : Type} : DataW H → Nat
  | .lit (.string bytes) => bytes.length + 1
  | .lit _ => 1
  | .nil => 1
  | .ptr d => uptoBulk d + 1
  | .slice elems spare => uptoBulkAll elems + uptoBulkAll spare + 1
  | .agg parts => uptoBulkAll parts + 1
  | .iface _ d => uptoBulk d + 1
  | .map entries => uptoBulkEntries entries + 1
  | .held _ => 1
def uptoBulkAll {H : Type} : List (DataW H) → Nat
  | [] => 0
  | d :: r => uptoBulk d + uptoBulkAll r
def uptoBulkEntries {H : Type} : List (Lit × DataW H) → Nat
  | [] => 0
  | x :: r => uptoBulkEntry x + uptoBulkEntries r
def uptoBulkEntry {H : Type} : Lit × DataW H → Nat
  | (.string bytes, d) => bytes.length + uptoBulk d + 1
  | (_, d) => uptoBulk d + 1
 end
def uptoSmall : (H : Type) → List (DataW H) → Bool := fun _ ds => decide (uptoBulkAll ds ≤ 1048576)
def OpenSpec.upto (s : _root_.Go.ChangeSpec) : _root_.Go.OpenSpec := { _root_.Go.OpenSpec.ofChange s with cond := some uptoSmall }

/-- 'gambrellaw43.FitCosts', WHERE WHAT IT READS IS OF BULK AT MOST 1048576: true; the input reads as it did. -/
def fitCostsUptoRow : OpenClaim := { program := "ytcdplnikpbbomaa", sum := "9411428bbf027de56bb2d13985f61d56a174cf2525174d4458e06c0b7efbb9fa", func := "gambrel/gambrellaw43.FitCosts", spec := "fitCosts", inPlace := ["internal/bytealg.IndexByteString"], apart := false, narrowed := true }
def FitCostsUptoSaid : Prop := fitCostsUptoRow.holds Try.pinned (OpenSpec.upto fitCostsSpec)

/-- 'gambrellaw43.FitProofs', WHERE WHAT IT READS IS OF BULK AT MOST 1048576: true; the input reads as it did. -/
def fitProofsUptoRow : OpenClaim := { program := "ytcdplnikpbbomaa", sum := "9411428bbf027de56bb2d13985f61d56a174cf2525174d4458e06c0b7efbb9fa", func := "gambrel/gambrellaw43.FitProofs", spec := "fitProofs", inPlace := ["internal/bytealg.IndexByteString"], unfollowed := true, recurses := true, apart := false, narrowed := true }
def FitProofsUptoSaid : Prop := fitProofsUptoRow.holds Try.pinned (OpenSpec.upto fitProofsSpec)

/-- 'gambrellaw43.FitNames', WHERE WHAT IT READS IS OF BULK AT MOST 1048576: true; the input reads as it did. -/
def fitNamesUptoRow : OpenClaim := { program := "ytcdplnikpbbomaa", sum := "9411428bbf027de56bb2d13985f61d56a174cf2525174d4458e06c0b7efbb9fa", func := "gambrel/gambrellaw43.FitNames", spec := "fitNames", inPlace := ["internal/bytealg.IndexByteString"], unfollowed := true, recurses := true, apart := false, narrowed := true }
def FitNamesUptoSaid : Prop := fitNamesUptoRow.holds Try.pinned (OpenSpec.upto fitNamesSpec)

/-- 'gambrellaw43.FitSound', WHERE WHAT IT READS IS OF BULK AT MOST 1048576: true; the input reads as it did. -/
def fitSoundUptoRow : OpenClaim := { program := "ytcdplnikpbbomaa", sum := "9411428bbf027de56bb2d13985f61d56a174cf2525174d4458e06c0b7efbb9fa", func := "gambrel/gambrellaw43.FitSound", spec := "fitSound", inPlace := ["internal/bytealg.IndexByteString"], unfollowed := true, recurses := true, apart := false, narrowed := true }
def FitSoundUptoSaid : Prop := fitSoundUptoRow.holds Try.pinned (OpenSpec.upto fitSoundSpec)

/-- 'gambrellaw43.FitBest', WHERE WHAT IT READS IS OF BULK AT MOST 1048576: true; the input reads as it did. -/
def fitBestUptoRow : OpenClaim := { program := "ytcdplnikpbbomaa", sum := "9411428bbf027de56bb2d13985f61d56a174cf2525174d4458e06c0b7efbb9fa", func := "gambrel/gambrellaw43.FitBest", spec := "fitBest", inPlace := ["internal/bytealg.IndexByteString"], unfollowed := true, recurses := true, apart := false, narrowed := true }
def FitBestUptoSaid : Prop := fitBestUptoRow.holds Try.pinned (OpenSpec.upto fitBestSpec)

/-- 'gambrellaw43.FitBounds', WHERE WHAT IT READS IS OF BULK AT MOST 1048576: true; the input reads as it did. -/
def fitBoundsUptoRow : OpenClaim := { program := "ytcdplnikpbbomaa", sum := "9411428bbf027de56bb2d13985f61d56a174cf2525174d4458e06c0b7efbb9fa", func := "gambrel/gambrellaw43.FitBounds", spec := "fitBounds", inPlace := ["internal/bytealg.IndexByteString"], unfollowed := true, recurses := true, apart := false, narrowed := true }
def FitBoundsUptoSaid : Prop := fitBoundsUptoRow.holds Try.pinned (OpenSpec.upto fitBoundsSpec)

/-- 'gambrellaw43.FitShifts', WHERE WHAT IT READS IS OF BULK AT MOST 1048576: true; the input reads as it did. -/
def fitShiftsUptoRow : OpenClaim := { program := "ytcdplnikpbbomaa", sum := "9411428bbf027de56bb2d13985f61d56a174cf2525174d4458e06c0b7efbb9fa", func := "gambrel/gambrellaw43.FitShifts", spec := "fitShifts", inPlace := ["internal/bytealg.IndexByteString"], unfollowed := true, recurses := true, apart := false, narrowed := true }
def FitShiftsUptoSaid : Prop := fitShiftsUptoRow.holds Try.pinned (OpenSpec.upto fitShiftsSpec)

end Rows
end Go.Proofs.Ytcdplnikpbbomaa
