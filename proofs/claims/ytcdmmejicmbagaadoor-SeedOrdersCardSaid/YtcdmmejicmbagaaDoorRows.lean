/-
  NARROWER THAN 'FOR EVERY INPUT', by the rows' own cells (each row's printed sentence says how): SeedPicks: laid · SeedFair: laid · SeedApart: laid · SeedOrders: laid · SeedNames: laid · SeedSame: laid.
  DERIVED. THE GIVEN ROWS OF THIS SEAT. 6 by the template 'for every input the law returns true; each argument reads behind the call as it read before'; 0 by the template 'total and deterministic' (their statements: YtcdmmejicmbagaaDoorTotals.lean).
  GIVEN WITH THE SEED: the statements are not yours to turn. If you find one false, say at which input.
  Laid BY PROGRAM, IN A SANDBOX (cutbox-rows.mjs): the forced cells as the released guide's own fill.sh prints them over the translation 050a797eb3e08e73… (all of the seat's roots in one cut). By AI agents, Wed Nov 11 2026. No macro, syntax, notation, axiom, sorry.
-/
import Derived.Test.YtcdmmejicmbagaaDoorChecked
import GoSem.Claim
import GoSem.ClaimJoined
import GoSem.ClaimMapViews
import Derived.JoinedTies
import Derived.KernelRfl
namespace Go.Proofs.YtcdmmejicmbagaaDoor
/- THE CELL 'sum', in the pinned program and in every row, IS THE sha256 OF THE DUMP (.gsa) THAT YtcdmmejicmbagaaDoorProg.lean LOADS. Nothing in Lean hashes anything: it is a label: what it is worth is what the hold of that sum in a sandbox is worth. -/
noncomputable def Tryd.pinned : Pinned := { name := "ytcdmmejicmbagaadoor", sum := "050a797eb3e08e731201780e669400cfc2839cb31b86f63b8d1e1408606b1da1", checked := Tryd.checked }
namespace Rows
def none {H : Type} : Left H := { results := [], args := [] }

/- WHAT THE LISTED PACKAGE-LEVEL VARIABLES READ AS WHEN THE CALL BEGINS. Each datum BY PROGRAM (the guide's laid-datum.mjs) off the statement by which the dump's own 'gosem.cut.vars' lays the variable. In a bare row this is a premise. The card (YtcdmmejicmbagaaDoorCards.lean) ties it to the program's text. -/
def laid_math_bits_deBruijn32tab {H : Type} : DataW H := .agg [.lit (.int .u8 0), .lit (.int .u8 1), .lit (.int .u8 28), .lit (.int .u8 2), .lit (.int .u8 29), .lit (.int .u8 14), .lit (.int .u8 24), .lit (.int .u8 3), .lit (.int .u8 30), .lit (.int .u8 22), .lit (.int .u8 20), .lit (.int .u8 15), .lit (.int .u8 25), .lit (.int .u8 17), .lit (.int .u8 4), .lit (.int .u8 8), .lit (.int .u8 31), .lit (.int .u8 27), .lit (.int .u8 13), .lit (.int .u8 23), .lit (.int .u8 21), .lit (.int .u8 19), .lit (.int .u8 16), .lit (.int .u8 7), .lit (.int .u8 26), .lit (.int .u8 12), .lit (.int .u8 18), .lit (.int .u8 6), .lit (.int .u8 11), .lit (.int .u8 5), .lit (.int .u8 10), .lit (.int .u8 9)]
def laid_math_bits_deBruijn64tab {H : Type} : DataW H := .agg [.lit (.int .u8 0), .lit (.int .u8 1), .lit (.int .u8 56), .lit (.int .u8 2), .lit (.int .u8 57), .lit (.int .u8 49), .lit (.int .u8 28), .lit (.int .u8 3), .lit (.int .u8 61), .lit (.int .u8 58), .lit (.int .u8 42), .lit (.int .u8 50), .lit (.int .u8 38), .lit (.int .u8 29), .lit (.int .u8 17), .lit (.int .u8 4), .lit (.int .u8 62), .lit (.int .u8 47), .lit (.int .u8 59), .lit (.int .u8 36), .lit (.int .u8 45), .lit (.int .u8 43), .lit (.int .u8 51), .lit (.int .u8 22), .lit (.int .u8 53), .lit (.int .u8 39), .lit (.int .u8 33), .lit (.int .u8 30), .lit (.int .u8 24), .lit (.int .u8 18), .lit (.int .u8 12), .lit (.int .u8 5), .lit (.int .u8 63), .lit (.int .u8 55), .lit (.int .u8 48), .lit (.int .u8 27), .lit (.int .u8 60), .lit (.int .u8 41), .lit (.int .u8 37), .lit (.int .u8 16), .lit (.int .u8 46), .lit (.int .u8 35), .lit (.int .u8 44), .lit (.int .u8 21), .lit (.int .u8 52), .lit (.int .u8 32), .lit (.int .u8 23), .lit (.int .u8 11), .lit (.int .u8 54), .lit (.int .u8 26), .lit (.int .u8 40), .lit (.int .u8 15), .lit (.int .u8 34), .lit (.int .u8 20), .lit (.int .u8 31), .lit (.int .u8 10), .lit (.int .u8 25), .lit (.int .u8 14), .lit (.int .u8 19), .lit (.int .u8 9), .lit (.int .u8 13), .lit (.int .u8 8), .lit (.int .u8 7), .lit (.int .u8 6)]
def laid_internal_strconv_uint64pow10 {H : Type} : DataW H := .agg [.lit (.int .u64 1), .lit (.int .u64 10), .lit (.int .u64 100), .lit (.int .u64 1000), .lit (.int .u64 10000), .lit (.int .u64 100000), .lit (.int .u64 1000000), .lit (.int .u64 10000000), .lit (.int .u64 100000000), .lit (.int .u64 1000000000), .lit (.int .u64 10000000000), .lit (.int .u64 100000000000), .lit (.int .u64 1000000000000), .lit (.int .u64 10000000000000), .lit (.int .u64 100000000000000), .lit (.int .u64 1000000000000000), .lit (.int .u64 10000000000000000), .lit (.int .u64 100000000000000000), .lit (.int .u64 1000000000000000000), .lit (.int .u64 10000000000000000000)]

/-- 'gambrellaw05.SeedPicks': WHATEVER THE INPUT: true; the input reads as it did. -/
def seedPicksSpec : ChangeSpec := { name := "seedPicks", fn := fun _ => fun
  | [d1, d2, d3, d4, d5] => { results := [.lit (.bool true)], args := [d1, d2, d3, d4, d5] }
  | _ => none }
def seedPicksRow : OpenClaim := { program := "ytcdmmejicmbagaadoor", sum := "050a797eb3e08e731201780e669400cfc2839cb31b86f63b8d1e1408606b1da1", func := "gambrel/gambrellaw05.SeedPicks", spec := "seedPicks", unfollowed := true, recurses := true, named := ["internal/strconv.uint64pow10", "math/bits.deBruijn32tab", "math/bits.deBruijn64tab"], apart := false, laid := [("math/bits.deBruijn32tab", laid_math_bits_deBruijn32tab), ("math/bits.deBruijn64tab", laid_math_bits_deBruijn64tab), ("internal/strconv.uint64pow10", laid_internal_strconv_uint64pow10)] }
def SeedPicksSaid : Prop := seedPicksRow.holds Tryd.pinned (OpenSpec.ofChange seedPicksSpec)

/-- ITS FALSE NEIGHBOUR: 'it returns false'. Refute it at one input. -/
def seedPicksWrong : ChangeSpec := { name := "seedPicks", fn := fun _ => fun
  | [d1, d2, d3, d4, d5] => { results := [.lit (.bool false)], args := [d1, d2, d3, d4, d5] }
  | _ => none }
def SeedPicksWrongFalsely : Prop := seedPicksRow.holds Tryd.pinned (OpenSpec.ofChange seedPicksWrong)

/-- 'gambrellaw05.SeedFair': WHATEVER THE INPUT: true; the input reads as it did. -/
def seedFairSpec : ChangeSpec := { name := "seedFair", fn := fun _ => fun
  | [d1, d2] => { results := [.lit (.bool true)], args := [d1, d2] }
  | _ => none }
def seedFairRow : OpenClaim := { program := "ytcdmmejicmbagaadoor", sum := "050a797eb3e08e731201780e669400cfc2839cb31b86f63b8d1e1408606b1da1", func := "gambrel/gambrellaw05.SeedFair", spec := "seedFair", unfollowed := true, recurses := true, named := ["internal/strconv.uint64pow10", "math/bits.deBruijn32tab", "math/bits.deBruijn64tab"], apart := false, laid := [("math/bits.deBruijn32tab", laid_math_bits_deBruijn32tab), ("math/bits.deBruijn64tab", laid_math_bits_deBruijn64tab), ("internal/strconv.uint64pow10", laid_internal_strconv_uint64pow10)] }
def SeedFairSaid : Prop := seedFairRow.holds Tryd.pinned (OpenSpec.ofChange seedFairSpec)

/-- ITS FALSE NEIGHBOUR: 'it returns false'. Refute it at one input. -/
def seedFairWrong : ChangeSpec := { name := "seedFair", fn := fun _ => fun
  | [d1, d2] => { results := [.lit (.bool false)], args := [d1, d2] }
  | _ => none }
def SeedFairWrongFalsely : Prop := seedFairRow.holds Tryd.pinned (OpenSpec.ofChange seedFairWrong)

/-- 'gambrellaw05.SeedApart': WHATEVER THE INPUT: true; the input reads as it did. -/
def seedApartSpec : ChangeSpec := { name := "seedApart", fn := fun _ => fun
  | [d1, d2, d3, d4, d5] => { results := [.lit (.bool true)], args := [d1, d2, d3, d4, d5] }
  | _ => none }
def seedApartRow : OpenClaim := { program := "ytcdmmejicmbagaadoor", sum := "050a797eb3e08e731201780e669400cfc2839cb31b86f63b8d1e1408606b1da1", func := "gambrel/gambrellaw05.SeedApart", spec := "seedApart", unfollowed := true, recurses := true, named := ["internal/strconv.uint64pow10", "math/bits.deBruijn32tab", "math/bits.deBruijn64tab"], apart := false, laid := [("math/bits.deBruijn32tab", laid_math_bits_deBruijn32tab), ("math/bits.deBruijn64tab", laid_math_bits_deBruijn64tab), ("internal/strconv.uint64pow10", laid_internal_strconv_uint64pow10)] }
def SeedApartSaid : Prop := seedApartRow.holds Tryd.pinned (OpenSpec.ofChange seedApartSpec)

/-- ITS FALSE NEIGHBOUR: 'it returns false'. Refute it at one input. -/
def seedApartWrong : ChangeSpec := { name := "seedApart", fn := fun _ => fun
  | [d1, d2, d3, d4, d5] => { results := [.lit (.bool false)], args := [d1, d2, d3, d4, d5] }
  | _ => none }
def SeedApartWrongFalsely : Prop := seedApartRow.holds Tryd.pinned (OpenSpec.ofChange seedApartWrong)

/-- 'gambrellaw05.SeedOrders': WHATEVER THE INPUT: true; the input reads as it did. -/
def seedOrdersSpec : ChangeSpec := { name := "seedOrders", fn := fun _ => fun
  | [d1, d2, d3] => { results := [.lit (.bool true)], args := [d1, d2, d3] }
  | _ => none }
def seedOrdersRow : OpenClaim := { program := "ytcdmmejicmbagaadoor", sum := "050a797eb3e08e731201780e669400cfc2839cb31b86f63b8d1e1408606b1da1", func := "gambrel/gambrellaw05.SeedOrders", spec := "seedOrders", unfollowed := true, recurses := true, named := ["internal/strconv.uint64pow10", "math/bits.deBruijn32tab", "math/bits.deBruijn64tab"], apart := false, laid := [("math/bits.deBruijn32tab", laid_math_bits_deBruijn32tab), ("math/bits.deBruijn64tab", laid_math_bits_deBruijn64tab), ("internal/strconv.uint64pow10", laid_internal_strconv_uint64pow10)] }
def SeedOrdersSaid : Prop := seedOrdersRow.holds Tryd.pinned (OpenSpec.ofChange seedOrdersSpec)

/-- ITS FALSE NEIGHBOUR: 'it returns false'. Refute it at one input. -/
def seedOrdersWrong : ChangeSpec := { name := "seedOrders", fn := fun _ => fun
  | [d1, d2, d3] => { results := [.lit (.bool false)], args := [d1, d2, d3] }
  | _ => none }
def SeedOrdersWrongFalsely : Prop := seedOrdersRow.holds Tryd.pinned (OpenSpec.ofChange seedOrdersWrong)

/-- 'gambrellaw05.SeedNames': WHATEVER THE INPUT: true; the input reads as it did. -/
def seedNamesSpec : ChangeSpec := { name := "seedNames", fn := fun _ => fun
  | [] => { results := [.lit (.bool true)], args := [] }
  | _ => none }
def seedNamesRow : OpenClaim := { program := "ytcdmmejicmbagaadoor", sum := "050a797eb3e08e731201780e669400cfc2839cb31b86f63b8d1e1408606b1da1", func := "gambrel/gambrellaw05.SeedNames", spec := "seedNames", unfollowed := true, recurses := true, named := ["internal/strconv.uint64pow10", "math/bits.deBruijn32tab", "math/bits.deBruijn64tab"], apart := false, laid := [("math/bits.deBruijn32tab", laid_math_bits_deBruijn32tab), ("math/bits.deBruijn64tab", laid_math_bits_deBruijn64tab), ("internal/strconv.uint64pow10", laid_internal_strconv_uint64pow10)] }
def SeedNamesSaid : Prop := seedNamesRow.holds Tryd.pinned (OpenSpec.ofChange seedNamesSpec)

/-- ITS FALSE NEIGHBOUR: 'it returns false'. Refute it at one input. -/
def seedNamesWrong : ChangeSpec := { name := "seedNames", fn := fun _ => fun
  | [] => { results := [.lit (.bool false)], args := [] }
  | _ => none }
def SeedNamesWrongFalsely : Prop := seedNamesRow.holds Tryd.pinned (OpenSpec.ofChange seedNamesWrong)

/-- 'gambrellaw05.SeedSame': WHATEVER THE INPUT: true; the input reads as it did. -/
def seedSameSpec : ChangeSpec := { name := "seedSame", fn := fun _ => fun
  | [d1, d2, d3, d4] => { results := [.lit (.bool true)], args := [d1, d2, d3, d4] }
  | _ => none }
def seedSameRow : OpenClaim := { program := "ytcdmmejicmbagaadoor", sum := "050a797eb3e08e731201780e669400cfc2839cb31b86f63b8d1e1408606b1da1", func := "gambrel/gambrellaw05.SeedSame", spec := "seedSame", unfollowed := true, recurses := true, named := ["internal/strconv.uint64pow10", "math/bits.deBruijn32tab", "math/bits.deBruijn64tab"], apart := false, laid := [("math/bits.deBruijn32tab", laid_math_bits_deBruijn32tab), ("math/bits.deBruijn64tab", laid_math_bits_deBruijn64tab), ("internal/strconv.uint64pow10", laid_internal_strconv_uint64pow10)] }
def SeedSameSaid : Prop := seedSameRow.holds Tryd.pinned (OpenSpec.ofChange seedSameSpec)

/-- ITS FALSE NEIGHBOUR: 'it returns false'. Refute it at one input. -/
def seedSameWrong : ChangeSpec := { name := "seedSame", fn := fun _ => fun
  | [d1, d2, d3, d4] => { results := [.lit (.bool false)], args := [d1, d2, d3, d4] }
  | _ => none }
def SeedSameWrongFalsely : Prop := seedSameRow.holds Tryd.pinned (OpenSpec.ofChange seedSameWrong)

/- THE SECOND FORM. 'bulk': how many values and letters a reading holds, each counted each time it is reached (what is shared counts as often as it is met; a slice's spare places count too). A statement '..UptoSaid' is the law's where the arguments, and the package variables that the reading takes, are together of bulk at most 1048576: NARROWER than '..Said'. Prove '..Said' where nothing that the law and all that it calls make is longer than what came in: it says more and counts as full. Else prove '..UptoSaid'. A law counts once. -/
mutual
def uptoBulk {H : Type} : DataW H → Nat
  | .lit (.string bytes) => bytes.length + 1
  | .lit _ => 1
  | .nil => 1
  | .ptr d => uptoBulk d + 1
  | .slice elems spare => uptoBulkAll elems + uptoBulkAll spare + 1
  | .agg parts => uptoBulkAll parts + 1
  | .iface _ d => uptoBulk d + 1
  | .map entries => uptoBulkEntries entries + 1
  | .held _ => 1
def uptoBulkAll {H : Type} : List (DataW H) → Nat
  | [] => 0
  | d :: r => uptoBulk d + uptoBulkAll r
def uptoBulkEntries {H : Type} : List (Lit × DataW H) → Nat
  | [] => 0
  | x :: r => uptoBulkEntry x + uptoBulkEntries r
def uptoBulkEntry {H : Type} : Lit × DataW H → Nat
  | (.string bytes, d) => bytes.length + uptoBulk d + 1
  | (_, d) => uptoBulk d + 1
 end
def uptoSmall : (H : Type) → List (DataW H) → Bool := fun _ ds => decide (uptoBulkAll ds ≤ 1048576)
def OpenSpec.upto (s : _root_.Go.ChangeSpec) : _root_.Go.OpenSpec := { _root_.Go.OpenSpec.ofChange s with cond := some uptoSmall }

/-- 'gambrellaw05.SeedPicks', WHERE WHAT IT READS IS OF BULK AT MOST 1048576: true; the input reads as it did. -/
def seedPicksUptoRow : OpenClaim := { program := "ytcdmmejicmbagaadoor", sum := "050a797eb3e08e731201780e669400cfc2839cb31b86f63b8d1e1408606b1da1", func := "gambrel/gambrellaw05.SeedPicks", spec := "seedPicks", unfollowed := true, recurses := true, named := ["internal/strconv.uint64pow10", "math/bits.deBruijn32tab", "math/bits.deBruijn64tab"], apart := false, laid := [("math/bits.deBruijn32tab", laid_math_bits_deBruijn32tab), ("math/bits.deBruijn64tab", laid_math_bits_deBruijn64tab), ("internal/strconv.uint64pow10", laid_internal_strconv_uint64pow10)], narrowed := true }
def SeedPicksUptoSaid : Prop := seedPicksUptoRow.holds Tryd.pinned (OpenSpec.upto seedPicksSpec)

/-- 'gambrellaw05.SeedFair', WHERE WHAT IT READS IS OF BULK AT MOST 1048576: true; the input reads as it did. -/
def seedFairUptoRow : OpenClaim := { program := "ytcdmmejicmbagaadoor", sum := "050a797eb3e08e731201780e669400cfc2839cb31b86f63b8d1e1408606b1da1", func := "gambrel/gambrellaw05.SeedFair", spec := "seedFair", unfollowed := true, recurses := true, named := ["internal/strconv.uint64pow10", "math/bits.deBruijn32tab", "math/bits.deBruijn64tab"], apart := false, laid := [("math/bits.deBruijn32tab", laid_math_bits_deBruijn32tab), ("math/bits.deBruijn64tab", laid_math_bits_deBruijn64tab), ("internal/strconv.uint64pow10", laid_internal_strconv_uint64pow10)], narrowed := true }
def SeedFairUptoSaid : Prop := seedFairUptoRow.holds Tryd.pinned (OpenSpec.upto seedFairSpec)

/-- 'gambrellaw05.SeedApart', WHERE WHAT IT READS IS OF BULK AT MOST 1048576: true; the input reads as it did. -/
def seedApartUptoRow : OpenClaim := { program := "ytcdmmejicmbagaadoor", sum := "050a797eb3e08e731201780e669400cfc2839cb31b86f63b8d1e1408606b1da1", func := "gambrel/gambrellaw05.SeedApart", spec := "seedApart", unfollowed := true, recurses := true, named := ["internal/strconv.uint64pow10", "math/bits.deBruijn32tab", "math/bits.deBruijn64tab"], apart := false, laid := [("math/bits.deBruijn32tab", laid_math_bits_deBruijn32tab), ("math/bits.deBruijn64tab", laid_math_bits_deBruijn64tab), ("internal/strconv.uint64pow10", laid_internal_strconv_uint64pow10)], narrowed := true }
def SeedApartUptoSaid : Prop := seedApartUptoRow.holds Tryd.pinned (OpenSpec.upto seedApartSpec)

/-- 'gambrellaw05.SeedOrders', WHERE WHAT IT READS IS OF BULK AT MOST 1048576: true; the input reads as it did. -/
def seedOrdersUptoRow : OpenClaim := { program := "ytcdmmejicmbagaadoor", sum := "050a797eb3e08e731201780e669400cfc2839cb31b86f63b8d1e1408606b1da1", func := "gambrel/gambrellaw05.SeedOrders", spec := "seedOrders", unfollowed := true, recurses := true, named := ["internal/strconv.uint64pow10", "math/bits.deBruijn32tab", "math/bits.deBruijn64tab"], apart := false, laid := [("math/bits.deBruijn32tab", laid_math_bits_deBruijn32tab), ("math/bits.deBruijn64tab", laid_math_bits_deBruijn64tab), ("internal/strconv.uint64pow10", laid_internal_strconv_uint64pow10)], narrowed := true }
def SeedOrdersUptoSaid : Prop := seedOrdersUptoRow.holds Tryd.pinned (OpenSpec.upto seedOrdersSpec)

/-- 'gambrellaw05.SeedNames', WHERE WHAT IT READS IS OF BULK AT MOST 1048576: true; the input reads as it did. -/
def seedNamesUptoRow : OpenClaim := { program := "ytcdmmejicmbagaadoor", sum := "050a797eb3e08e731201780e669400cfc2839cb31b86f63b8d1e1408606b1da1", func := "gambrel/gambrellaw05.SeedNames", spec := "seedNames", unfollowed := true, recurses := true, named := ["internal/strconv.uint64pow10", "math/bits.deBruijn32tab", "math/bits.deBruijn64tab"], apart := false, laid := [("math/bits.deBruijn32tab", laid_math_bits_deBruijn32tab), ("math/bits.deBruijn64tab", laid_math_bits_deBruijn64tab), ("internal/strconv.uint64pow10", laid_internal_strconv_uint64pow10)], narrowed := true }
def SeedNamesUptoSaid : Prop := seedNamesUptoRow.holds Tryd.pinned (OpenSpec.upto seedNamesSpec)

/-- 'gambrellaw05.SeedSame', WHERE WHAT IT READS IS OF BULK AT MOST 1048576: true; the input reads as it did. -/
def seedSameUptoRow : OpenClaim := { program := "ytcdmmejicmbagaadoor", sum := "050a797eb3e08e731201780e669400cfc2839cb31b86f63b8d1e1408606b1da1", func := "gambrel/gambrellaw05.SeedSame", spec := "seedSame", unfollowed := true, recurses := true, named := ["internal/strconv.uint64pow10", "math/bits.deBruijn32tab", "math/bits.deBruijn64tab"], apart := false, laid := [("math/bits.deBruijn32tab", laid_math_bits_deBruijn32tab), ("math/bits.deBruijn64tab", laid_math_bits_deBruijn64tab), ("internal/strconv.uint64pow10", laid_internal_strconv_uint64pow10)], narrowed := true }
def SeedSameUptoSaid : Prop := seedSameUptoRow.holds Tryd.pinned (OpenSpec.upto seedSameSpec)

end Rows
end Go.Proofs.YtcdmmejicmbagaaDoor
