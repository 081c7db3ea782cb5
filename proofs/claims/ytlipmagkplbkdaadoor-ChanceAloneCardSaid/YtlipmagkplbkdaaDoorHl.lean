/- Texts of the proof that the statement of ChanceAlone holds, several in one. -/
import Derived.Test.YtlipmagkplbkdaaDoorZ13
import Derived.Test.YtlipmagkplbkdaaDoorRows
import Derived.ProofKit
import Derived.HandedShaped
import Derived.LaidMore
import Derived.Stop.Joined
import Derived.Stop.LaidErr
import Derived.Lib.LaidTab
set_option linter.unusedVariables false
set_option linter.unusedSimpArgs false
set_option linter.unusedSectionVars false
set_option maxRecDepth 100000
set_option maxHeartbeats 8000000
namespace Go.Proofs.YtlipmagkplbkdaaDoor
section
open Go.ChangeShapes Go.WideShapes Go.ChangeAt Go.RowKit
theorem tab_data : (Rows.laid_internal_strconv_uint64pow10 : DataW Unit) = Lib.tabData .u64 Lib.pow10Tab := by kernel_rfl
theorem tabAt_of {W : World} {r : List (String × DataW Unit)}
  (hL : laidMet Tryd.prog (("math/bits.deBruijn32tab", Rows.laid_math_bits_deBruijn32tab) :: ("math/bits.deBruijn64tab", Rows.laid_math_bits_deBruijn64tab) :: ("internal/strconv.uint64pow10", Rows.laid_internal_strconv_uint64pow10) :: r) W) : TabAt W := by
 have h3 := hL.tail.tail
 rw [tab_data] at h3
 exact Lib.tabIs_of_head (g := 0) (t := 137) (e := 117) (by kernel_rfl) (by kernel_rfl) Tryd.underlying137 Tryd.underlying117 (by kernel_rfl) (by kernel_rfl) h3
theorem gAt_of {W : World} (h : TabAt W) : GAt W := by
 refine ⟨0, by kernel_rfl, ?_⟩
 have hc := Lib.TabIs.cell h (g := 0) (by kernel_rfl) 0 (by decide)
 exact World.block_lt_of_cell? _ _ hc
end
end Go.Proofs.YtlipmagkplbkdaaDoor
