/-
  From a row's reading of a list of ints to how it lies in cells.
-/
import Derived.Test.YtlipmagkplbkdaaDoorBase
import Derived.Test.YtlipmagkplbkdaaDoorProg
namespace Go.Proofs.YtlipmagkplbkdaaDoor
open Go.RowKit
theorem opens_ints : Opens Tryd.prog 47 (pSl (pI .i64)) := opens_slice Tryd.underlying47 (by kernel_rfl) (by decide) (opens_int Tryd.underlying3)
end Go.Proofs.YtlipmagkplbkdaaDoor
