/-
  From a row's reading of a list of ints to how it lies in cells.
-/
import Derived.Test.YtfakcccfadeknaaDoorBase
import Derived.Test.YtfakcccfadeknaaDoorProg
namespace Go.Proofs.YtfakcccfadeknaaDoor
open Go.RowKit
theorem opens_ints : Opens Tryd.prog 35 (pSl (pI .i64)) := opens_slice Tryd.underlying35 (by kernel_rfl) (by decide) (opens_int Tryd.underlying3)
end Go.Proofs.YtfakcccfadeknaaDoor
