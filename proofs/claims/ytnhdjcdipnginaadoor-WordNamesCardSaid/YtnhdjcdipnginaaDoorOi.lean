/-
  From a row's reading of a list of ints to how it lies in cells.
-/
import Derived.Test.YtnhdjcdipnginaaDoorBase
import Derived.Test.YtnhdjcdipnginaaDoorProg
namespace Go.Proofs.YtnhdjcdipnginaaDoor
open Go.RowKit
theorem opens_ints : Opens Tryd.prog 38 (pSl (pI .i64)) := opens_slice Tryd.underlying38 (by kernel_rfl) (by decide) (opens_int Tryd.underlying3)
end Go.Proofs.YtnhdjcdipnginaaDoor
