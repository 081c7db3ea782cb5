/-
  From a row's reading of a list of ints to how it lies in cells.
-/
import Derived.Test.YtpeknefmjdipmaaDoorM1
import Derived.Test.YtpeknefmjdipmaaDoorProg
namespace Go.Proofs.YtpeknefmjdipmaaDoor
open Go.RowKit
theorem opens_ints : Opens Tryd.prog 25 (pSl (pI .i64)) := opens_slice Tryd.underlying25 (by kernel_rfl) (by decide) (opens_int Tryd.underlying3)
end Go.Proofs.YtpeknefmjdipmaaDoor
