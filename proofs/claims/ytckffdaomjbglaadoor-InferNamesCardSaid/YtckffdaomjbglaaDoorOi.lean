/-
  From a row's reading of a list of ints to how it lies in cells.
-/
import Derived.Test.YtckffdaomjbglaaDoorM1
import Derived.Test.YtckffdaomjbglaaDoorProg
namespace Go.Proofs.YtckffdaomjbglaaDoor
open Go.RowKit
theorem opens_ints : Opens Tryd.prog 48 (pSl (pI .i64)) := opens_slice Tryd.underlying48 (by kernel_rfl) (by decide) (opens_int Tryd.underlying3)
end Go.Proofs.YtckffdaomjbglaaDoor
