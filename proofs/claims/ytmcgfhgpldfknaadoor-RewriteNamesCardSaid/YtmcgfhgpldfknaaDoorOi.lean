/-
  From a row's reading of a list of ints to how it lies in cells.
-/
import Derived.Test.YtmcgfhgpldfknaaDoorM1
import Derived.Test.YtmcgfhgpldfknaaDoorProg
namespace Go.Proofs.YtmcgfhgpldfknaaDoor
open Go.RowKit
theorem opens_ints : Opens Tryd.prog 42 (pSl (pI .i64)) := opens_slice Tryd.underlying42 (by kernel_rfl) (by decide) (opens_int Tryd.underlying3)
end Go.Proofs.YtmcgfhgpldfknaaDoor
