/-
  From a row's reading of a list of ints to how it lies in cells.
-/
import Derived.Test.YtipdppkoodlkcaaDoorM1
import Derived.Test.YtipdppkoodlkcaaDoorProg
namespace Go.Proofs.YtipdppkoodlkcaaDoor
open Go.RowKit
theorem opens_ints : Opens Tryd.prog 36 (pSl (pI .i64)) := opens_slice Tryd.underlying36 (by kernel_rfl) (by decide) (opens_int Tryd.underlying3)
end Go.Proofs.YtipdppkoodlkcaaDoor
