/-
  From a row's reading of a list of ints to how it lies in cells.
-/
import Derived.Test.YtdjjhlnhfbcojaaBase
import Derived.Test.YtdjjhlnhfbcojaaProg
namespace Go.Proofs.Ytdjjhlnhfbcojaa
open Go.RowKit
theorem opens_ints : Opens Try.prog 55 (pSl (pI .i64)) := opens_slice Try.underlying55 (by kernel_rfl) (by decide) (opens_int Try.underlying3)
end Go.Proofs.Ytdjjhlnhfbcojaa
