/-
  From a row's reading of a list of ints to how it lies in cells.
-/
import Derived.Test.YtckffdaomjbglaaBase
import Derived.Test.YtckffdaomjbglaaProg
namespace Go.Proofs.Ytckffdaomjbglaa
open Go.RowKit
theorem opens_ints : Opens Try.prog 42 (pSl (pI .i64)) := opens_slice Try.underlying42 (by kernel_rfl) (by decide) (opens_int Try.underlying3)
end Go.Proofs.Ytckffdaomjbglaa
