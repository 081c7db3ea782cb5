/-
  From a row's reading of a list of ints to how it lies in cells.
-/
import Derived.Test.YtflojbohcippnaaBase
import Derived.Test.YtflojbohcippnaaProg
namespace Go.Proofs.Ytflojbohcippnaa
open Go.RowKit
theorem opens_ints : Opens Try.prog 39 (pSl (pI .i64)) := opens_slice Try.underlying39 (by kernel_rfl) (by decide) (opens_int Try.underlying3)
end Go.Proofs.Ytflojbohcippnaa
