/-
  From a row's reading of a list of ints to how it lies in cells.
-/
import Derived.Test.YtajgblblfkcfbaaBase
import Derived.Test.YtajgblblfkcfbaaProg
namespace Go.Proofs.Ytajgblblfkcfbaa
open Go.RowKit
theorem opens_ints : Opens Try.prog 23 (pSl (pI .i64)) := opens_slice Try.underlying23 (by kernel_rfl) (by decide) (opens_int Try.underlying3)
end Go.Proofs.Ytajgblblfkcfbaa
