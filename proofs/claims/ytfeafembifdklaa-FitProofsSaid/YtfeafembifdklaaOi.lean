/-
  From a row's reading of a list of ints to how it lies in cells.
-/
import Derived.Test.YtfeafembifdklaaBase
import Derived.Test.YtfeafembifdklaaProg
namespace Go.Proofs.Ytfeafembifdklaa
open Go.RowKit
theorem opens_ints : Opens Try.prog 22 (pSl (pI .i64)) := opens_slice Try.underlying22 (by kernel_rfl) (by decide) (opens_int Try.underlying3)
end Go.Proofs.Ytfeafembifdklaa
