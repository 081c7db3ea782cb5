/-
  From a row's reading of a list of ints to how it lies in cells.
-/
import Derived.Test.YtpdmjmhiehfkaaaBase
import Derived.Test.YtpdmjmhiehfkaaaProg
namespace Go.Proofs.Ytpdmjmhiehfkaaa
open Go.RowKit
theorem opens_ints : Opens Try.prog 49 (pSl (pI .i64)) := opens_slice Try.underlying49 (by kernel_rfl) (by decide) (opens_int Try.underlying3)
end Go.Proofs.Ytpdmjmhiehfkaaa
