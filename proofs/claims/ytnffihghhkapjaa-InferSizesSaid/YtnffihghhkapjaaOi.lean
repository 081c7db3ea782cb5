/-
  From a row's reading of a list of ints to how it lies in cells.
-/
import Derived.Test.YtnffihghhkapjaaBase
import Derived.Test.YtnffihghhkapjaaProg
namespace Go.Proofs.Ytnffihghhkapjaa
open Go.RowKit
theorem opens_ints : Opens Try.prog 50 (pSl (pI .i64)) := opens_slice Try.underlying50 (by kernel_rfl) (by decide) (opens_int Try.underlying3)
end Go.Proofs.Ytnffihghhkapjaa
