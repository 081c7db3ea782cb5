/-
  From a row's reading of a list of ints to how it lies in cells.
-/
import Derived.Test.YtcdmmejicmbagaaDoorBase
import Derived.Test.YtcdmmejicmbagaaDoorProg
namespace Go.Proofs.YtcdmmejicmbagaaDoor
open Go.RowKit
theorem opens_ints : Opens Tryd.prog 22 (pSl (pI .i64)) := opens_slice Tryd.underlying22 (by kernel_rfl) (by decide) (opens_int Tryd.underlying3)
end Go.Proofs.YtcdmmejicmbagaaDoor
