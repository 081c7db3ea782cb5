/-
  From a row's reading of a list of ints to how it lies in cells.
-/
import Derived.Test.YtldccpmnboebmaaBase
import Derived.Test.YtldccpmnboebmaaProg
namespace Go.Proofs.Ytldccpmnboebmaa
open Go.RowKit
theorem opens_ints : Opens Try.prog 75 (pSl (pI .i64)) := opens_slice Try.underlying75 (by kernel_rfl) (by decide) (opens_int Try.underlying3)
end Go.Proofs.Ytldccpmnboebmaa
