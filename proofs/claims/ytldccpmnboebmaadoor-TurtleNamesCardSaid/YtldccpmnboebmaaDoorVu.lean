/-
  Layer 17: the walk of the reference's Hull.
-/
import Derived.Test.YtldccpmnboebmaaDoorVt
namespace Go.Proofs.YtldccpmnboebmaaDoor
open Go.RowKit Go.Sort
set_option linter.unusedVariables false

end Go.Proofs.YtldccpmnboebmaaDoor
