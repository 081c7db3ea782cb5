/- Texts of the proof that the statement of ChanceAlone holds, several in one. -/
import Derived.Test.YtlipmagkplbkdaaDoorZ11
import Derived.Test.YtlipmagkplbkdaaDoorZ8
import Derived.Test.YtlipmagkplbkdaaDoorZ10
import Derived.Test.YtlipmagkplbkdaaDoorZ6
set_option linter.unusedVariables false
set_option linter.unusedSimpArgs false
set_option linter.unusedSectionVars false
set_option maxRecDepth 100000
set_option maxHeartbeats 8000000
namespace Go.Proofs.YtlipmagkplbkdaaDoor
section
open Go.RowKit Go.Sort Go.BigFrame
section
variable {P : Program} {o : Oper} {w : World}
end
end
end Go.Proofs.YtlipmagkplbkdaaDoor
