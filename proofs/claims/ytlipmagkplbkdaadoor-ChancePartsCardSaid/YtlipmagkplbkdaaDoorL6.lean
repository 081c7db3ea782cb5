import Derived.Test.YtlipmagkplbkdaaDoorZ10
import Derived.Test.YtlipmagkplbkdaaDoorZ7
import Derived.Test.YtlipmagkplbkdaaDoorZ9
import Derived.Test.YtlipmagkplbkdaaDoorZ5
namespace Go.Proofs.YtlipmagkplbkdaaDoor
open Go.RowKit Go.Sort Go.BigFrame
set_option linter.unusedVariables false
set_option linter.unusedSimpArgs false
section
variable {P : Program} {o : Oper} {w : World}
end
end Go.Proofs.YtlipmagkplbkdaaDoor
