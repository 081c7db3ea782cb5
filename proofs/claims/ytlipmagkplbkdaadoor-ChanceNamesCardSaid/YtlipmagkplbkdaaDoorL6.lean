import Derived.Test.YtlipmagkplbkdaaDoorZ10
import Derived.Test.YtlipmagkplbkdaaDoorZ7
import Derived.Test.YtlipmagkplbkdaaDoorZ9
import Derived.Test.YtlipmagkplbkdaaDoorZ5
namespace Go.Proofs.YtlipmagkplbkdaaDoor
open Go.RowKit Go.Sort Go.BigFrame
set_option linter.unusedVariables false
set_option linter.unusedSimpArgs false
section
variable {P : Program} {o : Oper} {w : World}
theorem run_bsL9 {t : TypeId} {w' : World} (ev : Operand → Value) (x : Operand) (ho : o.op = .buildSlice t 1 #[(0, x)]) {u z : Value} (hx : ev x = u) (hr : (Instr.buildSlice t 1 #[(0, u)]).run P w = .ok z w') : (execOp ev o).run P w = .ok (.value z) w' := by
  rw [show execOp ev o = do return .value (← Instr.buildSlice t 1 #[(0, u)]) from by simp [execOp, ho, hx]]
  simp only [Sem.run_bind, hr, Result.andThen_ok]
  rfl
end
end Go.Proofs.YtlipmagkplbkdaaDoor
