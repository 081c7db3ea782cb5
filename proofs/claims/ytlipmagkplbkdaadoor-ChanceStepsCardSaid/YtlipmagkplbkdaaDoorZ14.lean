/-
  Several texts in one.
-/
import Derived.Test.YtlipmagkplbkdaaDoorZ11
import Derived.Test.YtlipmagkplbkdaaDoorZ8
import Derived.Test.YtlipmagkplbkdaaDoorZ12
import Derived.Test.YtlipmagkplbkdaaDoorZ3
/-! N6 -/
namespace Go.Proofs.YtlipmagkplbkdaaDoor
open Go.RowKit
set_option linter.unusedVariables false
set_option linter.unusedSimpArgs false
end Go.Proofs.YtlipmagkplbkdaaDoor

/-! N7 -/
namespace Go.Proofs.YtlipmagkplbkdaaDoor
open Go.RowKit Go.Sort Go.BigFrame
set_option linter.unusedVariables false
set_option linter.unusedSimpArgs false
end Go.Proofs.YtlipmagkplbkdaaDoor

/-! N1 -/
namespace Go.Proofs.YtlipmagkplbkdaaDoor
open Go.RowKit Go.Sort Go.BigFrame
set_option linter.unusedVariables false
set_option linter.unusedSimpArgs false
def oneR (rs : List Rul) (s : Int) (c : Cel) : List Cel × Int := if checkC rs = 0 then (if (pathF c.path && fineF c.mod) = true then succR rs s c else ([], 8)) else ([], checkC rs)
end Go.Proofs.YtlipmagkplbkdaaDoor

/-! N2 -/
namespace Go.Proofs.YtlipmagkplbkdaaDoor
open Go.RowKit
set_option linter.unusedVariables false
set_option linter.unusedSimpArgs false
def p2 : ByteArray := ⟨#[50]⟩
end Go.Proofs.YtlipmagkplbkdaaDoor

/-! Li -/
namespace Go.Proofs.YtlipmagkplbkdaaDoor
open Go.RowKit
theorem sl_none {α : Type} {E : Rp α} {F : Nat → Prop} {w : World} : SlAt E F w none 0 ([] : List α) := ⟨Nat.le_refl _, Nat.zero_le _, fun _ => rfl, fun i x hx => by simp at hx⟩
end Go.Proofs.YtlipmagkplbkdaaDoor

/-! N3 -/
namespace Go.Proofs.YtlipmagkplbkdaaDoor
open Go.RowKit Go.Sort Go.BigFrame
set_option linter.unusedVariables false
set_option linter.unusedSimpArgs false
end Go.Proofs.YtlipmagkplbkdaaDoor
