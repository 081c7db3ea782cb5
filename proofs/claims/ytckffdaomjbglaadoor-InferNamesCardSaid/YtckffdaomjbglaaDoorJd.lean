/-
  Layer 42, plain: what Infer answers. No walk.
-/
import Derived.Test.YtckffdaomjbglaaDoorJa
import Derived.Test.YtckffdaomjbglaaDoorJc
namespace Go.Proofs.YtckffdaomjbglaaDoor
open Go.RowKit

def rulO (r : Int × Int × Int) : Rul := ⟨r.1, 0, 0, 0, [], 0, [⟨r.2.1, []⟩, ⟨r.2.2, []⟩]⟩
def inferL (l : List Int) (n : Nat) : List Int × List (Int × Int × Int) := inferG n (freeL l) l
/-- what Infer returns -/
def inferF (ms : List Mod) (most : Int) : List Int × List (Int × Int × Int) × Int :=
  if plainF ms = 0 then (if most < 0 ∨ 30 < most then ([], [], 2) else ((inferL (ms.map Mod.name) most.toNat).1, (inferL (ms.map Mod.name) most.toNat).2, 0)) else ([], [], plainF ms)

end Go.Proofs.YtckffdaomjbglaaDoor
