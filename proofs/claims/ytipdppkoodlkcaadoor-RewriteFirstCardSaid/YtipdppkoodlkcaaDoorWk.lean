/-
  Layer 6: the walks of equal, word.Same, Count, Depth.
-/
import Derived.Test.YtipdppkoodlkcaaDoorWj
namespace Go.Proofs.YtipdppkoodlkcaaDoor
open Go.RowKit

/-! ### Count -/
def countF (c : Int) (ms : List Mod) : Nat := ms.countP (fun m => m.name == c)
end Go.Proofs.YtipdppkoodlkcaaDoor
