/-
  Layer 6: the walk of the reference's Twin.
-/
import Derived.Test.YtipdppkoodlkcaaDoorWe
namespace Go.Proofs.YtipdppkoodlkcaaDoor
open Go.RowKit

def RefTwinPost (ms : List Mod) (w : World) (e : Ending) (w' : World) : Prop :=
  ∃ A c, e = .returned (.slice A ms.length c) ∧ Own pMod 38 w.heap.size (w.heap.size ≤ ·) w' (.slice A ms.length c) ms ∧ Below w.heap.size w w'

end Go.Proofs.YtipdppkoodlkcaaDoor
