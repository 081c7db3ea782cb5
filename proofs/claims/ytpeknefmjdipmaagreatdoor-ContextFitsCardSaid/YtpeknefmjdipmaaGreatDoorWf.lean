/-
  Layer 6: the walk of the reference's Twin.
-/
import Derived.Test.YtpeknefmjdipmaaGreatDoorWe
namespace Go.Proofs.YtpeknefmjdipmaaGreatDoor
open Go.RowKit

def RefTwinPost (ms : List Mod) (w : World) (e : Ending) (w' : World) : Prop :=
  ∃ A c, e = .returned (.slice A ms.length c) ∧ Own pMod 27 w.heap.size (w.heap.size ≤ ·) w' (.slice A ms.length c) ms ∧ Below w.heap.size w w'

end Go.Proofs.YtpeknefmjdipmaaGreatDoor
