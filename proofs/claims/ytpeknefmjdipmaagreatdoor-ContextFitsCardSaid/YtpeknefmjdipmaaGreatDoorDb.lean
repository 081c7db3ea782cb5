/-
  Layer 8: the walks of the reference's Step and Run.
-/
import Derived.Test.YtpeknefmjdipmaaGreatDoorDa
import Derived.Test.YtpeknefmjdipmaaGreatDoorRt
import Derived.Test.YtpeknefmjdipmaaGreatDoorWh
namespace Go.Proofs.YtpeknefmjdipmaaGreatDoor
open Go.RowKit Go.Sort

def RefCStepPost (rs : List Rul) (p : ByteArray) (ms : List Mod) (w : World) (e : Ending) (w' : World) : Prop :=
  ∃ A c, e = .returned (.tuple #[.slice A (cStepF rs p ms).1.length c, .int .i64 (cStepF rs p ms).2]) ∧ Own pMod 27 w.heap.size (w.heap.size ≤ ·) w' (.slice A (cStepF rs p ms).1.length c) (cStepF rs p ms).1 ∧ Below w.heap.size w w'

def RefCRunPost (rs : List Rul) (p : ByteArray) (ms : List Mod) (n : Int) (w : World) (e : Ending) (w' : World) : Prop :=
  ∃ A c, e = .returned (.tuple #[.slice A (cRunF rs p ms n).1.length c, .int .i64 (cRunF rs p ms n).2]) ∧ Own pMod 27 w.heap.size (w.heap.size ≤ ·) w' (.slice A (cRunF rs p ms n).1.length c) (cRunF rs p ms n).1 ∧ Below w.heap.size w w'
end Go.Proofs.YtpeknefmjdipmaaGreatDoor
