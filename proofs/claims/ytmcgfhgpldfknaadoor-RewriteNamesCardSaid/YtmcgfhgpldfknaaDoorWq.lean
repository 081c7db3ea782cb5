/-
  Layer 6: the walks of Strip.
-/
import Derived.Test.YtmcgfhgpldfknaaDoorWp
namespace Go.Proofs.YtmcgfhgpldfknaaDoor
open Go.RowKit

def stripF (ms : List Mod) : List Mod × Int := if checkF ms = 0 then (trunk 0 ms, 0) else ([], checkF ms)
theorem stripF_ok {ms : List Mod} (h : checkF ms = 0) : stripF ms = (trunk 0 ms, 0) := by unfold stripF; rw [if_pos h]
theorem stripF_no {ms : List Mod} (h : ¬ checkF ms = 0) : stripF ms = ([], checkF ms) := by unfold stripF; rw [if_neg h]
def StripPost (E : Rp Mod) (ms : List Mod) (w : World) (e : Ending) (w' : World) : Prop :=
  ∃ A c, e = .returned (.tuple #[.slice A (stripF ms).1.length c, .int .i64 (stripF ms).2]) ∧ Own E 44 w.heap.size (w.heap.size ≤ ·) w' (.slice A (stripF ms).1.length c) (stripF ms).1 ∧ Below w.heap.size w w'

end Go.Proofs.YtmcgfhgpldfknaaDoor
