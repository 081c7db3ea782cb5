/-
  Layer 42: the walk of the reference's Replace.
-/
import Derived.Test.YtckffdaomjbglaaDoorIh
namespace Go.Proofs.YtckffdaomjbglaaDoor
open Go.RowKit Go.Sort

def replF (ms : List Mod) (x y nm : Int) : List Int × Int := if plainF ms = 0 then (if (plainC x && plainC y && plainC nm) = true then (putF x y nm (ms.map Mod.name), 0) else ([], 2)) else ([], plainF ms)
def ReplPost (r : List Int × Int) (w : World) (e : Ending) (w' : World) : Prop :=
  ∃ A c, e = .returned (.tuple #[.slice A r.1.length c, .int .i64 r.2]) ∧ Own pMod 50 w.heap.size (w.heap.size ≤ ·) w' (.slice A r.1.length c) (r.1.map modOf) ∧ Below w.heap.size w w'
end Go.Proofs.YtckffdaomjbglaaDoor
