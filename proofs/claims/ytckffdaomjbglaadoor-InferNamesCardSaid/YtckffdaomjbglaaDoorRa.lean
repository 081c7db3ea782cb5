/-
  Layer 7: a range over a function: the walk of step up to its loop.
-/
import Derived.RangeFuncNested
import Derived.RangeFuncBound
import Derived.RangeFuncCalls
import Derived.RangeFuncLeaves
import Derived.RangeFuncBox
import Derived.Shelf.Abstract
import Derived.Shelf.RegionOpen
import Derived.WalkKit
import Derived.OwnWalkIn
import Derived.TacticsInMore
import Derived.LoopNIn
import Derived.LoopIn
import Derived.Test.YtckffdaomjbglaaDoorM1
import Derived.Test.YtckffdaomjbglaaDoorProg
namespace Go.Proofs.YtckffdaomjbglaaDoor
open Go.RowKit Go.Shelf
attribute [local go_sem] Oper.semAt_some

set_option maxHeartbeats 2000000 in
theorem successors_calls (A : Option Addr) (c k : Nat) (B : Option Addr) (cb m : Nat) (w : World) : Calls Tryd.prog 52 #[.slice A k c, .slice B m cb] w fun e w' => e = .returned (.func (.func 62) #[] #[.pointer (some ⟨w.heap.size + 1, 0, none⟩), .pointer (some ⟨w.heap.size, 0, none⟩)]) ∧ w' = (w.alloc (.cells #[.slice A k c] 25)).alloc (.cells #[.slice B m cb] 22) := by
  go_enter Tryd.func52, Tryd.ntmps52
  go_wp2
  go_ret
  exact ⟨rfl, rfl⟩

end Go.Proofs.YtckffdaomjbglaaDoor
