/-
  Layer 42: the walks of bracket and of the reference's Pair.
-/
import Derived.Test.YtckffdaomjbglaaDoorIj
import Derived.Handy
namespace Go.Proofs.YtckffdaomjbglaaDoor
open Go.RowKit Go.Sort

def brkB (c : Int) : Bool := c == 91 || c == 93
theorem bracket_calls (c : Int) (w : World) : Calls Tryd.prog 35 #[.int .u8 c] w fun e w' => e = .returned (.bool (brkB c)) ∧ w = w' := by
  cases h1 : (c == 91)
  · have hy : brkB c = (c == 93) := by unfold brkB; rw [h1]; rfl
    have Hy := Lib.hid hy; clear hy
    go_enter Tryd.func35, Tryd.ntmps35
    go_wp2
    go_ret
    exact ⟨ret_bool Hy.out.symm, rfl⟩
  · have hy : brkB c = true := by unfold brkB; rw [h1]; rfl
    have Hy := Lib.hid hy; clear hy
    go_enter Tryd.func35, Tryd.ntmps35
    go_wp2
    go_ret
    exact ⟨ret_bool Hy.out.symm, rfl⟩
def PairP (ms : List Mod) (w : World) (e : Ending) (w' : World) : Prop :=
  ∃ a b n r, e = .returned (.tuple #[.int .u8 a, .int .u8 b, .int .i64 n, .int .i64 r]) ∧ Below w.heap.size w w' ∧
    ((plainF ms ≠ 0 ∧ a = 0 ∧ b = 0 ∧ n = 0 ∧ r = plainF ms) ∨ (plainF ms = 0 ∧ BestOf (PairAt (ms.map Mod.name) (ms.map Mod.name).length) (fun u v => cntR u v (ms.map Mod.name)) a b n ∧ r = if n = 0 then 6 else 0))
end Go.Proofs.YtckffdaomjbglaaDoor
