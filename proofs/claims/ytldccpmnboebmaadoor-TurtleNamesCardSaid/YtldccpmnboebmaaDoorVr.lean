/-
  Layer 17: the walk of the reference's Check of a track.
-/
import Derived.Test.YtldccpmnboebmaaDoorVq
import Derived.Test.YtldccpmnboebmaaDoorLs
namespace Go.Proofs.YtldccpmnboebmaaDoor
open Go.RowKit Go.Sort
set_option linter.unusedVariables false

theorem alloc_vecs (l : List Al) (h : ∀ x ∈ l, x.ty = 24 ∧ x.cs = #[.int .i64 0, .int .i64 0, .int .i64 0]) : FltRun Tryd.prog l := by
  intro x hx ev o ho w
  obtain ⟨h1, h2⟩ := h x hx
  rw [h1] at ho ⊢
  rw [h2]
  obtain ⟨dst, op, tt, ps, af, gd⟩ := o
  simp only at ho
  subst ho
  show (execOp ev _).run Tryd.prog w = _
  kernel_rfl
theorem int_post {a b : Int} (h : b = a) : Ending.returned (.int .i64 a) = .returned (.int .i64 b) := by rw [h]
def trkB (w : World) (g : Nat) (A : Option Addr) (c : Nat) (B : Option Addr) (d : Nat) (t : Trk) : Prop := Blk w g 36 #[.slice A t.lines.length c, .slice B t.marks.length d, .int .u8 t.fr.1, .int .i64 t.fr.2.1, .int .i64 t.fr.2.2.1, .int .i64 t.fr.2.2.2, .int .i64 t.drawn]

end Go.Proofs.YtldccpmnboebmaaDoor
