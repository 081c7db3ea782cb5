/-
  Layer 16: the walk of the reference's Within.
-/
import Derived.Test.YtldccpmnboebmaaDoorVm
namespace Go.Proofs.YtldccpmnboebmaaDoor
open Go.RowKit Go.Sort
set_option linter.unusedVariables false

theorem alloc_fr : FltRun Tryd.prog [⟨8, 8, 26, #[.int .u8 0, .int .i64 0, .int .i64 0, .int .i64 0]⟩] := by
  intro x hx ev o ho w
  have hx' : x.ty = 26 ∧ x.cs = #[.int .u8 0, .int .i64 0, .int .i64 0, .int .i64 0] := by
    simp at hx
    subst hx
    exact ⟨rfl, rfl⟩
  obtain ⟨h1, h2⟩ := hx'
  rw [h1] at ho ⊢
  rw [h2]
  obtain ⟨dst, op, tt, ps, af, gd⟩ := o
  simp only at ho
  subst ho
  show (execOp ev _).run Tryd.prog w = _
  kernel_rfl
theorem turned_named (s t : Nat) (hs : s < 24) (ht : t < 24) : turnedF (compT s t) = (namedF (compT s t) : Int) := by
  have h := compT_named ⟨s, hs⟩ ⟨t, ht⟩
  simp only at h
  unfold turnedF namedF
  cases h1 : turnOf (compT s t) with
  | none => rw [h1] at h; cases h
  | some n => rfl

end Go.Proofs.YtldccpmnboebmaaDoor
