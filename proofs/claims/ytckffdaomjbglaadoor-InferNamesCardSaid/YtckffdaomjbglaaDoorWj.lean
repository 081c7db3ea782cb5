/-
  Layer 6: the walk of WordJoins.
-/
import Derived.Test.YtckffdaomjbglaaDoorWi
import Derived.Test.YtckffdaomjbglaaDoorOp
namespace Go.Proofs.YtckffdaomjbglaaDoor
open Go.RowKit

theorem great_no {ms : List Mod} (h : greatF ms = false) : ms.length ≤ 10000 ∧ ∀ m ∈ ms, m.args.length ≤ 1000 := by
  unfold greatF at h
  rw [Bool.or_eq_false_iff] at h
  obtain ⟨h1, h2⟩ := h
  have h1' := of_decide_eq_false h1
  refine ⟨by omega, fun m hm => ?_⟩
  have := List.any_eq_false.1 h2 m hm
  simp at this
  omega


end Go.Proofs.YtckffdaomjbglaaDoor
