/-
  Layer 10: the walk of the reference's Counts.
-/
import Derived.Test.YtflojbohcippnaaNh
import Derived.StillTailTactics
namespace Go.Proofs.Ytflojbohcippnaa
open Go.RowKit Go.Sort

theorem prodRow_some {y : List Int} {m : List (List Int)} (h : ∀ i, i < m.length → dot y m i y.length ≤ 1000000000000000) : prodRow y m = some ((List.range m.length).map fun k => dot y m k y.length) := by
  unfold prodRow
  rw [if_pos]
  rw [List.all_eq_true]
  intro i hi
  exact decide_eq_true (h i (List.mem_range.1 hi))
theorem prodRow_none {y : List Int} {m : List (List Int)} {i : Nat} (hi : i < m.length) (h : 1000000000000000 < dot y m i y.length) : prodRow y m = none := by
  unfold prodRow
  rw [if_neg]
  intro ha
  have := of_decide_eq_true (List.all_eq_true.1 ha i (List.mem_range.2 hi))
  omega

end Go.Proofs.Ytflojbohcippnaa
