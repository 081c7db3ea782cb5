/-
  Layer 6: the walk of the reference's Close.
-/
import Derived.Test.YtmcgfhgpldfknaaDoorWn
namespace Go.Proofs.YtmcgfhgpldfknaaDoor
open Go.RowKit

theorem dep_le : ∀ (ms : List Mod) (j : Nat), dep ms j ≤ j
  | [], j => by rw [dep_nil]; omega
  | m :: ms, 0 => by rw [dep_zero]; omega
  | m :: ms, j + 1 => by
    rw [dep_cons]
    have := dep_le ms j
    have h : delta m ≤ 1 := by unfold delta; split <;> (try split) <;> omega
    omega
theorem delta_cases (m : Mod) : delta m = 1 ∨ delta m = -1 ∨ delta m = 0 := by
  unfold delta; split
  · exact .inl rfl
  · split
    · exact .inr (.inl rfl)
    · exact .inr (.inr rfl)

end Go.Proofs.YtmcgfhgpldfknaaDoor
