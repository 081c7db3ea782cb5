/-
  Layer 6: the walks of the reference's SameModules and Same.
-/
import Derived.Test.YtpeknefmjdipmaaDoorWd
import Derived.Lib.QuietBelow
namespace Go.Proofs.YtpeknefmjdipmaaDoor
open Go.RowKit Go.Sort

theorem beq_mod (m n : Mod) : (m == n) = (m.name == n.name && m.args == n.args) := by
  rw [Bool.eq_iff_iff, beq_iff_eq, Bool.and_eq_true, beq_iff_eq, beq_iff_eq]
  obtain ⟨a, b⟩ := m
  obtain ⟨c, d⟩ := n
  simp


end Go.Proofs.YtpeknefmjdipmaaDoor
