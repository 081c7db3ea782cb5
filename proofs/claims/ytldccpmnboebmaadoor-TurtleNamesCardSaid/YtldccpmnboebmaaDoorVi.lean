/-
  Layer 16: when vectors and matrices are equal, as the program compares them.
-/
import Derived.Test.YtldccpmnboebmaaDoorM2
import Derived.BigQuiet
import Derived.Laws.StructEq
namespace Go.Proofs.YtldccpmnboebmaaDoor
open Go.RowKit
set_option linter.unusedVariables false

theorem eqIn_vec (d : Nat) (a b c x y z : Int) (w : World) : (Op.equalIn (d + 1 + 1) 24 (.agg #[.int .i64 a, .int .i64 b, .int .i64 c]) (.agg #[.int .i64 x, .int .i64 y, .int .i64 z])).run Tryd.prog w = .ok (a == x && (b == y && c == z)) w := by
  rw [Op.equalIn]
  simp only [Sem.run_bind, run_underlying Tryd.underlying24, Result.andThen]
  have hs : ∀ w, (sizeOf 3).run Tryd.prog w = .ok 1 w := fun w => by kernel_rfl
  have hg : ∀ w, (isAgg 3).run Tryd.prog w = .ok false w := fun w => by kernel_rfl
  have hi := fun (u v : Int) => run_equalIn_int (P := Tryd.prog) w d 3 .i64 .i64 u v Tryd.underlying3
  by_cases h1 : a = x
  · by_cases h2 : b = y
    · by_cases h3 : c = z
      · simp [hg, hi, h1, h2, h3, Result.andThen, Sem.run_bind, go_sem]
      · simp [hg, hi, h1, h2, h3, Result.andThen, Sem.run_bind, go_sem]
    · simp [hg, hi, h1, h2, Result.andThen, Sem.run_bind, go_sem]
  · simp [hg, hi, h1, Result.andThen, Sem.run_bind, go_sem]
def valV (v : V3) : Value := .agg #[.int .i64 v.1, .int .i64 v.2.1, .int .i64 v.2.2]
theorem eqIn_mat (d : Nat) (m n : M3) (w : World) : (Op.equalIn (d + 1 + 1 + 1) 47 (.agg #[.int .i64 m.1.1, .int .i64 m.1.2.1, .int .i64 m.1.2.2, .int .i64 m.2.1.1, .int .i64 m.2.1.2.1, .int .i64 m.2.1.2.2, .int .i64 m.2.2.1, .int .i64 m.2.2.2.1, .int .i64 m.2.2.2.2])
    (.agg #[.int .i64 n.1.1, .int .i64 n.1.2.1, .int .i64 n.1.2.2, .int .i64 n.2.1.1, .int .i64 n.2.1.2.1, .int .i64 n.2.1.2.2, .int .i64 n.2.2.1, .int .i64 n.2.2.2.1, .int .i64 n.2.2.2.2])).run Tryd.prog w = .ok (decide (m = n)) w := by
  obtain ⟨⟨a1, a2, a3⟩, ⟨b1, b2, b3⟩, ⟨c1, c2, c3⟩⟩ := m
  obtain ⟨⟨x1, x2, x3⟩, ⟨y1, y2, y3⟩, ⟨z1, z2, z3⟩⟩ := n
  rw [Op.equalIn]
  simp only [Sem.run_bind, run_underlying Tryd.underlying47, Result.andThen]
  have hs : ∀ w, (sizeOf 24).run Tryd.prog w = .ok 3 w := fun w => by kernel_rfl
  have hg : ∀ w, (isAgg 24).run Tryd.prog w = .ok true w := fun w => by kernel_rfl
  have hi := fun (a b c x y z : Int) => eqIn_vec d a b c x y z w
  have hand : ∀ (a b c x y z : Int), (a == x && (b == y && c == z)) = decide ((a, b, c) = (x, y, z)) := fun a b c x y z => by
    rw [Bool.eq_iff_iff]; simp
  simp only [hand] at hi
  by_cases h1 : (a1, a2, a3) = (x1, x2, x3)
  · by_cases h2 : (b1, b2, b3) = (y1, y2, y3)
    · by_cases h3 : (c1, c2, c3) = (z1, z2, z3)
      · simp [hs, hg, hi, h1, h2, h3, Result.andThen, Sem.run_bind, go_sem, List.range', -Prod.mk.injEq]
      · simp [hs, hg, hi, h1, h2, h3, Result.andThen, Sem.run_bind, go_sem, List.range', -Prod.mk.injEq]
        exact fun e => h3 (congrArg (fun m : M3 => m.2.2) e)
    · simp [hs, hg, hi, h1, h2, Result.andThen, Sem.run_bind, go_sem, List.range', -Prod.mk.injEq]
      exact fun e => h2 (congrArg (fun m : M3 => m.2.1) e)
  · simp [hs, hg, hi, h1, Result.andThen, Sem.run_bind, go_sem, List.range', -Prod.mk.injEq]
    exact fun e => h1 (congrArg (fun m : M3 => m.1) e)
end Go.Proofs.YtldccpmnboebmaaDoor
