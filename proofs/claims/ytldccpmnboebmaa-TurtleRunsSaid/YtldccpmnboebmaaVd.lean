/-
  Layer 16: the walks of the small functions: directions, products, sums.
-/
import Derived.Test.YtldccpmnboebmaaVb
import Derived.Test.YtldccpmnboebmaaOi
import Derived.Laws.Rows
namespace Go.Proofs.Ytldccpmnboebmaa
open Go.RowKit
set_option linter.unusedVariables false

def VecPost (v : V3) (w : World) (e : Ending) (w' : World) : Prop := e = .returned (.agg #[.int .i64 v.1, .int .i64 v.2.1, .int .i64 v.2.2]) ∧ RowKit.Below w.heap.size w w'
theorem new_at {w : World} {t : TypeId} {cs : Array Value} {g : Nat} (h : g = w.heap.size) : (w.alloc (.cells cs t)).heap[g]? = some (.cells cs t (0, 0)) := by subst h; exact Blk.new w t cs
theorem al1 {w : World} {o1 : Obj} : RowKit.Below w.heap.size w (w.alloc o1) := (RowKit.Below.refl _ _).alloc (Nat.le_refl _) _
theorem al2 {w : World} {o1 o2 : Obj} : RowKit.Below w.heap.size w ((w.alloc o1).alloc o2) := al1.alloc (by simp) _
theorem al3 {w : World} {o1 o2 o3 : Obj} : RowKit.Below w.heap.size w (((w.alloc o1).alloc o2).alloc o3) := al2.alloc (by simp; omega) _
set_option maxRecDepth 100000 in
set_option maxHeartbeats 1000000 in
theorem direction_calls (d : Fin 6) (w : World) : Calls Try.prog 71 #[.int .u8 (d.val : Int)] w (VecPost (dirV d.val) w) := by
  have hall : ∀ n : Nat, n < 6 → n = 0 ∨ n = 1 ∨ n = 2 ∨ n = 3 ∨ n = 4 ∨ n = 5 := by omega
  obtain ⟨n, hn⟩ := d
  rcases hall n hn with rfl | rfl | rfl | rfl | rfl | rfl
  all_goals
    go_enter Try.func71, Try.ntmps71
    go_wp2
    refine bodyPost_ret (results_cell_row rfl _ _ _ 25 _ (0, 0) _ rfl (new_at (by simp)) Try.underlying25 rfl (by kernel_rfl)) rfl ?_
    exact ⟨rfl, al1⟩
set_option maxRecDepth 100000 in
set_option maxHeartbeats 1000000 in
theorem refDirection_calls (d : Fin 6) (w : World) : Calls Try.prog 57 #[.int .i64 (d.val : Int)] w (VecPost (dirV d.val) w) := by
  have hall : ∀ n : Nat, n < 6 → n = 0 ∨ n = 1 ∨ n = 2 ∨ n = 3 ∨ n = 4 ∨ n = 5 := by omega
  obtain ⟨n, hn⟩ := d
  rcases hall n hn with rfl | rfl | rfl | rfl | rfl | rfl
  all_goals
    go_enter Try.func57, Try.ntmps57
    go_wp2
    refine bodyPost_ret (results_cell_row rfl _ _ _ 25 _ (0, 0) _ rfl (new_at (by simp)) Try.underlying25 rfl (by kernel_rfl)) rfl ?_
    exact ⟨rfl, al1⟩
/-- both numbers of which a sum or a difference is made are small -/
def smallV (b : Int) (v : V3) : Prop := (-b ≤ v.1 ∧ v.1 ≤ b) ∧ (-b ≤ v.2.1 ∧ v.2.1 ≤ b) ∧ (-b ≤ v.2.2 ∧ v.2.2 ≤ b)
set_option maxRecDepth 100000 in
set_option maxHeartbeats 1000000 in
theorem plus_calls (a b : V3) (w : World) (ha : smallV 10000000 a) (hb : smallV 10000000 b) : Calls Try.prog 34 #[.agg #[.int .i64 a.1, .int .i64 a.2.1, .int .i64 a.2.2], .agg #[.int .i64 b.1, .int .i64 b.2.1, .int .i64 b.2.2]] w (VecPost (addV a b) w) := by
  obtain ⟨a1, a2, a3⟩ := a
  obtain ⟨b1, b2, b3⟩ := b
  obtain ⟨⟨h1, h2⟩, ⟨h3, h4⟩, ⟨h5, h6⟩⟩ := ha
  obtain ⟨⟨k1, k2⟩, ⟨k3, k4⟩, ⟨k5, k6⟩⟩ := hb
  simp only at h1 h2 h3 h4 h5 h6 k1 k2 k3 k4 k5 k6
  go_enter Try.func34, Try.ntmps34
  go_wp2
  refine bodyPost_ret (results_cell_row rfl _ _ _ 25 _ (0, 0) _ rfl (new_at (by simp)) Try.underlying25 rfl (by kernel_rfl)) rfl ?_
  exact ⟨rfl, al3⟩
set_option maxRecDepth 100000 in
set_option maxHeartbeats 1000000 in
theorem times_calls (n : Int) (b : V3) (w : World) (h1 : IntKind.i64.wrap (n * b.1) = n * b.1) (h2 : IntKind.i64.wrap (n * b.2.1) = n * b.2.1) (h3 : IntKind.i64.wrap (n * b.2.2) = n * b.2.2) : Calls Try.prog 35 #[.int .i64 n, .agg #[.int .i64 b.1, .int .i64 b.2.1, .int .i64 b.2.2]] w (VecPost (mulV n b) w) := by
  obtain ⟨b1, b2, b3⟩ := b
  simp only at h1 h2 h3
  go_enter Try.func35, Try.ntmps35
  go_wp2
  refine bodyPost_ret (results_cell_row rfl _ _ _ 25 _ (0, 0) _ rfl (new_at (by simp)) Try.underlying25 rfl (by kernel_rfl)) rfl ?_
  exact ⟨rfl, al2⟩
theorem one3_prod {x y : Int} (hx : one3 x = true) (hy : one3 y = true) : -1 ≤ x * y ∧ x * y ≤ 1 := by
  unfold one3 at hx hy
  simp only [Bool.or_eq_true, beq_iff_eq] at hx hy
  rcases hx with (hx | hx) | hx <;> rcases hy with (hy | hy) | hy <;> subst hx hy <;> decide
theorem unitV_at {v : V3} (h : unitV v = true) : one3 v.1 = true ∧ one3 v.2.1 = true ∧ one3 v.2.2 = true := by
  unfold unitV at h
  simp only [Bool.and_eq_true] at h
  exact ⟨h.1.1, h.1.2, h.2⟩
set_option maxRecDepth 100000 in
set_option maxHeartbeats 1000000 in
theorem cross_calls (a b : V3) (w : World) (ha : unitV a = true) (hb : unitV b = true) : Calls Try.prog 72 #[.agg #[.int .i64 a.1, .int .i64 a.2.1, .int .i64 a.2.2], .agg #[.int .i64 b.1, .int .i64 b.2.1, .int .i64 b.2.2]] w (VecPost (crossV a b) w) := by
  obtain ⟨a1, a2, a3⟩ := a
  obtain ⟨b1, b2, b3⟩ := b
  obtain ⟨u1, u2, u3⟩ := unitV_at ha
  obtain ⟨v1, v2, v3⟩ := unitV_at hb
  simp only at u1 u2 u3 v1 v2 v3
  obtain ⟨p1, p2⟩ := one3_prod u2 v3
  obtain ⟨p3, p4⟩ := one3_prod u3 v2
  obtain ⟨p5, p6⟩ := one3_prod u3 v1
  obtain ⟨p7, p8⟩ := one3_prod u1 v3
  obtain ⟨p9, p10⟩ := one3_prod u1 v2
  obtain ⟨p11, p12⟩ := one3_prod u2 v1
  have Ha := Lib.hid ha; clear ha
  have Hb := Lib.hid hb; clear hb
  have U1 := Lib.hid u1; clear u1
  have U2 := Lib.hid u2; clear u2
  have U3 := Lib.hid u3; clear u3
  have V1 := Lib.hid v1; clear v1
  have V2 := Lib.hid v2; clear v2
  have V3 := Lib.hid v3; clear v3
  go_enter Try.func72, Try.ntmps72
  go_wp2
  refine bodyPost_ret (results_cell_row rfl _ _ _ 25 _ (0, 0) _ rfl (new_at (by simp)) Try.underlying25 rfl (by kernel_rfl)) rfl ?_
  exact ⟨rfl, al3⟩
set_option maxRecDepth 100000 in
set_option maxHeartbeats 1000000 in
theorem refCross_calls (a b : V3) (w : World) (ha : unitV a = true) (hb : unitV b = true) : Calls Try.prog 65 #[.agg #[.int .i64 a.1, .int .i64 a.2.1, .int .i64 a.2.2], .agg #[.int .i64 b.1, .int .i64 b.2.1, .int .i64 b.2.2]] w (VecPost (crossV a b) w) := by
  obtain ⟨a1, a2, a3⟩ := a
  obtain ⟨b1, b2, b3⟩ := b
  obtain ⟨u1, u2, u3⟩ := unitV_at ha
  obtain ⟨v1, v2, v3⟩ := unitV_at hb
  simp only at u1 u2 u3 v1 v2 v3
  obtain ⟨p1, p2⟩ := one3_prod u2 v3
  obtain ⟨p3, p4⟩ := one3_prod u3 v2
  obtain ⟨p5, p6⟩ := one3_prod u3 v1
  obtain ⟨p7, p8⟩ := one3_prod u1 v3
  obtain ⟨p9, p10⟩ := one3_prod u1 v2
  obtain ⟨p11, p12⟩ := one3_prod u2 v1
  have Ha := Lib.hid ha; clear ha
  have Hb := Lib.hid hb; clear hb
  have U1 := Lib.hid u1; clear u1
  have U2 := Lib.hid u2; clear u2
  have U3 := Lib.hid u3; clear u3
  have V1 := Lib.hid v1; clear v1
  have V2 := Lib.hid v2; clear v2
  have V3 := Lib.hid v3; clear v3
  go_enter Try.func65, Try.ntmps65
  go_wp2
  refine bodyPost_ret (results_cell_row rfl _ _ _ 25 _ (0, 0) _ rfl (new_at (by simp)) Try.underlying25 rfl (by kernel_rfl)) rfl ?_
  exact ⟨rfl, al3⟩
/-- a number of a vector by an entry of a turn -/
theorem unit_mul {x v : Int} (h : one3 x = true) (hv : -1000000 ≤ v ∧ v ≤ 1000000) : -1000000 ≤ v * x ∧ v * x ≤ 1000000 := one3_mul h hv
set_option maxRecDepth 100000 in
set_option maxHeartbeats 2000000 in
theorem sum_calls (m : M3) (v : V3) (w : World) (hm : unitM m = true) (hv : smallV 1000000 v) :
    Calls Try.prog 62 #[.agg #[.int .i64 m.1.1, .int .i64 m.1.2.1, .int .i64 m.1.2.2, .int .i64 m.2.1.1, .int .i64 m.2.1.2.1, .int .i64 m.2.1.2.2, .int .i64 m.2.2.1, .int .i64 m.2.2.2.1, .int .i64 m.2.2.2.2], .agg #[.int .i64 v.1, .int .i64 v.2.1, .int .i64 v.2.2]] w (VecPost (sumV m v) w) := by
  obtain ⟨⟨a1, a2, a3⟩, ⟨b1, b2, b3⟩, ⟨c1, c2, c3⟩⟩ := m
  obtain ⟨v1, v2, v3⟩ := v
  obtain ⟨hv1, hv2, hv3⟩ := hv
  unfold unitM at hm
  simp only [Bool.and_eq_true] at hm
  obtain ⟨⟨ha, hb⟩, hc⟩ := hm
  obtain ⟨x1, x2, x3⟩ := unitV_at ha
  obtain ⟨y1, y2, y3⟩ := unitV_at hb
  obtain ⟨z1, z2, z3⟩ := unitV_at hc
  simp only at hv1 hv2 hv3 x1 x2 x3 y1 y2 y3 z1 z2 z3
  obtain ⟨p1, q1⟩ := unit_mul x1 hv1
  obtain ⟨p2, q2⟩ := unit_mul x2 hv1
  obtain ⟨p3, q3⟩ := unit_mul x3 hv1
  obtain ⟨p4, q4⟩ := unit_mul y1 hv2
  obtain ⟨p5, q5⟩ := unit_mul y2 hv2
  obtain ⟨p6, q6⟩ := unit_mul y3 hv2
  obtain ⟨p7, q7⟩ := unit_mul z1 hv3
  obtain ⟨p8, q8⟩ := unit_mul z2 hv3
  obtain ⟨p9, q9⟩ := unit_mul z3 hv3
  have Ha := Lib.hid ha; clear ha
  have Hb := Lib.hid hb; clear hb
  have Hc := Lib.hid hc; clear hc
  have X1 := Lib.hid x1; clear x1
  have X2 := Lib.hid x2; clear x2
  have X3 := Lib.hid x3; clear x3
  have Y1 := Lib.hid y1; clear y1
  have Y2 := Lib.hid y2; clear y2
  have Y3 := Lib.hid y3; clear y3
  have Z1 := Lib.hid z1; clear z1
  have Z2 := Lib.hid z2; clear z2
  have Z3 := Lib.hid z3; clear z3
  have Hv1 := Lib.hid hv1; clear hv1
  have Hv2 := Lib.hid hv2; clear hv2
  have Hv3 := Lib.hid hv3; clear hv3
  go_enter Try.func62, Try.ntmps62
  go_wp2
  refine bodyPost_ret (results_cell_row rfl _ _ _ 25 _ (0, 0) _ rfl (new_at (by simp)) Try.underlying25 rfl (by kernel_rfl)) rfl ?_
  exact ⟨rfl, al3⟩
end Go.Proofs.Ytldccpmnboebmaa
