/-
  Layers 16 and 17: the walks of the reference's Dot, steps, Frame, quarter.
-/
import Derived.Test.YtldccpmnboebmaaDoorM2
import Derived.Test.YtldccpmnboebmaaDoorAd
import Derived.Test.YtldccpmnboebmaaDoorVn
import Derived.Test.YtldccpmnboebmaaDoorVv
import Derived.Test.YtldccpmnboebmaaDoorLp
namespace Go.Proofs.YtldccpmnboebmaaDoor
open Go.RowKit Go.Sort
set_option linter.unusedVariables false

set_option maxRecDepth 100000 in
set_option maxHeartbeats 1000000 in
theorem dot_calls (a b : V3) (w : World) (ha : unitV a = true) (hb : unitV b = true) : Calls Tryd.prog 14 #[.agg #[.int .i64 a.1, .int .i64 a.2.1, .int .i64 a.2.2], .agg #[.int .i64 b.1, .int .i64 b.2.1, .int .i64 b.2.2]] w (IntPost (dotV a b) w) := by
  obtain ⟨a1, a2, a3⟩ := a
  obtain ⟨b1, b2, b3⟩ := b
  obtain ⟨u1, u2, u3⟩ := unitV_at ha
  obtain ⟨v1, v2, v3⟩ := unitV_at hb
  simp only at u1 u2 u3 v1 v2 v3
  obtain ⟨p1, p2⟩ := one3_prod u1 v1
  obtain ⟨p3, p4⟩ := one3_prod u2 v2
  obtain ⟨p5, p6⟩ := one3_prod u3 v3
  have Ha := Lib.hid ha; clear ha
  have Hb := Lib.hid hb; clear hb
  have U1 := Lib.hid u1; clear u1
  have U2 := Lib.hid u2; clear u2
  have U3 := Lib.hid u3; clear u3
  have V1 := Lib.hid v1; clear v1
  have V2 := Lib.hid v2; clear v2
  have V3 := Lib.hid v3; clear v3
  go_enter Tryd.func14, Tryd.ntmps14
  go_wp2
  go_ret
  exact ⟨rfl, al2⟩
/-- the cells of the reference's state -/
def sRow (c : Tur) : Array Value := #[.int .i64 c.1.2.1, .int .i64 c.1.2.2.1, .int .i64 c.1.2.2.2, .int .i64 (axT c.1.1.toNat).1.1, .int .i64 (axT c.1.1.toNat).1.2.1, .int .i64 (axT c.1.1.toNat).1.2.2, .int .i64 (axT c.1.1.toNat).2.1.1, .int .i64 (axT c.1.1.toNat).2.1.2.1, .int .i64 (axT c.1.1.toNat).2.1.2.2, .int .i64 (axT c.1.1.toNat).2.2.1, .int .i64 (axT c.1.1.toNat).2.2.2.1, .int .i64 (axT c.1.1.toNat).2.2.2.2, .int .i64 c.2]
def mRow (p : V3) (m : M3) (d : Int) : Array Value := #[.int .i64 p.1, .int .i64 p.2.1, .int .i64 p.2.2, .int .i64 m.1.1, .int .i64 m.1.2.1, .int .i64 m.1.2.2, .int .i64 m.2.1.1, .int .i64 m.2.1.2.1, .int .i64 m.2.1.2.2, .int .i64 m.2.2.1, .int .i64 m.2.2.2.1, .int .i64 m.2.2.2.2, .int .i64 d]
theorem sRow_m (c : Tur) : sRow c = mRow c.1.2 (axT c.1.1.toNat) c.2 := rfl
theorem turned_ax {t : Nat} (ht : t < 24) : turnedF (axT t) = (t : Int) := by
  have : ∀ t : Fin 24, turnedF (axT t.val) = (t.val : Int) := by decide +kernel
  exact this ⟨t, ht⟩
end Go.Proofs.YtldccpmnboebmaaDoor
