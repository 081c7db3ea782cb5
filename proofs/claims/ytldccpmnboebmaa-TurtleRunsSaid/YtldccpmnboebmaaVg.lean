/-
  Layers 16 and 17: the walks of fine, In, Check.
-/
import Derived.Test.YtldccpmnboebmaaVf
namespace Go.Proofs.Ytldccpmnboebmaa
open Go.RowKit Go.Sort
set_option linter.unusedVariables false

theorem ret_boolV {a b : Bool} (h : b = a) : Ending.returned (.bool a) = .returned (.bool b) := by rw [h]
set_option maxRecDepth 100000 in
set_option maxHeartbeats 2000000 in
theorem tfine_calls (v : V3) (w : World) : Calls Try.prog 42 #[.agg #[.int .i64 v.1, .int .i64 v.2.1, .int .i64 v.2.2]] w (BoolPost (inV (-1000000) v) w) := by
  obtain ⟨x, y, z⟩ := v
  have hi : ∀ b : Bool, (b = true ↔ (-1000000 ≤ x ∧ x ≤ 1000000) ∧ (-1000000 ≤ y ∧ y ≤ 1000000) ∧ (-1000000 ≤ z ∧ z ≤ 1000000)) → inV (-1000000) (x, y, z) = b := fun b hb => by rw [Bool.eq_iff_iff, inV_iff, hb]
  have Hi := Lib.hid hi; clear hi
  go_enter Try.func42, Try.ntmps42
  go_wp2
  all_goals
    go_ret
    refine ⟨ret_boolV (Hi.out _ ?_), al1⟩
    simp only [decide_eq_true_eq, Bool.false_eq_true, false_iff]
    omega
set_option maxRecDepth 100000 in
set_option maxHeartbeats 2000000 in
theorem ffine_calls (v : V3) (w : World) : Calls Try.prog 45 #[.agg #[.int .i64 v.1, .int .i64 v.2.1, .int .i64 v.2.2], .int .i64 (-1000000)] w (BoolPost (inV (-1000000) v) w) := by
  obtain ⟨x, y, z⟩ := v
  have hi : ∀ b : Bool, (b = true ↔ (-1000000 ≤ x ∧ x ≤ 1000000) ∧ (-1000000 ≤ y ∧ y ≤ 1000000) ∧ (-1000000 ≤ z ∧ z ≤ 1000000)) → inV (-1000000) (x, y, z) = b := fun b hb => by rw [Bool.eq_iff_iff, inV_iff, hb]
  have Hi := Lib.hid hi; clear hi
  go_enter Try.func45, Try.ntmps45
  go_wp2
  all_goals
    go_ret
    refine ⟨ret_boolV (Hi.out _ ?_), al1⟩
    simp only [decide_eq_true_eq, Bool.false_eq_true, false_iff]
    omega
set_option maxRecDepth 100000 in
set_option maxHeartbeats 2000000 in
theorem rIn_calls (v : V3) (w : World) : Calls Try.prog 26 #[.agg #[.int .i64 v.1, .int .i64 v.2.1, .int .i64 v.2.2], .int .i64 (-1000000)] w (BoolPost (inV (-1000000) v) w) := by
  obtain ⟨x, y, z⟩ := v
  have hi : ∀ b : Bool, (b = true ↔ (-1000000 ≤ x ∧ x ≤ 1000000) ∧ (-1000000 ≤ y ∧ y ≤ 1000000) ∧ (-1000000 ≤ z ∧ z ≤ 1000000)) → inV (-1000000) (x, y, z) = b := fun b hb => by rw [Bool.eq_iff_iff, inV_iff, hb]
  have Hi := Lib.hid hi; clear hi
  rcases (show ¬ -1000000 ≤ x ∨ (-1000000 ≤ x ∧ ¬ -1000000 ≤ y) ∨ (-1000000 ≤ x ∧ -1000000 ≤ y ∧ ¬ -1000000 ≤ z) ∨ (-1000000 ≤ x ∧ -1000000 ≤ y ∧ -1000000 ≤ z ∧ ¬ x ≤ 1000000) ∨ (-1000000 ≤ x ∧ -1000000 ≤ y ∧ -1000000 ≤ z ∧ x ≤ 1000000 ∧ ¬ y ≤ 1000000) ∨ (-1000000 ≤ x ∧ -1000000 ≤ y ∧ -1000000 ≤ z ∧ x ≤ 1000000 ∧ y ≤ 1000000 ∧ ¬ z ≤ 1000000) ∨ (-1000000 ≤ x ∧ -1000000 ≤ y ∧ -1000000 ≤ z ∧ x ≤ 1000000 ∧ y ≤ 1000000 ∧ z ≤ 1000000) from by omega) with h1 | ⟨h1, h2⟩ | ⟨h1, h2, h3⟩ | ⟨h1, h2, h3, h4⟩ | ⟨h1, h2, h3, h4, h5⟩ | ⟨h1, h2, h3, h4, h5, h6⟩ | ⟨h1, h2, h3, h4, h5, h6⟩
  all_goals
    go_enter Try.func26, Try.ntmps26
    go_wp2
    go_ret
    refine ⟨ret_boolV (Hi.out _ ?_), al1⟩
    simp only [Bool.false_eq_true, false_iff, true_iff]
    omega
set_option maxRecDepth 100000 in
set_option maxHeartbeats 2000000 in
theorem fCheck_calls (f : Fr) (w : World) : Calls Try.prog 21 #[.agg #[.int .u8 f.1, .int .i64 f.2.1, .int .i64 f.2.2.1, .int .i64 f.2.2.2]] w (IntPost (checkFr f) w) := by
  obtain ⟨t, v⟩ := f
  by_cases ht : t < 24
  · have hff : checkFr (t, v) = if inV (-1000000) v = true then 0 else 8 := by unfold checkFr; rw [if_pos ht]
    have hc := fun W => ffine_calls v W
    have ht' : ¬ 24 ≤ t := by omega
    cases hb : inV (-1000000) v
    all_goals
      rw [hb] at hc hff
      have Hb := Lib.hid hb; clear hb
      have Hc := Lib.hid hc; clear hc
      have Hff := Lib.hid hff; clear hff
      go_enter Try.func21, Try.ntmps21
      go_wp2_with fail
      refine (Hc.out _).mono ?_
      rintro e w1 ⟨rfl, b1⟩
      have B1 := Lib.hid b1; clear b1
      go_wp2
      go_ret
      exact ⟨by rw [Hff.out]; rfl, al1.trans (B1.out.mono al1.size)⟩
  · have hff : checkFr (t, v) = 8 := by unfold checkFr; rw [if_neg ht]
    have ht' : 24 ≤ t := by omega
    have Hff := Lib.hid hff; clear hff
    go_enter Try.func21, Try.ntmps21
    go_wp2
    go_ret
    exact ⟨by rw [Hff.out]; rfl, al1⟩
set_option maxRecDepth 100000 in
set_option maxHeartbeats 2000000 in
theorem rFCheck_calls (f : Fr) (w : World) : Calls Try.prog 24 #[.agg #[.int .u8 f.1, .int .i64 f.2.1, .int .i64 f.2.2.1, .int .i64 f.2.2.2]] w (IntPost (checkFr f) w) := by
  obtain ⟨t, v⟩ := f
  by_cases ht : t < 24
  · have hff : checkFr (t, v) = if inV (-1000000) v = true then 0 else 8 := by unfold checkFr; rw [if_pos ht]
    have hc := fun W => rIn_calls v W
    have ht' : ¬ 24 ≤ t := by omega
    cases hb : inV (-1000000) v
    all_goals
      rw [hb] at hc hff
      have Hb := Lib.hid hb; clear hb
      have Hc := Lib.hid hc; clear hc
      have Hff := Lib.hid hff; clear hff
      go_enter Try.func24, Try.ntmps24
      go_wp2_with fail
      refine (Hc.out _).mono ?_
      rintro e w1 ⟨rfl, b1⟩
      have B1 := Lib.hid b1; clear b1
      go_wp2
      go_ret
      exact ⟨by rw [Hff.out]; rfl, al1.trans (B1.out.mono al1.size)⟩
  · have hff : checkFr (t, v) = 8 := by unfold checkFr; rw [if_neg ht]
    have ht' : 24 ≤ t := by omega
    have Hff := Lib.hid hff; clear hff
    go_enter Try.func24, Try.ntmps24
    go_wp2
    go_ret
    exact ⟨by rw [Hff.out]; rfl, al1⟩
end Go.Proofs.Ytldccpmnboebmaa
