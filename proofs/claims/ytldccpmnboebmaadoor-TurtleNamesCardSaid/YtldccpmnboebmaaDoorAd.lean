/-
  Layer 16: one row written in place; the walk of the program's turn by one quarter.
-/
import Derived.Test.YtldccpmnboebmaaDoorM2
import Derived.Test.YtldccpmnboebmaaDoorVm
import Derived.RegionTactic
import Derived.BigRegion
import Derived.ChangeAlike
namespace Go.Proofs.YtldccpmnboebmaaDoor
open Go.RowKit Go.Sort
set_option linter.unusedVariables false

/-- what a call did that writes one block -/
structure Upd (g : Nat) (t : TypeId) (row : Array Value) (w w' : World) : Prop where
  blk : Blk w' g t row
  oth : ∀ k, k < w.heap.size → k ≠ g → w'.heap[k]? = w.heap[k]?
  bel : ∀ B, B ≤ g → B ≤ w.heap.size → RowKit.Below B w w'
section
variable {g : Nat} {t : TypeId} {row row' : Array Value} {w w1 w' : World}
theorem Upd.refl (h : Blk w g t row) : Upd g t row w w := ⟨h, fun _ _ _ => rfl, fun B _ hB => RowKit.Below.refl _ _⟩
theorem Upd.size (h : Upd g t row w w') : w.heap.size ≤ w'.heap.size := (h.bel 0 (Nat.zero_le _) (Nat.zero_le _)).size
theorem Upd.set (h : Upd g t row w w') (i : Nat) (v : Value) : Upd g t (row.setIfInBounds i v) w (w'.setCell ⟨g, i, none⟩ v) :=
  ⟨h.blk.set i v, fun k hk hne => (Below.heap_setCell _ _ _ _ hne).trans (h.oth k hk hne), fun B h1 h2 => (h.bel B h1 h2).setCell h1 v⟩
theorem Upd.setRow (h : Upd g t row w w') (r : Array Value) : Upd g t r w (w'.setRow g r) :=
  ⟨blk_row h.blk, fun k hk hne => (setRow_other w' g k r hne).trans (h.oth k hk hne), fun B h1 h2 => row_below (h.bel B h1 h2) h1 r⟩
theorem Upd.drew (h : Upd g t row w w') : Upd g t row w w'.drew := ⟨h.blk, h.oth, fun B h1 h2 => below_drew (h.bel B h1 h2)⟩
theorem Upd.trans (h : Upd g t row w w1) (h' : Upd g t row' w1 w') : Upd g t row' w w' :=
  ⟨h'.blk, fun k hk hne => (h'.oth k (Nat.lt_of_lt_of_le hk h.size) hne).trans (h.oth k hk hne), fun B h1 h2 => (h.bel B h1 h2).trans (h'.bel B h1 (Nat.le_trans h2 h.size))⟩
theorem Upd.after (hb : RowKit.Below w.heap.size w w1) (h' : Upd g t row w1 w') : Upd g t row w w' :=
  ⟨h'.blk, fun k hk hne => (h'.oth k (Nat.lt_of_lt_of_le hk hb.size) hne).trans (hb.block k hk), fun B h1 h2 => (hb.mono h2).trans (h'.bel B h1 (Nat.le_trans h2 hb.size))⟩
theorem Upd.then (h : Upd g t row w w1) (hb : RowKit.Below w1.heap.size w1 w') : Upd g t row w w' :=
  ⟨h.blk.same (hb.block _ h.blk.lt), fun k hk hne => (hb.block k (Nat.lt_of_lt_of_le hk h.size)).trans (h.oth k hk hne), fun B h1 h2 => (h.bel B h1 h2).trans (hb.mono (Nat.le_trans h2 h.size))⟩
theorem Upd.as (h : Upd g t row w w') (e : row = row') : Upd g t row' w w' := e ▸ h
theorem Own.upd {α : Type} {E : Rp α} {e : TypeId} {base : Nat} {v : Value} {xs : List α} (h : Own E e base (fun _ => False) w v xs) (hu : Upd g t row w w') (hg : g < base) : Own E e base (fun _ => False) w' v xs :=
  h.keepG (fun k hk hG => hu.oth k hk (by
    rcases hG with hG | hG
    · exact hG.elim
    · have := (h.lt k hG).1
      omega)) hu.size
end

theorem one3_le {x : Int} (h : one3 x = true) : -1 ≤ x ∧ x ≤ 1 := by
  unfold one3 at h
  simp only [Bool.or_eq_true, beq_iff_eq] at h
  omega
set_option maxRecDepth 100000 in
set_option maxHeartbeats 4000000 in
theorem quarter0_calls (gx gm : Nat) (m : M3) (w : World) (hm : unitM m = true) (hx : Blk w gx 3 #[.int .i64 0]) (hB : Blk w gm 47 (matC m)) :
    Calls Tryd.prog 71 #[.pointer (some ⟨gx, 0, none⟩), .pointer (some ⟨gm, 0, none⟩)] w (fun e w' => e = .returned (.tuple #[]) ∧ Upd gm 47 (matC (quM 1 2 m)) w w') := by
  obtain ⟨⟨a1, a2, a3⟩, ⟨b1, b2, b3⟩, ⟨c1, c2, c3⟩⟩ := m
  obtain ⟨ua, ub, uc⟩ := unitM_at hm
  obtain ⟨u1, u2, u3⟩ := unitV_at ub
  have z1 := one3_le u1
  have z2 := one3_le u2
  have z3 := one3_le u3
  unfold matC at hB
  simp only at hB z1 z2 z3
  have f3 := hB.free 3
  have y3 := hB.cell 3
  have f4 := hB.free 4
  have y4 := hB.cell 4
  have f5 := hB.free 5
  have y5 := hB.cell 5
  have f6 := hB.free 6
  have y6 := hB.cell 6
  have f7 := hB.free 7
  have y7 := hB.cell 7
  have f8 := hB.free 8
  have y8 := hB.cell 8
  have x0 := hx.cell 0
  have Hm := Lib.hid hm; clear hm
  have Hx := Lib.hid hx; clear hx
  have Ua := Lib.hid ua; clear ua
  have Ub := Lib.hid ub; clear ub
  have Uc := Lib.hid uc; clear uc
  have U1 := Lib.hid u1; clear u1
  have U2 := Lib.hid u2; clear u2
  have U3 := Lib.hid u3; clear u3
  have HB := Lib.hid hB; clear hB
  go_enter Tryd.func71, Tryd.ntmps71
  go_wp2
  go_region
  go_wp2
  go_region
  go_end0
  exact ⟨rfl, ((((((((Upd.refl HB.out).set 3 (.int .i64 c1)).set 4 (.int .i64 c2)).set 5 (.int .i64 c3)).set 6 (.int .i64 (-b1))).set 7 (.int .i64 (-b2))).set 8 (.int .i64 (-b3))).drew.drew).as (by simp [matC, quM, putM, axM, negV])⟩
set_option maxRecDepth 100000 in
set_option maxHeartbeats 4000000 in
theorem quarter1_calls (gx gm : Nat) (m : M3) (w : World) (hm : unitM m = true) (hx : Blk w gx 3 #[.int .i64 1]) (hB : Blk w gm 47 (matC m)) :
    Calls Tryd.prog 71 #[.pointer (some ⟨gx, 0, none⟩), .pointer (some ⟨gm, 0, none⟩)] w (fun e w' => e = .returned (.tuple #[]) ∧ Upd gm 47 (matC (quM 2 0 m)) w w') := by
  obtain ⟨⟨a1, a2, a3⟩, ⟨b1, b2, b3⟩, ⟨c1, c2, c3⟩⟩ := m
  obtain ⟨ua, ub, uc⟩ := unitM_at hm
  obtain ⟨u1, u2, u3⟩ := unitV_at uc
  have z1 := one3_le u1
  have z2 := one3_le u2
  have z3 := one3_le u3
  unfold matC at hB
  simp only at hB z1 z2 z3
  have f0 := hB.free 0
  have y0 := hB.cell 0
  have f1 := hB.free 1
  have y1 := hB.cell 1
  have f2 := hB.free 2
  have y2 := hB.cell 2
  have f6 := hB.free 6
  have y6 := hB.cell 6
  have f7 := hB.free 7
  have y7 := hB.cell 7
  have f8 := hB.free 8
  have y8 := hB.cell 8
  have x0 := hx.cell 0
  have Hm := Lib.hid hm; clear hm
  have Hx := Lib.hid hx; clear hx
  have Ua := Lib.hid ua; clear ua
  have Ub := Lib.hid ub; clear ub
  have Uc := Lib.hid uc; clear uc
  have U1 := Lib.hid u1; clear u1
  have U2 := Lib.hid u2; clear u2
  have U3 := Lib.hid u3; clear u3
  have HB := Lib.hid hB; clear hB
  go_enter Tryd.func71, Tryd.ntmps71
  go_wp2
  go_region
  go_wp2
  go_region
  go_end0
  exact ⟨rfl, ((((((((Upd.refl HB.out).set 6 (.int .i64 a1)).set 7 (.int .i64 a2)).set 8 (.int .i64 a3)).set 0 (.int .i64 (-c1))).set 1 (.int .i64 (-c2))).set 2 (.int .i64 (-c3))).drew.drew).as (by simp [matC, quM, putM, axM, negV])⟩
set_option maxRecDepth 100000 in
set_option maxHeartbeats 4000000 in
theorem quarter2_calls (gx gm : Nat) (m : M3) (w : World) (hm : unitM m = true) (hx : Blk w gx 3 #[.int .i64 2]) (hB : Blk w gm 47 (matC m)) :
    Calls Tryd.prog 71 #[.pointer (some ⟨gx, 0, none⟩), .pointer (some ⟨gm, 0, none⟩)] w (fun e w' => e = .returned (.tuple #[]) ∧ Upd gm 47 (matC (quM 0 1 m)) w w') := by
  obtain ⟨⟨a1, a2, a3⟩, ⟨b1, b2, b3⟩, ⟨c1, c2, c3⟩⟩ := m
  obtain ⟨ua, ub, uc⟩ := unitM_at hm
  obtain ⟨u1, u2, u3⟩ := unitV_at ua
  have z1 := one3_le u1
  have z2 := one3_le u2
  have z3 := one3_le u3
  unfold matC at hB
  simp only at hB z1 z2 z3
  have f0 := hB.free 0
  have y0 := hB.cell 0
  have f1 := hB.free 1
  have y1 := hB.cell 1
  have f2 := hB.free 2
  have y2 := hB.cell 2
  have f3 := hB.free 3
  have y3 := hB.cell 3
  have f4 := hB.free 4
  have y4 := hB.cell 4
  have f5 := hB.free 5
  have y5 := hB.cell 5
  have x0 := hx.cell 0
  have Hm := Lib.hid hm; clear hm
  have Hx := Lib.hid hx; clear hx
  have Ua := Lib.hid ua; clear ua
  have Ub := Lib.hid ub; clear ub
  have Uc := Lib.hid uc; clear uc
  have U1 := Lib.hid u1; clear u1
  have U2 := Lib.hid u2; clear u2
  have U3 := Lib.hid u3; clear u3
  have HB := Lib.hid hB; clear hB
  go_enter Tryd.func71, Tryd.ntmps71
  go_wp2
  go_region
  go_wp2
  go_region
  go_end0
  exact ⟨rfl, ((((((((Upd.refl HB.out).set 0 (.int .i64 b1)).set 1 (.int .i64 b2)).set 2 (.int .i64 b3)).set 3 (.int .i64 (-a1))).set 4 (.int .i64 (-a2))).set 5 (.int .i64 (-a3))).drew.drew).as (by simp [matC, quM, putM, axM, negV])⟩
theorem quarterC_calls (x : Nat) (hx3 : x < 3) (gx gm : Nat) (m : M3) (w : World) (hm : unitM m = true) (hx : Blk w gx 3 #[.int .i64 (x : Int)]) (hB : Blk w gm 47 (matC m)) :
    Calls Tryd.prog 71 #[.pointer (some ⟨gx, 0, none⟩), .pointer (some ⟨gm, 0, none⟩)] w (fun e w' => e = .returned (.tuple #[]) ∧ Upd gm 47 (matC (quM (abtA x) (abtB x) m)) w w') := by
  rcases (show x = 0 ∨ x = 1 ∨ x = 2 from by omega) with rfl | rfl | rfl
  · exact quarter0_calls gx gm m w hm hx hB
  · exact quarter1_calls gx gm m w hm hx hB
  · exact quarter2_calls gx gm m w hm hx hB
end Go.Proofs.YtldccpmnboebmaaDoor
