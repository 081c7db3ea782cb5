/-
  Layer 17: the walks of a turtle's axes, turn, ahead.
-/
import Derived.Test.YtldccpmnboebmaaDoorAe
import Derived.Test.YtldccpmnboebmaaDoorVn
import Derived.Test.YtldccpmnboebmaaDoorVr
import Derived.Test.YtldccpmnboebmaaDoorVv
import Derived.WalkLawsBesides
namespace Go.Proofs.YtldccpmnboebmaaDoor
open Go.RowKit Go.Sort
set_option linter.unusedVariables false

/-- the cells of a turtle on its way -/
def stRow (c : Tur) (b : Trop) (K L M : Value) : Array Value := #[.int .u8 c.1.1, .int .i64 c.1.2.1, .int .i64 c.1.2.2.1, .int .i64 c.1.2.2.2, .int .i64 c.2, .int .u8 b.1, .int .i64 b.2, K, L, M, .int .u8 0, .int .i64 0, .int .i64 0, .int .i64 0, .int .i64 0]
set_option maxRecDepth 100000 in
set_option maxHeartbeats 4000000 in
theorem tAxes_calls (g : Nat) (c : Tur) (b : Trop) (K L M : Value) (w : World) (hok : TurOk c) (hB : Blk w g 72 (stRow c b K L M)) : Calls Tryd.prog 59 #[.pointer (some ⟨g, 0, none⟩)] w (MatPost (axT c.1.1.toNat) w) := by
  have hax := fun W' => axesE_calls c.1.1.toNat hok.lt W'
  rw [hok.nat] at hax
  have hg := hB.lt
  obtain ⟨R, hR⟩ : ∃ m, axT c.1.1.toNat = m := ⟨_, rfl⟩
  rw [hR] at hax ⊢
  obtain ⟨W, hW⟩ : ∃ W, W = w.alloc (.cells #[.int .i64 0, .int .i64 0, .int .i64 0, .int .i64 0, .int .i64 0, .int .i64 0, .int .i64 0, .int .i64 0, .int .i64 0] 47) := ⟨_, rfl⟩
  have b0 : Blk W w.heap.size 47 #[.int .i64 0, .int .i64 0, .int .i64 0, .int .i64 0, .int .i64 0, .int .i64 0, .int .i64 0, .int .i64 0, .int .i64 0] := by rw [hW]; exact Blk.new _ _ _
  have t0 : RowKit.Below w.heap.size w W := by rw [hW]; exact al1
  have kB : Blk W g 72 (stRow c b K L M) := hB.same (t0.block _ hg)
  unfold stRow at hB
  have y0 := hB.cell 0
  have B0 := Lib.hid b0; clear b0
  have T0 := Lib.hid t0; clear t0
  have Hax := Lib.hid hax; clear hax
  have HR := Lib.hid hR; clear hR
  have HB := Lib.hid hB; clear hB
  have KB := Lib.hid kB; clear kB
  have Hok := Lib.hid hok; clear hok
  go_enter Tryd.func59, Tryd.ntmps59
  go_wp2_with fail
  rw [← hW]
  have HW := Lib.hid hW; clear hW
  refine (Hax.out _).mono ?_
  rintro e w1 ⟨rfl, d1⟩
  have k0 := B0.out.same (d1.block _ B0.out.lt)
  have t1 := T0.out.trans (d1.mono T0.out.size)
  clear y0
  obtain ⟨w2, hw2⟩ : ∃ W, W = w1.alloc (.cells #[.int .i64 R.1.1, .int .i64 R.1.2.1, .int .i64 R.1.2.2, .int .i64 R.2.1.1, .int .i64 R.2.1.2.1, .int .i64 R.2.1.2.2, .int .i64 R.2.2.1, .int .i64 R.2.2.2.1, .int .i64 R.2.2.2.2] 47) := ⟨_, rfl⟩
  obtain ⟨g3, hg3⟩ : ∃ g, g = w1.heap.size := ⟨_, rfl⟩
  have b3 : Blk w2 g3 47 #[.int .i64 R.1.1, .int .i64 R.1.2.1, .int .i64 R.1.2.2, .int .i64 R.2.1.1, .int .i64 R.2.1.2.1, .int .i64 R.2.1.2.2, .int .i64 R.2.2.1, .int .i64 R.2.2.2.1, .int .i64 R.2.2.2.2] := by rw [hw2, hg3]; exact Blk.new w1 _ _
  have ab : RowKit.Below w1.heap.size w1 w2 := by rw [hw2]; exact al1
  have k0' := k0.same (ab.block _ k0.lt)
  have t2 := t1.trans (ab.mono t1.size)
  clear k0 t1 ab d1
  have n0 := blk_row (cs := #[.int .i64 R.1.1, .int .i64 R.1.2.1, .int .i64 R.1.2.2, .int .i64 R.2.1.1, .int .i64 R.2.1.2.1, .int .i64 R.2.1.2.2, .int .i64 R.2.2.1, .int .i64 R.2.2.2.1, .int .i64 R.2.2.2.2]) k0'
  have n1 := row_below (g := w.heap.size) t2 (Nat.le_refl _) #[.int .i64 R.1.1, .int .i64 R.1.2.1, .int .i64 R.1.2.2, .int .i64 R.2.1.1, .int .i64 R.2.1.2.1, .int .i64 R.2.1.2.2, .int .i64 R.2.2.1, .int .i64 R.2.2.2.1, .int .i64 R.2.2.2.2]
  have y0 := b3.cell 0
  have y1 := b3.cell 1
  have y2 := b3.cell 2
  have y3 := b3.cell 3
  have y4 := b3.cell 4
  have y5 := b3.cell 5
  have y6 := b3.cell 6
  have y7 := b3.cell 7
  have y8 := b3.cell 8
  have N0 := Lib.hid n0; clear n0
  have N1 := Lib.hid n1; clear n1
  have T2 := Lib.hid t2; clear t2
  have B3 := Lib.hid b3; clear b3
  go_upto_region 2 with fail
  rw [← hw2, ← hg3]
  clear hw2 hg3
  go_wp2_with ((with_reducible show wpList _ _ _ (Oper.mk none _ _ _ _ _ :: _) _ _); refine wpList_storeG 47 (.tmp 2) (.tmp 15) _ #[.int .i64 R.1.1, .int .i64 R.1.2.1, .int .i64 R.1.2.2, .int .i64 R.2.1.1, .int .i64 R.2.1.2.1, .int .i64 R.2.1.2.2, .int .i64 R.2.2.1, .int .i64 R.2.2.2.1, .int .i64 R.2.2.2.2] rfl rfl rfl rfl k0' (by kernel_rfl) rfl (by simp [Value.oneCell']) rfl ?_)
  refine bodyPost_ret (results_cell_row rfl _ _ w.heap.size 47 _ (0, 0) _ rfl N0.out Tryd.underlying47 rfl (by kernel_rfl)) rfl ?_
  exact ⟨rfl, N1.out⟩
theorem turn_within {c : Tur} (hok : TurOk c) {x : Nat} (hx : x < 3) (n : Int) : withinF (((aboutF x n : Nat) : Int), (0, 0, 0)) c.1 = ((((rotF (abtA x) (abtB x) n c.1.1.toNat : Nat) : Int), c.1.2), 0) := by
  have h1 : checkFr (((aboutF x n : Nat) : Int), (0, 0, 0)) = 0 := checkFr_of (by have := namedF_lt (itM (abtA x) (abtB x) (n % 4).toNat (axT 0)); show ((namedF _ : Nat) : Int) < 24; omega) (show inV (-1000000) ((0 : Int), (0 : Int), (0 : Int)) = true by decide)
  have h2 : composeF (((aboutF x n : Nat) : Int), (0, 0, 0)) c.1 = (((rotF (abtA x) (abtB x) n c.1.1.toNat : Nat) : Int), c.1.2) := by
    unfold composeF imageF addV sumV
    simp only [Int.toNat_natCast, about_rot hx n hok.lt, Int.zero_mul, Int.zero_add]
  have h3 : checkFr (((rotF (abtA x) (abtB x) n c.1.1.toNat : Nat) : Int), c.1.2) = 0 := checkFr_of (by have := rot_lt (abtA x) (abtB x) n c.1.1.toNat; show ((rotF _ _ _ _ : Nat) : Int) < 24; omega) (checkFr_ok hok.ck).2
  unfold withinF
  rw [if_pos h1, if_pos hok.ck, h2, if_pos h3]
set_option maxRecDepth 100000 in
set_option maxHeartbeats 4000000 in
theorem tTurn_calls (g : Nat) (c : Tur) (b : Trop) (K L M : Value) (x : Nat) (hx : x < 3) (n : Int) (hn : -2000000000 ≤ n ∧ n ≤ 2000000000) (w : World) (hok : TurOk c) (hB : Blk w g 72 (stRow c b K L M)) : Calls Tryd.prog 41 #[.pointer (some ⟨g, 0, none⟩), .int .i64 (x : Int), .int .i64 n] w (fun e w' => e = .returned (.tuple #[]) ∧ Upd g 72 (stRow (turnF (abtA x) (abtB x) n c) b K L M) w w') := by
  have f1 := fun W' => about_calls x hx n hn W'
  have f2 := fun W' => withinE_calls (((aboutF x n : Nat) : Int), (0, 0, 0)) c.1 W' (by simp) hok.lo
  rw [turn_within hok hx n] at f2
  have hres : turnF (abtA x) (abtB x) n c = ((((rotF (abtA x) (abtB x) n c.1.1.toNat : Nat) : Int), c.1.2), c.2) := rfl
  obtain ⟨a, ha⟩ : ∃ a, aboutF x n = a := ⟨_, rfl⟩
  obtain ⟨r, hr⟩ : ∃ r, rotF (abtA x) (abtB x) n c.1.1.toNat = r := ⟨_, rfl⟩
  rw [ha] at f1 f2
  rw [hr] at f2 hres
  unfold FrErr at f2
  simp only at f2
  have hg := hB.lt
  unfold stRow at hB
  rw [hres]
  have hn1 := hn.1
  have hn2 := hn.2
  have F1 := Lib.hid f1; clear f1
  have F2 := Lib.hid f2; clear f2
  have Hres := Lib.hid hres; clear hres
  have HB := Lib.hid hB; clear hB
  have Hok := Lib.hid hok; clear hok
  have Ha := Lib.hid ha; clear ha
  have Hr := Lib.hid hr; clear hr
  clear hn
  go_enter Tryd.func41, Tryd.ntmps41
  go_wp2_with fail
  refine (F1.out _).mono ?_
  rintro e w1 ⟨rfl, d1⟩
  have k1 := HB.out.same (d1.block _ hg)
  have y0 := k1.cell 0
  have y1 := k1.cell 1
  have y2 := k1.cell 2
  have y3 := k1.cell 3
  have K1 := Lib.hid k1; clear k1
  have D1 := Lib.hid d1; clear d1
  go_wp2_with fail
  refine (F2.out _).mono ?_
  rintro e w2 ⟨rfl, d2⟩
  have hz1 := D1.out.size
  have k2 := K1.out.same (d2.block _ (by omega))
  have t2 := D1.out.trans (d2.mono hz1)
  clear y0 y1 y2 y3
  obtain ⟨w3, hw3⟩ : ∃ W, W = w2.alloc (.cells #[.int .u8 (r : Int), .int .i64 c.1.2.1, .int .i64 c.1.2.2.1, .int .i64 c.1.2.2.2] 26) := ⟨_, rfl⟩
  obtain ⟨g8, hg8⟩ : ∃ g, g = w2.heap.size := ⟨_, rfl⟩
  have b8 : Blk w3 g8 26 #[.int .u8 (r : Int), .int .i64 c.1.2.1, .int .i64 c.1.2.2.1, .int .i64 c.1.2.2.2] := by rw [hw3, hg8]; exact Blk.new w2 _ _
  have ab : RowKit.Below w2.heap.size w2 w3 := by rw [hw3]; exact al1
  have k3 := k2.same (ab.block _ k2.lt)
  have t3 := t2.trans (ab.mono t2.size)
  have y0 := b8.cell 0
  have y1 := b8.cell 1
  have y2 := b8.cell 2
  have y3 := b8.cell 3
  have hfin := Upd.after t3 ((Upd.refl k3).setRow (stRow (((r : Int), c.1.2), c.2) b K L M))
  clear k2 t2 d2 ab
  have T3 := Lib.hid t3; clear t3
  have B8 := Lib.hid b8; clear b8
  have Hfin := Lib.hid hfin; clear hfin
  go_upto_region 2 with fail
  rw [← hw3, ← hg8]
  clear hw3 hg8
  go_wp2_with ((with_reducible show wpList _ _ _ (Oper.mk none _ _ _ _ _ :: _) _ _); refine wpList_storeAtG 26 (.tmp 31) (.tmp 28) 0 _ #[.int .u8 (r : Int), .int .i64 c.1.2.1, .int .i64 c.1.2.2.1, .int .i64 c.1.2.2.2] (stRow (((r : Int), c.1.2), c.2) b K L M) rfl rfl rfl rfl k3 (by kernel_rfl) (by simp) (by simp [Value.oneCell']) rfl rfl ?_)
  go_end0
  exact ⟨rfl, Hfin.out⟩
end Go.Proofs.YtldccpmnboebmaaDoor
