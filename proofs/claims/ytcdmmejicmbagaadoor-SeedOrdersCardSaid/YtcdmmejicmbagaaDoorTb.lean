/-
  Layer 5: the walks of Order (where it calls nothing of the library) and of the chapter's examples.
-/
import Derived.Test.YtcdmmejicmbagaaDoorSd
import Derived.Test.YtcdmmejicmbagaaDoorLi
namespace Go.Proofs.YtcdmmejicmbagaaDoor
open Go.RowKit
set_option linter.unusedVariables false

def NoOrder (w : World) (e : Ending) (w' : World) : Prop := e = .returned (.tuple #[.slice none 0 0, .int .i64 2]) ∧ Below w.heap.size w w'
set_option maxHeartbeats 1000000 in
theorem order_bad (s : Int) (p : ByteArray) (n : Int) (w : World) (hn : Fits .i64 n) (h : n < 0 ∨ 200 < n) : Calls Tryd.prog 11 #[.int .i64 s, .string p, .int .i64 n] w (NoOrder w) := by
  have hn' := hn.i64
  by_cases h1 : n < 0
  · go_enter Tryd.func11, Tryd.ntmps11
    go_wp2
    go_ret2
    exact ⟨rfl, Below.refl _ _⟩
  · have h2 : 200 < n := by omega
    clear h
    go_enter Tryd.func11, Tryd.ntmps11
    go_wp2
    go_ret2
    exact ⟨rfl, Below.refl _ _⟩
def OneOrder (l : List Int) (w : World) (e : Ending) (w' : World) : Prop := ∃ A c, e = .returned (.tuple #[.slice A l.length c, .int .i64 0]) ∧ SlAt (pI .i64) (Old w') w' A c l ∧ Below w.heap.size w w'
theorem make0 (wx : World) : (Instr.makeSlice 22 (.int .i64 0) (.int .i64 0)).run Tryd.prog wx = .ok (.slice (some ⟨wx.heap.size, 0, none⟩) 0 0) (wx.alloc (.cells #[] 3)) := by kernel_rfl
theorem make1 (wx : World) : (Instr.makeSlice 22 (.int .i64 1) (.int .i64 1)).run Tryd.prog wx = .ok (.slice (some ⟨wx.heap.size, 0, none⟩) 1 1) (wx.alloc (.cells #[.int .i64 0] 3)) := by kernel_rfl
set_option maxHeartbeats 2000000 in
theorem order_zero (s : Int) (p : ByteArray) (w : World) : Calls Tryd.prog 11 #[.int .i64 s, .string p, .int .i64 0] w (OneOrder [] w) := by
  have hmk := make0
  go_enter Tryd.func11, Tryd.ntmps11
  go_wp2
  go_loop [27] (fun i => i = .int .i64 0) (fun _ => 0)
  case atStart => rfl
  case round =>
    obtain rfl := hrel
    go_wp2
    go_loop [11] (fun i => i = .int .i64 (-1)) (fun _ => 0)
    case atStart => rfl
    case round =>
      obtain rfl := hrel
      go_wp2
      go_ret2
      exact ⟨some ⟨w.heap.size, 0, none⟩, 0, rfl, ⟨Nat.le_refl _, Nat.zero_le _, (fun e => by cases e), fun i x hx => by simp at hx⟩, (Below.refl _ _).alloc (Nat.le_refl _) _⟩
set_option maxHeartbeats 2000000 in
theorem order_one (s : Int) (p : ByteArray) (w : World) : Calls Tryd.prog 11 #[.int .i64 s, .string p, .int .i64 1] w (OneOrder [0] w) := by
  have hmk := make1
  have hblk0 := Blk.new w 3 #[.int .i64 0]
  have hb0 : Below w.heap.size w (w.alloc (.cells #[.int .i64 0] 3)) := (Below.refl _ _).alloc (Nat.le_refl _) _
  have Hblk0 := Lib.hid hblk0; clear hblk0
  have Hb0 := Lib.hid hb0; clear hb0
  go_enter Tryd.func11, Tryd.ntmps11
  go_wp2
  go_loopw [27] (fun i wr => ∃ k : Nat, k ≤ 1 ∧ i = .int .i64 k ∧ Hid (Blk wr w.heap.size 3 #[.int .i64 0]) ∧ Hid (Below w.heap.size w wr)) (fun i _ => 1 - (intOf i).toNat)
  case atStart => exact ⟨0, by omega, rfl, Hblk0, Hb0⟩
  case round =>
    obtain ⟨k, hk, rfl, hblk, hb⟩ := hrel
    by_cases hlt : k < 1
    · obtain rfl : k = 0 := by omega
      have q0 : wr.cell? ⟨w.heap.size, 0, none⟩ = some (.int .i64 0) := (hblk.out.cell 0).trans rfl
      have q1 := hblk.out.free 0
      have hs := hblk.out.set 0 (.int .i64 0)
      have Hs := Lib.hid hs; clear hs
      go_wp2
      go_roundw
      case rel => exact ⟨1, by omega, rfl, Hs.out, hb.out.setCell (Nat.le_refl _) _⟩
      case measure => simp [intOf]
    · obtain rfl : k = 1 := by omega
      obtain ⟨wo, rfl⟩ : ∃ wo : World, wo = wr := ⟨_, rfl⟩
      go_wp2
      go_loop [11] (fun i => i = .int .i64 0) (fun _ => 0)
      case atStart => rfl
      case round =>
        obtain rfl := hrel
        go_wp2
        go_ret2
        exact ⟨some ⟨w.heap.size, 0, none⟩, 1, rfl, sl_lit hblk.out (cellsAre_ints (xs := [0]) (fits_lit (by decide))) hblk.out.lt (by show 1 ≤ maxLen; decide) rfl, hb.out⟩
end Go.Proofs.YtcdmmejicmbagaaDoor
