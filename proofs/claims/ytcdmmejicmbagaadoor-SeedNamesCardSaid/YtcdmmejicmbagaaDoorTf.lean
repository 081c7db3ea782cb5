/-
  Layer 5: the walk of SeedNames.
-/
import Derived.Test.YtcdmmejicmbagaaDoorTc
namespace Go.Proofs.YtcdmmejicmbagaaDoor
open Go.RowKit
set_option linter.unusedVariables false

theorem names_draws : drawF 0 ⟨#[]⟩ 0 = (0, 2) ∧ drawF 0 ⟨#[]⟩ 1000000001 = (0, 2) := ⟨by unfold drawF; rw [if_pos (by omega)], by unfold drawF; rw [if_pos (by omega)]⟩
theorem names_picks : pickF [] 0 = (0, 2) ∧ pickF [0, 0] 5 = (0, 2) ∧ pickF [2, -1] 5 = (0, 2) ∧ pickF [1000000000, 1] 5 = (0, 2) ∧ pickF [1000000000] 18446744073709551615 = (0, 0) ∧ pickF [0, 3] 9 = (1, 0) := by decide +kernel
theorem names_bad : chooseF 1 ⟨#[97]⟩ [-1, 2] = (0, 2) := by
  unfold chooseF pickF; rw [if_pos (by decide)]
theorem names_many (l : List Int) (h : 200 < l.length) (x : Int) : pickF l x = (0, 2) := by
  unfold pickF; rw [if_pos (by unfold sumW; rw [if_pos h])]
theorem info_intN : (Tryd.prog.info? 3).map (fun i => (i.zero, i.size, i.bytes)) = some (some (.int .i64 0), 1, 8) := by kernel_rfl
def bigZ : Array Value := madeCells #[Value.int .i64 0] 201
theorem make201 (wx : World) : (Instr.makeSlice 22 (.int .i64 201) (.int .i64 201)).run Tryd.prog wx = .ok (.slice (some ⟨wx.heap.size, 0, none⟩) 201 201) (wx.alloc (.cells bigZ 3)) :=
  run_make_row' (P := Tryd.prog) 22 3 (.int .i64 0) 8 Tryd.underlying22 info_intN rfl .i64 .i64 201 (by omega) (by omega) wx
theorem pick201 (wx : World) : Calls Tryd.prog 9 #[.slice (some ⟨wx.heap.size, 0, none⟩) 201 201, .int .u64 5] (wx.alloc (.cells bigZ 3)) (PairPost (0, 2) (wx.alloc (.cells bigZ 3))) := by
  have hb : Blk (wx.alloc (.cells bigZ 3)) wx.heap.size 3 (cellsN 201 (fun _ => 0)) := by rw [← cellsN_made]; exact Blk.new _ _ _
  have hs : SlAt (pI .i64) (Old (wx.alloc (.cells bigZ 3))) (wx.alloc (.cells bigZ 3)) (some ⟨wx.heap.size, 0, none⟩) 201 ((List.range 201).map fun _ => 0) := sl_of_blk hb hb.lt (by decide) fun i _ => fits_i64 (by decide)
  have hc := pick_calls _ _ _ 5 _ hs (by omega)
  rw [names_many _ (by rw [List.length_map, List.length_range]; decide), List.length_map, List.length_range] at hc
  exact hc
set_option maxRecDepth 100000 in
set_option maxHeartbeats 8000000 in
theorem seedNames_walk (w : World) : Calls Tryd.prog 7 #[] w (BoolPost true w) := by
  have hnd := names_draws
  have hnp := names_picks
  have hmk := make201
  have Hnd := Lib.hid hnd; clear hnd
  have Hnp := Lib.hid hnp; clear hnp
  have Hb0 := Lib.hid (Below.refl w.heap.size w)
  have z0 := Hb0.out.size
  go_enter Tryd.func7, Tryd.ntmps7
  have cc := draw_calls 0 ⟨#[]⟩ 0 w (fits_i64 (by decide)) (by decide) (fits_i64 (by decide))
  rw [Hnd.out.1] at cc
  have Cc := Lib.hid cc
  clear cc
  go_wp2_with fail
  refine Cc.out.mono ?_
  rintro e w1 ⟨rfl, hb⟩
  have Hb1 := Lib.hid (Hb0.out.trans ((hb).mono z0))
  have z1 := Hb1.out.size
  clear hb Cc
  have cc := draw_calls 0 ⟨#[]⟩ 1000000001 w1 (fits_i64 (by decide)) (by decide) (fits_i64 (by decide))
  rw [Hnd.out.2] at cc
  have Cc := Lib.hid cc
  clear cc
  go_wp2_with fail
  refine Cc.out.mono ?_
  rintro e w2 ⟨rfl, hb⟩
  have Hb2 := Lib.hid (Hb1.out.trans ((hb).mono z1))
  have z2 := Hb2.out.size
  clear hb Cc
  have cc := pick_calls none 0 [] 0 w2 ⟨Nat.le_refl _, Nat.zero_le _, (fun _ => rfl), fun i x hx => by simp at hx⟩ (by omega)
  rw [Hnp.out.1] at cc
  have Cc := Lib.hid cc
  clear cc
  go_wp2_with fail
  refine Cc.out.mono ?_
  rintro e w3 ⟨rfl, hb⟩
  have Hb3 := Lib.hid (Hb2.out.trans ((hb).mono z2))
  have z3 := Hb3.out.size
  clear hb Cc
  have hL := Lib.hid (show SlAt (pI .i64) (Old (w3.alloc (.cells #[.int .i64 0, .int .i64 0] 3))) (w3.alloc (.cells #[.int .i64 0, .int .i64 0] 3)) (some ⟨w3.heap.size, 0, none⟩) 2 [0, 0] from sl_lit (Blk.new _ _ _) (ints_lit (xs := [0, 0]) (by decide)) (by show _ < _; simp) (by show 2 ≤ maxLen; decide) rfl)
  have cc := pick_calls (some ⟨w3.heap.size, 0, none⟩) 2 [0, 0] 5 _ hL.out (by omega)
  rw [Hnp.out.2.1] at cc
  have Cc := Lib.hid cc
  clear cc
  go_wp2_with fail
  refine Cc.out.mono ?_
  rintro e w4 ⟨rfl, hb⟩
  have Hb4 := Lib.hid (Hb3.out.trans (((al (.cells #[.int .i64 0, .int .i64 0] 3)).trans (hb.mono (by simp))).mono z3))
  have z4 := Hb4.out.size
  clear hb Cc hL
  have hL := Lib.hid (show SlAt (pI .i64) (Old (w4.alloc (.cells #[.int .i64 2, .int .i64 (-1)] 3))) (w4.alloc (.cells #[.int .i64 2, .int .i64 (-1)] 3)) (some ⟨w4.heap.size, 0, none⟩) 2 [2, -1] from sl_lit (Blk.new _ _ _) (ints_lit (xs := [2, -1]) (by decide)) (by show _ < _; simp) (by show 2 ≤ maxLen; decide) rfl)
  have cc := pick_calls (some ⟨w4.heap.size, 0, none⟩) 2 [2, -1] 5 _ hL.out (by omega)
  rw [Hnp.out.2.2.1] at cc
  have Cc := Lib.hid cc
  clear cc
  go_wp2_with fail
  refine Cc.out.mono ?_
  rintro e w5 ⟨rfl, hb⟩
  have Hb5 := Lib.hid (Hb4.out.trans (((al (.cells #[.int .i64 2, .int .i64 (-1)] 3)).trans (hb.mono (by simp))).mono z4))
  have z5 := Hb5.out.size
  clear hb Cc hL
  have hL := Lib.hid (show SlAt (pI .i64) (Old (w5.alloc (.cells #[.int .i64 1000000000, .int .i64 1] 3))) (w5.alloc (.cells #[.int .i64 1000000000, .int .i64 1] 3)) (some ⟨w5.heap.size, 0, none⟩) 2 [1000000000, 1] from sl_lit (Blk.new _ _ _) (ints_lit (xs := [1000000000, 1]) (by decide)) (by show _ < _; simp) (by show 2 ≤ maxLen; decide) rfl)
  have cc := pick_calls (some ⟨w5.heap.size, 0, none⟩) 2 [1000000000, 1] 5 _ hL.out (by omega)
  rw [Hnp.out.2.2.2.1] at cc
  have Cc := Lib.hid cc
  clear cc
  go_wp2_with fail
  refine Cc.out.mono ?_
  rintro e w6 ⟨rfl, hb⟩
  have Hb6 := Lib.hid (Hb5.out.trans (((al (.cells #[.int .i64 1000000000, .int .i64 1] 3)).trans (hb.mono (by simp))).mono z5))
  have z6 := Hb6.out.size
  clear hb Cc hL
  have cc := pick201 w6
  have Cc := Lib.hid cc
  clear cc
  go_wp2_with fail
  refine Cc.out.mono ?_
  rintro e w7 ⟨rfl, hb⟩
  have Hb7 := Lib.hid (Hb6.out.trans (((al (.cells bigZ 3)).trans (hb.mono (by simp))).mono z6))
  have z7 := Hb7.out.size
  clear hb Cc hmk
  have hL := Lib.hid (show SlAt (pI .i64) (Old (w7.alloc (.cells #[.int .i64 (-1), .int .i64 2] 3))) (w7.alloc (.cells #[.int .i64 (-1), .int .i64 2] 3)) (some ⟨w7.heap.size, 0, none⟩) 2 [-1, 2] from sl_lit (Blk.new _ _ _) (ints_lit (xs := [-1, 2]) (by decide)) (by show _ < _; simp) (by show 2 ≤ maxLen; decide) rfl)
  have cc := choose_calls 1 ⟨#[97]⟩ (some ⟨w7.heap.size, 0, none⟩) 2 [-1, 2] _ (fits_i64 (by decide)) (by decide) hL.out
  rw [names_bad] at cc
  have Cc := Lib.hid cc
  clear cc
  go_wp2_with fail
  refine Cc.out.mono ?_
  rintro e w8 ⟨rfl, hb⟩
  have Hb8 := Lib.hid (Hb7.out.trans (((al (.cells #[.int .i64 (-1), .int .i64 2] 3)).trans (hb.mono (by simp))).mono z7))
  have z8 := Hb8.out.size
  clear hb Cc hL
  have cc := order_bad 1 ⟨#[97]⟩ (-1) w8 (fits_i64 (by decide)) (by omega)
  have Cc := Lib.hid cc
  clear cc
  go_wp2_with fail
  refine Cc.out.mono ?_
  rintro e w9 ⟨rfl, hb⟩
  have Hb9 := Lib.hid (Hb8.out.trans ((hb).mono z8))
  have z9 := Hb9.out.size
  clear hb Cc
  have cc := order_bad 1 ⟨#[97]⟩ 201 w9 (fits_i64 (by decide)) (by omega)
  have Cc := Lib.hid cc
  clear cc
  go_wp2_with fail
  refine Cc.out.mono ?_
  rintro e w10 ⟨rfl, hb⟩
  have Hb10 := Lib.hid (Hb9.out.trans ((hb).mono z9))
  have z10 := Hb10.out.size
  clear hb Cc
  have hL := Lib.hid (show SlAt (pI .i64) (Old (w10.alloc (.cells #[.int .i64 1000000000] 3))) (w10.alloc (.cells #[.int .i64 1000000000] 3)) (some ⟨w10.heap.size, 0, none⟩) 1 [1000000000] from sl_lit (Blk.new _ _ _) (ints_lit (xs := [1000000000]) (by decide)) (by show _ < _; simp) (by show 1 ≤ maxLen; decide) rfl)
  have cc := pick_calls (some ⟨w10.heap.size, 0, none⟩) 1 [1000000000] 18446744073709551615 _ hL.out (by omega)
  rw [Hnp.out.2.2.2.2.1] at cc
  have Cc := Lib.hid cc
  clear cc
  go_wp2_with fail
  refine Cc.out.mono ?_
  rintro e w11 ⟨rfl, hb⟩
  have Hb11 := Lib.hid (Hb10.out.trans (((al (.cells #[.int .i64 1000000000] 3)).trans (hb.mono (by simp))).mono z10))
  have z11 := Hb11.out.size
  clear hb Cc hL
  have cc := order_zero 1 ⟨#[97]⟩ w11
  have Cc := Lib.hid cc
  clear cc
  go_wp2_with fail
  refine Cc.out.mono ?_
  rintro e w12 ⟨Ao, co, rfl, hso, hb⟩
  have Hb12 := Lib.hid (Hb11.out.trans ((hb).mono z11))
  have z12 := Hb12.out.size
  clear hb Cc hso
  have hL := Lib.hid (show SlAt (pI .i64) (Old (w12.alloc (.cells #[.int .i64 0, .int .i64 3] 3))) (w12.alloc (.cells #[.int .i64 0, .int .i64 3] 3)) (some ⟨w12.heap.size, 0, none⟩) 2 [0, 3] from sl_lit (Blk.new _ _ _) (ints_lit (xs := [0, 3]) (by decide)) (by show _ < _; simp) (by show 2 ≤ maxLen; decide) rfl)
  have cc := pick_calls (some ⟨w12.heap.size, 0, none⟩) 2 [0, 3] 9 _ hL.out (by omega)
  rw [Hnp.out.2.2.2.2.2] at cc
  have Cc := Lib.hid cc
  clear cc
  go_wp2_with fail
  refine Cc.out.mono ?_
  rintro e w13 ⟨rfl, hb⟩
  have Hb13 := Lib.hid (Hb12.out.trans (((al (.cells #[.int .i64 0, .int .i64 3] 3)).trans (hb.mono (by simp))).mono z12))
  have z13 := Hb13.out.size
  clear hb Cc hL
  go_wp2_with fail
  refine (alive_calls w13).mono ?_
  rintro e w14 ⟨rfl, hb⟩
  have hbw := Hb13.out.trans (hb.mono z13)
  have Hbw := Lib.hid hbw; clear hbw
  clear hb
  go_wp2
  go_ret
  exact ⟨rfl, Hbw.out⟩
end Go.Proofs.YtcdmmejicmbagaaDoor
