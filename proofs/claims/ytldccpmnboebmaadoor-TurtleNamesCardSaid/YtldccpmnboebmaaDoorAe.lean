/-
  Layer 16: the walks of About and Axes.
-/
import Derived.Test.YtldccpmnboebmaaDoorAd
import Derived.Test.YtldccpmnboebmaaDoorVh
namespace Go.Proofs.YtldccpmnboebmaaDoor
open Go.RowKit Go.Sort
set_option linter.unusedVariables false

theorem unit_it : ∀ (x : Fin 3) (k : Fin 5), unitM (itM (abtA x.val) (abtB x.val) k.val (axT 0)) = true := by decide +kernel
theorem quarters (n : Int) : ((n.tmod 4) + 4).tmod 4 = ((n % 4).toNat : Int) := by
  rcases Int.le_total 0 n with h | h
  · rw [Int.tmod_eq_emod_of_nonneg h, Int.tmod_eq_emod_of_nonneg (by omega)]
    omega
  · obtain ⟨m, rfl⟩ : ∃ m, n = -m := ⟨-n, by omega⟩
    have hm : 0 ≤ m := by omega
    rw [Int.neg_tmod, Int.tmod_eq_emod_of_nonneg hm, Int.tmod_eq_emod_of_nonneg (show 0 ≤ -(m % 4) + 4 by omega)]
    omega
theorem tmod_le (n : Int) : -4 < n.tmod 4 ∧ n.tmod 4 < 4 := by
  rcases Int.le_total 0 n with h | h
  · rw [Int.tmod_eq_emod_of_nonneg h]
    omega
  · obtain ⟨m, rfl⟩ : ∃ m, n = -m := ⟨-n, by omega⟩
    rw [Int.neg_tmod, Int.tmod_eq_emod_of_nonneg (by omega)]
    omega
set_option maxRecDepth 100000 in
set_option maxHeartbeats 4000000 in
theorem about_calls (x : Nat) (hx : x < 3) (n : Int) (hn : -2000000000 ≤ n ∧ n ≤ 2000000000) (w : World) : Calls Tryd.prog 61 #[.int .i64 (x : Int), .int .i64 n] w (fun e w' => e = .returned (.tuple #[.int .u8 (aboutF x n), .int .i64 0]) ∧ RowKit.Below w.heap.size w w') := by
  have hmf : ∀ (fn : Fn) (first cap : Array Value) (w : World), (Instr.makeFunc fn first cap).run Tryd.prog w = .ok (.func fn first cap) w := fun _ _ _ _ => rfl
  have hq := quarters n
  obtain ⟨hr1, hr2⟩ := tmod_le n
  have hq4 := q4 n
  have hres : aboutF x n = namedF (itM (abtA x) (abtB x) (n % 4).toNat (axT 0)) := rfl
  obtain ⟨q, hqd⟩ : ∃ q, (n % 4).toNat = q := ⟨_, rfl⟩
  rw [hqd] at hq hq4 hres
  obtain ⟨W, hW⟩ : ∃ W, W = w.alloc (.cells #[.int .i64 (x : Int)] 3) := ⟨_, rfl⟩
  have b0 : Blk W w.heap.size 3 #[.int .i64 (x : Int)] := by rw [hW]; exact Blk.new _ _ _
  have t0 : RowKit.Below w.heap.size w W := by rw [hW]; exact al1
  have f1 := fun W' => axes_calls 0 (by omega) W'
  have hx0 : (0 : Int) ≤ (x : Int) := by omega
  have hx2 : (x : Int) ≤ 2 := by omega
  obtain ⟨M, hM⟩ : ∃ m, axT 0 = m := ⟨_, rfl⟩
  have hun : ∀ k, k ≤ 4 → unitM (itM (abtA x) (abtB x) k M) = true := fun k hk => by rw [← hM]; exact unit_it ⟨x, hx⟩ ⟨k, by omega⟩
  rw [hM] at f1 hres
  have y0 := b0.cell 0
  have B0 := Lib.hid b0; clear b0
  have T0 := Lib.hid t0; clear t0
  have F1 := Lib.hid f1; clear f1
  have Hres := Lib.hid hres; clear hres
  have Hun := Lib.hid hun; clear hun
  have Hqd := Lib.hid hqd; clear hqd
  have HM := Lib.hid hM; clear hM
  go_enter Tryd.func61, Tryd.ntmps61
  go_wp2_with fail
  rw [← hW]
  refine (F1.out _).mono ?_
  rintro e w1 ⟨rfl, d1⟩
  have k0 := B0.out.same (d1.block _ B0.out.lt)
  have t1 := T0.out.trans (d1.mono T0.out.size)
  obtain ⟨w2, hw2⟩ : ∃ W, W = w1.alloc (.cells #[.int .i64 M.1.1, .int .i64 M.1.2.1, .int .i64 M.1.2.2, .int .i64 M.2.1.1, .int .i64 M.2.1.2.1, .int .i64 M.2.1.2.2, .int .i64 M.2.2.1, .int .i64 M.2.2.2.1, .int .i64 M.2.2.2.2] 47) := ⟨_, rfl⟩
  obtain ⟨gm, hgm⟩ : ∃ g, g = w1.heap.size := ⟨_, rfl⟩
  have bm : Blk w2 gm 47 (matC (itM (abtA x) (abtB x) 0 M)) := by rw [hw2, hgm]; exact Blk.new w1 _ _
  have ab : RowKit.Below w1.heap.size w1 w2 := by rw [hw2]; exact al1
  have k0' := k0.same (ab.block _ k0.lt)
  have t2 := t1.trans (ab.mono t1.size)
  have hgm' : w.heap.size < gm := by rw [hgm]; exact k0.lt
  clear y0 d1 k0 t1 ab
  have K0' := Lib.hid k0'; clear k0'
  have T2 := Lib.hid t2; clear t2
  have Bm := Lib.hid bm; clear bm
  go_upto_region 4 with fail
  rw [← hw2, ← hgm]
  clear hw2 hgm
  have HW := Lib.hid hW; clear hW
  go_wp2_with fail
  go_loopw [20] (fun i wr => ∃ (k : Nat), i = .int .i64 k ∧ k ≤ q ∧ Hid (RowKit.Below w.heap.size w wr) ∧ Hid (Blk wr w.heap.size 3 #[.int .i64 (x : Int)]) ∧ Hid (Blk wr gm 47 (matC (itM (abtA x) (abtB x) k M)))) (fun i _ => q - (intOf i).toNat)
  case atStart => exact ⟨0, rfl, by omega, T2.out, K0'.out, Bm.out⟩
  case round =>
    obtain ⟨k, rfl, hk, hb0, q0, q5⟩ := hrel
    obtain ⟨wo, rfl⟩ : ∃ wo : World, wo = wr := ⟨_, rfl⟩
    by_cases hlt : k < q
    case pos =>
      have c1 := quarterC_calls x hx w.heap.size gm _ wo (Hun.out k (by omega)) q0.out q5.out
      rw [← itM_succ] at c1
      have C1 := Lib.hid c1; clear c1
      go_wp2_with fail
      refine C1.out.mono ?_
      rintro e w5 ⟨rfl, u5⟩
      have k0 := q0.out.same (u5.oth _ q0.out.lt (by omega))
      have t5 := hb0.out.trans (u5.bel w.heap.size (by omega) hb0.out.size)
      have b5 := u5.blk
      have K0 := Lib.hid k0; clear k0
      have T5 := Lib.hid t5; clear t5
      have B5 := Lib.hid b5; clear b5
      clear u5
      go_wp2
      go_roundw
      case rel => exact ⟨k + 1, by go_num, by omega, T5, K0, B5⟩
      case measure => simp [intOf]; omega
    case neg =>
      obtain rfl : k = q := by omega
      have hB : Blk wo gm 47 (matC (itM (abtA x) (abtB x) k M)) := q5.out
      obtain ⟨R, hR⟩ : ∃ r, itM (abtA x) (abtB x) k M = r := ⟨_, rfl⟩
      rw [hR] at hB
      have hres' := Hres.out
      rw [hR] at hres'
      unfold matC at hB
      have y0 := hB.cell 0
      have y1 := hB.cell 1
      have y2 := hB.cell 2
      have y3 := hB.cell 3
      have y4 := hB.cell 4
      have y5 := hB.cell 5
      have y6 := hB.cell 6
      have y7 := hB.cell 7
      have y8 := hB.cell 8
      have nm := fun W' => named_calls R W'
      have HB := Lib.hid hB; clear hB
      have Hres' := Lib.hid hres'; clear hres'
      have Nm := Lib.hid nm; clear nm
      have HR := Lib.hid hR; clear hR
      clear q5
      go_wp2_with fail
      refine (Nm.out _).mono ?_
      rintro e w5 ⟨rfl, d5⟩
      have t5 := hb0.out.trans (d5.mono hb0.out.size)
      clear y0 y1 y2 y3 y4 y5 y6 y7 y8 d5
      have T5 := Lib.hid t5; clear t5
      go_wp2
      go_ret2
      refine ⟨?_, T5.out⟩
      rw [Hres'.out]
      rfl
theorem results_arr_tmp {fn : Func} {p u : Tmp} {ty : TypeId} (h : fn.results = #[.cell p ty, .tmp u]) (tmps : Array Value) (P : Program) (w : World) (g : Nat) (t : TypeId) (cs : Array Value) {n : Nat} {e : TypeId}
    (hp : tmps.getD p undef = .pointer (some ⟨g, 0, none⟩)) (hg : Blk w g t cs) (hu : P.underlying ty = some (.array n e)) (hi : (P.info? ty).map (·.size) = some cs.size) :
    (results fn tmps).run P w = .ok (.tuple #[.agg cs, tmps.getD u undef]) w := by
  rw [results_cell_tmp h, hp]
  simp only [asAddr, Sem.run_pure, Result.andThen_ok, run_loadVar_row w g t ty cs (0, 0) _ hg hu rfl hi]
set_option maxRecDepth 100000 in
set_option maxHeartbeats 4000000 in
/-- the images of the axes by a turn, by the exported function -/
theorem axesE_calls (t : Nat) (ht : t < 24) (w : World) : Calls Tryd.prog 13 #[.int .u8 (t : Int)] w (fun e w' => e = .returned (.tuple #[.agg #[.int .i64 (axT t).1.1, .int .i64 (axT t).1.2.1, .int .i64 (axT t).1.2.2, .int .i64 (axT t).2.1.1, .int .i64 (axT t).2.1.2.1, .int .i64 (axT t).2.1.2.2, .int .i64 (axT t).2.2.1, .int .i64 (axT t).2.2.2.1, .int .i64 (axT t).2.2.2.2], .int .i64 0]) ∧ RowKit.Below w.heap.size w w') := by
  have hax := fun W' => axes_calls t ht W'
  have ht' : (t : Int) < 24 := by omega
  obtain ⟨M, hM⟩ : ∃ m, axT t = m := ⟨_, rfl⟩
  rw [hM] at hax ⊢
  obtain ⟨W, hW⟩ : ∃ W, W = w.alloc (.cells #[.int .i64 0, .int .i64 0, .int .i64 0, .int .i64 0, .int .i64 0, .int .i64 0, .int .i64 0, .int .i64 0, .int .i64 0] 47) := ⟨_, rfl⟩
  have b0 : Blk W w.heap.size 47 #[.int .i64 0, .int .i64 0, .int .i64 0, .int .i64 0, .int .i64 0, .int .i64 0, .int .i64 0, .int .i64 0, .int .i64 0] := by rw [hW]; exact Blk.new _ _ _
  have t0 : RowKit.Below w.heap.size w W := by rw [hW]; exact al1
  have B0 := Lib.hid b0; clear b0
  have T0 := Lib.hid t0; clear t0
  have Hax := Lib.hid hax; clear hax
  have HM := Lib.hid hM; clear hM
  go_enter Tryd.func13, Tryd.ntmps13
  go_wp2_with fail
  rw [← hW]
  have HW := Lib.hid hW; clear hW
  refine (Hax.out _).mono ?_
  rintro e w1 ⟨rfl, d1⟩
  have k0 := B0.out.same (d1.block _ B0.out.lt)
  have t1 := T0.out.trans (d1.mono T0.out.size)
  have n0 := blk_row (cs := #[.int .i64 M.1.1, .int .i64 M.1.2.1, .int .i64 M.1.2.2, .int .i64 M.2.1.1, .int .i64 M.2.1.2.1, .int .i64 M.2.1.2.2, .int .i64 M.2.2.1, .int .i64 M.2.2.2.1, .int .i64 M.2.2.2.2]) k0
  have n1 := row_below (g := w.heap.size) t1 (Nat.le_refl _) #[.int .i64 M.1.1, .int .i64 M.1.2.1, .int .i64 M.1.2.2, .int .i64 M.2.1.1, .int .i64 M.2.1.2.1, .int .i64 M.2.1.2.2, .int .i64 M.2.2.1, .int .i64 M.2.2.2.1, .int .i64 M.2.2.2.2]
  clear d1 t1
  have N0 := Lib.hid n0; clear n0
  have N1 := Lib.hid n1; clear n1
  go_wp2_with ((with_reducible show wpList _ _ _ (Oper.mk none _ _ _ _ _ :: _) _ _); refine wpList_storeG 47 (.tmp 2) (.tmp 8) _ #[.int .i64 M.1.1, .int .i64 M.1.2.1, .int .i64 M.1.2.2, .int .i64 M.2.1.1, .int .i64 M.2.1.2.1, .int .i64 M.2.1.2.2, .int .i64 M.2.2.1, .int .i64 M.2.2.2.1, .int .i64 M.2.2.2.2] rfl rfl rfl rfl k0 (by kernel_rfl) rfl (by simp [Value.oneCell']) rfl ?_)
  refine bodyPost_ret (results_arr_tmp rfl _ _ _ w.heap.size 47 _ rfl N0.out Tryd.underlying47 (by kernel_rfl)) rfl ?_
  exact ⟨rfl, N1.out⟩
end Go.Proofs.YtldccpmnboebmaaDoor
