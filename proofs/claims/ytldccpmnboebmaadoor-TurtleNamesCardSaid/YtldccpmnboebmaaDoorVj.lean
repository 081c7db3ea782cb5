/-
  Layer 16: the walks of image and of the reference's Sum and Image.
-/
import Derived.Test.YtldccpmnboebmaaDoorVh
namespace Go.Proofs.YtldccpmnboebmaaDoor
open Go.RowKit Go.Sort
set_option linter.unusedVariables false

theorem unitM_at {m : M3} (h : unitM m = true) : unitV m.1 = true ∧ unitV m.2.1 = true ∧ unitV m.2.2 = true := by
  unfold unitM at h
  simp only [Bool.and_eq_true] at h
  exact ⟨h.1.1, h.1.2, h.2⟩
theorem sum_small {m : M3} {v : V3} (hm : unitM m = true) (hv : smallV 1000000 v) : smallV 3000000 (sumV m v) := by
  obtain ⟨ha, hb, hc⟩ := unitM_at hm
  obtain ⟨x1, x2, x3⟩ := unitV_at ha
  obtain ⟨y1, y2, y3⟩ := unitV_at hb
  obtain ⟨z1, z2, z3⟩ := unitV_at hc
  obtain ⟨hv1, hv2, hv3⟩ := hv
  have p1 := unit_mul x1 hv1
  have p2 := unit_mul x2 hv1
  have p3 := unit_mul x3 hv1
  have p4 := unit_mul y1 hv2
  have p5 := unit_mul y2 hv2
  have p6 := unit_mul y3 hv2
  have p7 := unit_mul z1 hv3
  have p8 := unit_mul z2 hv3
  have p9 := unit_mul z3 hv3
  unfold sumV smallV
  refine ⟨⟨?_, ?_⟩, ⟨?_, ?_⟩, ⟨?_, ?_⟩⟩ <;> simp only <;> omega
theorem in_small {v : V3} (h : inV (-1000000) v = true) : smallV 1000000 v := by
  have := inV_iff.1 h
  exact ⟨⟨by omega, by omega⟩, ⟨by omega, by omega⟩, ⟨by omega, by omega⟩⟩
theorem small_wide {a b : Int} {v : V3} (h : smallV a v) (hab : a ≤ b) : smallV b v := by
  obtain ⟨⟨h1, h2⟩, ⟨h3, h4⟩, ⟨h5, h6⟩⟩ := h
  exact ⟨⟨by omega, by omega⟩, ⟨by omega, by omega⟩, ⟨by omega, by omega⟩⟩

set_option maxRecDepth 100000 in
set_option maxHeartbeats 4000000 in
theorem image_calls (t : Nat) (ht : t < 24) (a v : V3) (w : World) (ha : smallV 1000000 a) (hv : smallV 1000000 v) : Calls Tryd.prog 51 #[.agg #[.int .u8 (t : Int), .int .i64 a.1, .int .i64 a.2.1, .int .i64 a.2.2], .agg #[.int .i64 v.1, .int .i64 v.2.1, .int .i64 v.2.2]] w (VecPost (imageF ((t : Int), a) v) w) := by
  have hr : imageF ((t : Int), a) v = addV (sumV (axT t) v) a := by unfold imageF; simp
  have hu := axT_unit ⟨t, ht⟩
  simp only at hu
  have hss := sum_small hu hv
  obtain ⟨m, hm⟩ : ∃ m, axT t = m := ⟨_, rfl⟩
  rw [hm] at hr hu hss
  obtain ⟨s, hs⟩ : ∃ s, sumV m v = s := ⟨_, rfl⟩
  rw [hs] at hr hss
  obtain ⟨⟨k1, k2⟩, ⟨k3, k4⟩, ⟨k5, k6⟩⟩ := hss
  obtain ⟨⟨l1, l2⟩, ⟨l3, l4⟩, ⟨l5, l6⟩⟩ := ha
  obtain ⟨W, hW⟩ : ∃ W, W = ((w.alloc (.cells #[.int .u8 (t : Int), .int .i64 a.1, .int .i64 a.2.1, .int .i64 a.2.2] 26)).alloc (.cells #[.int .i64 v.1, .int .i64 v.2.1, .int .i64 v.2.2] 24)).alloc (.cells #[.int .i64 0, .int .i64 0, .int .i64 0] 24) := ⟨_, rfl⟩
  have b0 : Blk W w.heap.size 26 #[.int .u8 (t : Int), .int .i64 a.1, .int .i64 a.2.1, .int .i64 a.2.2] := by rw [hW]; exact ((Blk.new w _ _).alloc _).alloc _
  have b1 : Blk W (w.heap.size + 1) 24 #[.int .i64 v.1, .int .i64 v.2.1, .int .i64 v.2.2] := by
    rw [hW]
    have := (Blk.new (w.alloc (.cells #[.int .u8 (t : Int), .int .i64 a.1, .int .i64 a.2.1, .int .i64 a.2.2] 26)) 24 #[.int .i64 v.1, .int .i64 v.2.1, .int .i64 v.2.2]).alloc (.cells #[.int .i64 0, .int .i64 0, .int .i64 0] 24)
    simpa using this
  have b2 : Blk W (w.heap.size + 1 + 1) 24 #[.int .i64 0, .int .i64 0, .int .i64 0] := by
    rw [hW]
    have := Blk.new ((w.alloc (.cells #[.int .u8 (t : Int), .int .i64 a.1, .int .i64 a.2.1, .int .i64 a.2.2] 26)).alloc (.cells #[.int .i64 v.1, .int .i64 v.2.1, .int .i64 v.2.2] 24)) 24 #[.int .i64 0, .int .i64 0, .int .i64 0]
    simpa using this
  have tW : RowKit.Below w.heap.size w W := by rw [hW]; exact al3
  have zW : W.heap.size = w.heap.size + 3 := by rw [hW]; simp

  have d := b0.cell 0
  have x0 := cell_regrown d
  clear d
  have d := b0.cell 1
  have x1 := cell_regrown d
  clear d
  have d := b0.cell 2
  have x2 := cell_regrown d
  clear d
  have d := b0.cell 3
  have x3 := cell_regrown d
  clear d
  have d := b1.cell 0
  have y0 := cell_regrown d
  clear d
  have d := b1.cell 1
  have y1 := cell_regrown d
  clear d
  have d := b1.cell 2
  have y2 := cell_regrown d
  clear d
  have c1 : ∀ q os, Calls Tryd.prog 28 #[.int .u8 (t : Int)] (grow (redrawn W q) os) fun e w'' => e = .returned (.agg #[.int .i64 m.1.1, .int .i64 m.1.2.1, .int .i64 m.1.2.2, .int .i64 m.2.1.1, .int .i64 m.2.1.2.1, .int .i64 m.2.1.2.2, .int .i64 m.2.2.1, .int .i64 m.2.2.2.1, .int .i64 m.2.2.2.2]) ∧ ∃ p : Regrown, w'' = grow (redrawn W p.d) p.os := fun q os => by rw [← hm]; exact Calls.regrown_of (axes_calls t ht _)
  have c2 : ∀ q os, Calls Tryd.prog 49 #[.agg #[.int .i64 m.1.1, .int .i64 m.1.2.1, .int .i64 m.1.2.2, .int .i64 m.2.1.1, .int .i64 m.2.1.2.1, .int .i64 m.2.1.2.2, .int .i64 m.2.2.1, .int .i64 m.2.2.2.1, .int .i64 m.2.2.2.2], .agg #[.int .i64 v.1, .int .i64 v.2.1, .int .i64 v.2.2]] (grow (redrawn W q) os) fun e w'' => e = .returned (.agg #[.int .i64 s.1, .int .i64 s.2.1, .int .i64 s.2.2]) ∧ ∃ p : Regrown, w'' = grow (redrawn W p.d) p.os := fun q os => by rw [← hs]; exact Calls.regrown_of (sum_calls m v _ hu hv)
  have Hr := Lib.hid hr; clear hr
  have Hu := Lib.hid hu; clear hu
  have Hm := Lib.hid hm; clear hm
  have Hs := Lib.hid hs; clear hs
  have Hv := Lib.hid hv; clear hv
  have C1 := Lib.hid c1; clear c1
  have C2 := Lib.hid c2; clear c2
  have B0 := Lib.hid b0; clear b0
  have B1 := Lib.hid b1; clear b1
  have B2 := Lib.hid b2; clear b2
  have TW := Lib.hid tW; clear tW
  go_enter Tryd.func51, Tryd.ntmps51
  go_upto_region 1 with fail
  rw [← hW]
  have HW := Lib.hid hW; clear hW
  refine wp_region_store 5 (by kernel_rfl) rfl rfl rfl (by kernel_rfl) (by kernel_rfl) (by kernel_rfl) ?_
  simp only [List.take_succ_cons, List.take_zero, List.cons_append, List.nil_append, nopT]
  iterate 3 (go_big_quiet_step (exact (C1.out _ _).mono fun e w'' h => h))
  iterate 2 (go_big_quiet_step (exact (C2.out _ _).mono fun e w'' h => h))
  refine wpQuiet_nil ?_
  rintro w' ⟨⟨dq, osq⟩, rfl⟩
  have hbr := below_regrown W dq osq
  generalize grow (redrawn W dq) osq = w5 at hbr ⊢
  have h5 := B1.out.same (hbr.block _ (by omega))
  refine wp_storeG 24 (.tmp 3) (.tmp 9) _ #[.int .i64 s.1, .int .i64 s.2.1, .int .i64 s.2.2] rfl rfl rfl h5 (by kernel_rfl) rfl (by simp [Value.oneCell']) rfl ?_
  have f1 := blk_row (cs := #[.int .i64 s.1, .int .i64 s.2.1, .int .i64 s.2.2]) h5
  have f0 := (B0.out.same (hbr.block _ (by omega))).same (setRow_other w5 (w.heap.size + 1) w.heap.size #[.int .i64 s.1, .int .i64 s.2.1, .int .i64 s.2.2] (by omega))
  have f2 := (B2.out.same (hbr.block _ (by omega))).same (setRow_other w5 (w.heap.size + 1) (w.heap.size + 1 + 1) #[.int .i64 s.1, .int .i64 s.2.1, .int .i64 s.2.2] (by omega))
  have t5 := row_below (g := w.heap.size + 1) (TW.out.trans (hbr.mono TW.out.size)) (by omega) #[.int .i64 s.1, .int .i64 s.2.1, .int .i64 s.2.2]
  generalize w5.setRow (w.heap.size + 1) #[.int .i64 s.1, .int .i64 s.2.1, .int .i64 s.2.2] = w6 at f0 f1 f2 t5 ⊢

  have g0 := f1.cell 0
  have g1 := f1.cell 1
  have g2 := f1.cell 2
  have e0 := f0.cell 0
  have e1 := f0.cell 1
  have e2 := f0.cell 2
  have e3 := f0.cell 3
  have hfin := blk_row (cs := #[.int .i64 (s.1 + a.1), .int .i64 (s.2.1 + a.2.1), .int .i64 (s.2.2 + a.2.2)]) f2
  have hbel := row_below (g := w.heap.size + 1 + 1) t5 (by omega) #[.int .i64 (s.1 + a.1), .int .i64 (s.2.1 + a.2.1), .int .i64 (s.2.2 + a.2.2)]
  clear x0 x1 x2 x3 y0 y1 y2 C1 C2
  have Hbel := Lib.hid hbel; clear hbel
  have Hfin := Lib.hid hfin; clear hfin
  have T5 := Lib.hid t5; clear t5
  have F0 := Lib.hid f0; clear f0
  have F1 := Lib.hid f1; clear f1
  go_wp2_with ((with_reducible show wpList _ _ _ (Oper.mk none _ _ _ _ _ :: _) _ _); refine wpList_storeG 24 (.tmp 4) (.tmp 28) _ #[.int .i64 (s.1 + a.1), .int .i64 (s.2.1 + a.2.1), .int .i64 (s.2.2 + a.2.2)] rfl rfl rfl rfl f2 (by kernel_rfl) rfl (by simp [Value.oneCell']) rfl ?_)
  refine bodyPost_ret (results_cell_row rfl _ _ (w.heap.size + 1 + 1) 24 _ (0, 0) _ rfl Hfin.out Tryd.underlying24 rfl (by kernel_rfl)) rfl ?_
  exact ⟨by rw [Hr.out]; rfl, Hbel.out⟩

theorem mul_small {x : Int} {u : V3} (hu : unitV u = true) (hx : -1000000 ≤ x ∧ x ≤ 1000000) : smallV 1000000 (mulV x u) := by
  obtain ⟨h1, h2, h3⟩ := unitV_at hu
  exact ⟨unit_mul h1 hx, unit_mul h2 hx, unit_mul h3 hx⟩
theorem add_small {a b : V3} {k l : Int} (h1 : smallV k a) (h2 : smallV l b) : smallV (k + l) (addV a b) := by
  obtain ⟨⟨a1, a2⟩, ⟨a3, a4⟩, ⟨a5, a6⟩⟩ := h1
  obtain ⟨⟨b1, b2⟩, ⟨b3, b4⟩, ⟨b5, b6⟩⟩ := h2
  refine ⟨⟨?_, ?_⟩, ⟨?_, ?_⟩, ⟨?_, ?_⟩⟩ <;> unfold addV <;> simp only <;> omega
end Go.Proofs.YtldccpmnboebmaaDoor
