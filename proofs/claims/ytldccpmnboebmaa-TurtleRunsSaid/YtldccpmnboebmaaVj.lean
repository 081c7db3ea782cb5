/-
  Layer 16: the walks of image and of the reference's Sum and Image.
-/
import Derived.Test.YtldccpmnboebmaaVh
namespace Go.Proofs.Ytldccpmnboebmaa
open Go.RowKit Go.Sort
set_option linter.unusedVariables false

theorem unitM_at {m : M3} (h : unitM m = true) : unitV m.1 = true ∧ unitV m.2.1 = true ∧ unitV m.2.2 = true := by
  unfold unitM at h
  simp only [Bool.and_eq_true] at h
  exact ⟨h.1.1, h.1.2, h.2⟩
theorem sum_small {m : M3} {v : V3} (hm : unitM m = true) (hv : smallV 1000000 v) : smallV 3000000 (sumV m v) := by
  obtain ⟨ha, hb, hc⟩ := unitM_at hm
  obtain ⟨x1, x2, x3⟩ := unitV_at ha
  obtain ⟨y1, y2, y3⟩ := unitV_at hb
  obtain ⟨z1, z2, z3⟩ := unitV_at hc
  obtain ⟨hv1, hv2, hv3⟩ := hv
  have p1 := unit_mul x1 hv1
  have p2 := unit_mul x2 hv1
  have p3 := unit_mul x3 hv1
  have p4 := unit_mul y1 hv2
  have p5 := unit_mul y2 hv2
  have p6 := unit_mul y3 hv2
  have p7 := unit_mul z1 hv3
  have p8 := unit_mul z2 hv3
  have p9 := unit_mul z3 hv3
  unfold sumV smallV
  refine ⟨⟨?_, ?_⟩, ⟨?_, ?_⟩, ⟨?_, ?_⟩⟩ <;> simp only <;> omega
theorem in_small {v : V3} (h : inV (-1000000) v = true) : smallV 1000000 v := by
  have := inV_iff.1 h
  exact ⟨⟨by omega, by omega⟩, ⟨by omega, by omega⟩, ⟨by omega, by omega⟩⟩
theorem small_wide {a b : Int} {v : V3} (h : smallV a v) (hab : a ≤ b) : smallV b v := by
  obtain ⟨⟨h1, h2⟩, ⟨h3, h4⟩, ⟨h5, h6⟩⟩ := h
  exact ⟨⟨by omega, by omega⟩, ⟨by omega, by omega⟩, ⟨by omega, by omega⟩⟩

set_option maxRecDepth 100000 in
set_option maxHeartbeats 4000000 in
theorem image_calls (t : Nat) (ht : t < 24) (a v : V3) (w : World) (ha : smallV 1000000 a) (hv : smallV 1000000 v) : Calls Try.prog 46 #[.agg #[.int .u8 (t : Int), .int .i64 a.1, .int .i64 a.2.1, .int .i64 a.2.2], .agg #[.int .i64 v.1, .int .i64 v.2.1, .int .i64 v.2.2]] w (VecPost (imageF ((t : Int), a) v) w) := by
  have hr : imageF ((t : Int), a) v = addV (sumV (axT t) v) a := by unfold imageF; simp
  have hu := axT_unit ⟨t, ht⟩
  simp only at hu
  have hss := sum_small hu hv
  obtain ⟨m, hm⟩ : ∃ m, axT t = m := ⟨_, rfl⟩
  rw [hm] at hr hu hss
  obtain ⟨s, hs⟩ : ∃ s, sumV m v = s := ⟨_, rfl⟩
  rw [hs] at hr hss
  obtain ⟨⟨k1, k2⟩, ⟨k3, k4⟩, ⟨k5, k6⟩⟩ := hss
  obtain ⟨⟨l1, l2⟩, ⟨l3, l4⟩, ⟨l5, l6⟩⟩ := ha
  obtain ⟨W, hW⟩ : ∃ W, W = ((w.alloc (.cells #[.int .u8 (t : Int), .int .i64 a.1, .int .i64 a.2.1, .int .i64 a.2.2] 27)).alloc (.cells #[.int .i64 v.1, .int .i64 v.2.1, .int .i64 v.2.2] 25)).alloc (.cells #[.int .i64 0, .int .i64 0, .int .i64 0] 25) := ⟨_, rfl⟩
  have b0 : Blk W w.heap.size 27 #[.int .u8 (t : Int), .int .i64 a.1, .int .i64 a.2.1, .int .i64 a.2.2] := by rw [hW]; exact ((Blk.new w _ _).alloc _).alloc _
  have b1 : Blk W (w.heap.size + 1) 25 #[.int .i64 v.1, .int .i64 v.2.1, .int .i64 v.2.2] := by
    rw [hW]
    have := (Blk.new (w.alloc (.cells #[.int .u8 (t : Int), .int .i64 a.1, .int .i64 a.2.1, .int .i64 a.2.2] 27)) 25 #[.int .i64 v.1, .int .i64 v.2.1, .int .i64 v.2.2]).alloc (.cells #[.int .i64 0, .int .i64 0, .int .i64 0] 25)
    simpa using this
  have b2 : Blk W (w.heap.size + 1 + 1) 25 #[.int .i64 0, .int .i64 0, .int .i64 0] := by
    rw [hW]
    have := Blk.new ((w.alloc (.cells #[.int .u8 (t : Int), .int .i64 a.1, .int .i64 a.2.1, .int .i64 a.2.2] 27)).alloc (.cells #[.int .i64 v.1, .int .i64 v.2.1, .int .i64 v.2.2] 25)) 25 #[.int .i64 0, .int .i64 0, .int .i64 0]
    simpa using this
  have tW : RowKit.Below w.heap.size w W := by rw [hW]; exact al3
  have zW : W.heap.size = w.heap.size + 3 := by rw [hW]; simp

  have d := b0.cell 0
  have x0 := cell_regrown d
  clear d
  have d := b0.cell 1
  have x1 := cell_regrown d
  clear d
  have d := b0.cell 2
  have x2 := cell_regrown d
  clear d
  have d := b0.cell 3
  have x3 := cell_regrown d
  clear d
  have d := b1.cell 0
  have y0 := cell_regrown d
  clear d
  have d := b1.cell 1
  have y1 := cell_regrown d
  clear d
  have d := b1.cell 2
  have y2 := cell_regrown d
  clear d
  have c1 : ∀ q os, Calls Try.prog 63 #[.int .u8 (t : Int)] (grow (redrawn W q) os) fun e w'' => e = .returned (.agg #[.int .i64 m.1.1, .int .i64 m.1.2.1, .int .i64 m.1.2.2, .int .i64 m.2.1.1, .int .i64 m.2.1.2.1, .int .i64 m.2.1.2.2, .int .i64 m.2.2.1, .int .i64 m.2.2.2.1, .int .i64 m.2.2.2.2]) ∧ ∃ p : Regrown, w'' = grow (redrawn W p.d) p.os := fun q os => by rw [← hm]; exact Calls.regrown_of (axes_calls t ht _)
  have c2 : ∀ q os, Calls Try.prog 62 #[.agg #[.int .i64 m.1.1, .int .i64 m.1.2.1, .int .i64 m.1.2.2, .int .i64 m.2.1.1, .int .i64 m.2.1.2.1, .int .i64 m.2.1.2.2, .int .i64 m.2.2.1, .int .i64 m.2.2.2.1, .int .i64 m.2.2.2.2], .agg #[.int .i64 v.1, .int .i64 v.2.1, .int .i64 v.2.2]] (grow (redrawn W q) os) fun e w'' => e = .returned (.agg #[.int .i64 s.1, .int .i64 s.2.1, .int .i64 s.2.2]) ∧ ∃ p : Regrown, w'' = grow (redrawn W p.d) p.os := fun q os => by rw [← hs]; exact Calls.regrown_of (sum_calls m v _ hu hv)
  have Hr := Lib.hid hr; clear hr
  have Hu := Lib.hid hu; clear hu
  have Hm := Lib.hid hm; clear hm
  have Hs := Lib.hid hs; clear hs
  have Hv := Lib.hid hv; clear hv
  have C1 := Lib.hid c1; clear c1
  have C2 := Lib.hid c2; clear c2
  have B0 := Lib.hid b0; clear b0
  have B1 := Lib.hid b1; clear b1
  have B2 := Lib.hid b2; clear b2
  have TW := Lib.hid tW; clear tW
  go_enter Try.func46, Try.ntmps46
  go_upto_region 1 with fail
  rw [← hW]
  have HW := Lib.hid hW; clear hW
  refine wp_region_store 5 (by kernel_rfl) rfl rfl rfl (by kernel_rfl) (by kernel_rfl) (by kernel_rfl) ?_
  simp only [List.take_succ_cons, List.take_zero, List.cons_append, List.nil_append, nopT]
  iterate 3 (go_big_quiet_step (exact (C1.out _ _).mono fun e w'' h => h))
  iterate 2 (go_big_quiet_step (exact (C2.out _ _).mono fun e w'' h => h))
  refine wpQuiet_nil ?_
  rintro w' ⟨⟨dq, osq⟩, rfl⟩
  have hbr := below_regrown W dq osq
  generalize grow (redrawn W dq) osq = w5 at hbr ⊢
  have h5 := B1.out.same (hbr.block _ (by omega))
  refine wp_storeG 25 (.tmp 3) (.tmp 9) _ #[.int .i64 s.1, .int .i64 s.2.1, .int .i64 s.2.2] rfl rfl rfl h5 (by kernel_rfl) rfl (by simp [Value.oneCell']) rfl ?_
  have f1 := blk_row (cs := #[.int .i64 s.1, .int .i64 s.2.1, .int .i64 s.2.2]) h5
  have f0 := (B0.out.same (hbr.block _ (by omega))).same (setRow_other w5 (w.heap.size + 1) w.heap.size #[.int .i64 s.1, .int .i64 s.2.1, .int .i64 s.2.2] (by omega))
  have f2 := (B2.out.same (hbr.block _ (by omega))).same (setRow_other w5 (w.heap.size + 1) (w.heap.size + 1 + 1) #[.int .i64 s.1, .int .i64 s.2.1, .int .i64 s.2.2] (by omega))
  have t5 := row_below (g := w.heap.size + 1) (TW.out.trans (hbr.mono TW.out.size)) (by omega) #[.int .i64 s.1, .int .i64 s.2.1, .int .i64 s.2.2]
  generalize w5.setRow (w.heap.size + 1) #[.int .i64 s.1, .int .i64 s.2.1, .int .i64 s.2.2] = w6 at f0 f1 f2 t5 ⊢

  have g0 := f1.cell 0
  have g1 := f1.cell 1
  have g2 := f1.cell 2
  have e0 := f0.cell 0
  have e1 := f0.cell 1
  have e2 := f0.cell 2
  have e3 := f0.cell 3
  have hfin := blk_row (cs := #[.int .i64 (s.1 + a.1), .int .i64 (s.2.1 + a.2.1), .int .i64 (s.2.2 + a.2.2)]) f2
  have hbel := row_below (g := w.heap.size + 1 + 1) t5 (by omega) #[.int .i64 (s.1 + a.1), .int .i64 (s.2.1 + a.2.1), .int .i64 (s.2.2 + a.2.2)]
  clear x0 x1 x2 x3 y0 y1 y2 C1 C2
  have Hbel := Lib.hid hbel; clear hbel
  have Hfin := Lib.hid hfin; clear hfin
  have T5 := Lib.hid t5; clear t5
  have F0 := Lib.hid f0; clear f0
  have F1 := Lib.hid f1; clear f1
  go_wp2_with ((with_reducible show wpList _ _ _ (Oper.mk none _ _ _ _ _ :: _) _ _); refine wpList_storeG 25 (.tmp 4) (.tmp 28) _ #[.int .i64 (s.1 + a.1), .int .i64 (s.2.1 + a.2.1), .int .i64 (s.2.2 + a.2.2)] rfl rfl rfl rfl f2 (by kernel_rfl) rfl (by simp [Value.oneCell']) rfl ?_)
  refine bodyPost_ret (results_cell_row rfl _ _ (w.heap.size + 1 + 1) 25 _ (0, 0) _ rfl Hfin.out Try.underlying25 rfl (by kernel_rfl)) rfl ?_
  exact ⟨by rw [Hr.out]; rfl, Hbel.out⟩

theorem mul_small {x : Int} {u : V3} (hu : unitV u = true) (hx : -1000000 ≤ x ∧ x ≤ 1000000) : smallV 1000000 (mulV x u) := by
  obtain ⟨h1, h2, h3⟩ := unitV_at hu
  exact ⟨unit_mul h1 hx, unit_mul h2 hx, unit_mul h3 hx⟩
theorem add_small {a b : V3} {k l : Int} (h1 : smallV k a) (h2 : smallV l b) : smallV (k + l) (addV a b) := by
  obtain ⟨⟨a1, a2⟩, ⟨a3, a4⟩, ⟨a5, a6⟩⟩ := h1
  obtain ⟨⟨b1, b2⟩, ⟨b3, b4⟩, ⟨b5, b6⟩⟩ := h2
  refine ⟨⟨?_, ?_⟩, ⟨?_, ?_⟩, ⟨?_, ?_⟩⟩ <;> unfold addV <;> simp only <;> omega
theorem timesS_calls (n : Int) (b : V3) (w : World) (h : smallV 10000000 (mulV n b)) : Calls Try.prog 35 #[.int .i64 n, .agg #[.int .i64 b.1, .int .i64 b.2.1, .int .i64 b.2.2]] w (VecPost (mulV n b) w) :=
  times_calls n b w (IntWalk.i64_in _ (by have := h.1; unfold mulV at this; simp only at this; omega)) (IntWalk.i64_in _ (by have := h.2.1; unfold mulV at this; simp only at this; omega)) (IntWalk.i64_in _ (by have := h.2.2; unfold mulV at this; simp only at this; omega))
set_option maxRecDepth 100000 in
set_option maxHeartbeats 4000000 in
theorem rSum_calls (m : M3) (v : V3) (w : World) (hu : unitM m = true) (hv : smallV 1000000 v) : Calls Try.prog 48 #[.agg #[.int .i64 m.1.1, .int .i64 m.1.2.1, .int .i64 m.1.2.2, .int .i64 m.2.1.1, .int .i64 m.2.1.2.1, .int .i64 m.2.1.2.2, .int .i64 m.2.2.1, .int .i64 m.2.2.2.1, .int .i64 m.2.2.2.2], .agg #[.int .i64 v.1, .int .i64 v.2.1, .int .i64 v.2.2]] w (VecPost (sumV m v) w) := by
  obtain ⟨ua, ub, uc⟩ := unitM_at hu
  have hr : sumV m v = addV (mulV v.1 m.1) (addV (mulV v.2.1 m.2.1) (mulV v.2.2 m.2.2)) := by
    unfold sumV addV mulV
    simp only [Prod.mk.injEq]
    refine ⟨?_, ?_, ?_⟩ <;> omega
  have s1 := mul_small ua hv.1
  have s2 := mul_small ub hv.2.1
  have s3 := mul_small uc hv.2.2
  have d1 := fun W => timesS_calls v.1 m.1 W (small_wide s1 (by omega))
  have d2 := fun W => timesS_calls v.2.1 m.2.1 W (small_wide s2 (by omega))
  have d3 := fun W => timesS_calls v.2.2 m.2.2 W (small_wide s3 (by omega))
  obtain ⟨p1, hp1⟩ : ∃ x, mulV v.1 m.1 = x := ⟨_, rfl⟩
  obtain ⟨p2, hp2⟩ : ∃ x, mulV v.2.1 m.2.1 = x := ⟨_, rfl⟩
  obtain ⟨p3, hp3⟩ : ∃ x, mulV v.2.2 m.2.2 = x := ⟨_, rfl⟩
  rw [hp1] at s1 hr d1
  rw [hp2] at s2 hr d2
  rw [hp3] at s3 hr d3
  have d4 := fun W => plus_calls p2 p3 W (small_wide s2 (by omega)) (small_wide s3 (by omega))
  have s4 := add_small s2 s3
  obtain ⟨p4, hp4⟩ : ∃ x, addV p2 p3 = x := ⟨_, rfl⟩
  rw [hp4] at s4 hr d4
  have d5 := fun W => plus_calls p1 p4 W (small_wide s1 (by omega)) (small_wide s4 (by omega))
  obtain ⟨p5, hp5⟩ : ∃ x, addV p1 p4 = x := ⟨_, rfl⟩
  rw [hp5] at hr d5
  rw [hr]
  obtain ⟨W, hW⟩ : ∃ W, W = ((w.alloc (.cells #[.int .i64 m.1.1, .int .i64 m.1.2.1, .int .i64 m.1.2.2, .int .i64 m.2.1.1, .int .i64 m.2.1.2.1, .int .i64 m.2.1.2.2, .int .i64 m.2.2.1, .int .i64 m.2.2.2.1, .int .i64 m.2.2.2.2] 89)).alloc (.cells #[.int .i64 v.1, .int .i64 v.2.1, .int .i64 v.2.2] 25)).alloc (.cells #[.int .i64 0, .int .i64 0, .int .i64 0] 25) := ⟨_, rfl⟩
  have b0 : Blk W w.heap.size 89 #[.int .i64 m.1.1, .int .i64 m.1.2.1, .int .i64 m.1.2.2, .int .i64 m.2.1.1, .int .i64 m.2.1.2.1, .int .i64 m.2.1.2.2, .int .i64 m.2.2.1, .int .i64 m.2.2.2.1, .int .i64 m.2.2.2.2] := by rw [hW]; exact ((Blk.new w _ _).alloc _).alloc _
  have b1 : Blk W (w.heap.size + 1) 25 #[.int .i64 v.1, .int .i64 v.2.1, .int .i64 v.2.2] := by
    rw [hW]
    have := (Blk.new (w.alloc (.cells #[.int .i64 m.1.1, .int .i64 m.1.2.1, .int .i64 m.1.2.2, .int .i64 m.2.1.1, .int .i64 m.2.1.2.1, .int .i64 m.2.1.2.2, .int .i64 m.2.2.1, .int .i64 m.2.2.2.1, .int .i64 m.2.2.2.2] 89)) 25 #[.int .i64 v.1, .int .i64 v.2.1, .int .i64 v.2.2]).alloc (.cells #[.int .i64 0, .int .i64 0, .int .i64 0] 25)
    simpa using this
  have b2 : Blk W (w.heap.size + 1 + 1) 25 #[.int .i64 0, .int .i64 0, .int .i64 0] := by
    rw [hW]
    have := Blk.new ((w.alloc (.cells #[.int .i64 m.1.1, .int .i64 m.1.2.1, .int .i64 m.1.2.2, .int .i64 m.2.1.1, .int .i64 m.2.1.2.1, .int .i64 m.2.1.2.2, .int .i64 m.2.2.1, .int .i64 m.2.2.2.1, .int .i64 m.2.2.2.2] 89)).alloc (.cells #[.int .i64 v.1, .int .i64 v.2.1, .int .i64 v.2.2] 25)) 25 #[.int .i64 0, .int .i64 0, .int .i64 0]
    simpa using this
  have tW : RowKit.Below w.heap.size w W := by rw [hW]; exact al3
  have zW : W.heap.size = w.heap.size + 3 := by rw [hW]; simp
  have d := b0.cell 0
  have x0 := cell_regrown d
  clear d
  have d := b0.cell 1
  have x1 := cell_regrown d
  clear d
  have d := b0.cell 2
  have x2 := cell_regrown d
  clear d
  have d := b0.cell 3
  have x3 := cell_regrown d
  clear d
  have d := b0.cell 4
  have x4 := cell_regrown d
  clear d
  have d := b0.cell 5
  have x5 := cell_regrown d
  clear d
  have d := b0.cell 6
  have x6 := cell_regrown d
  clear d
  have d := b0.cell 7
  have x7 := cell_regrown d
  clear d
  have d := b0.cell 8
  have x8 := cell_regrown d
  clear d
  have d := b1.cell 0
  have y0 := cell_regrown d
  clear d
  have d := b1.cell 1
  have y1 := cell_regrown d
  clear d
  have d := b1.cell 2
  have y2 := cell_regrown d
  clear d
  have c1 : ∀ q os, Calls Try.prog 35 #[.int .i64 v.1, .agg #[.int .i64 m.1.1, .int .i64 m.1.2.1, .int .i64 m.1.2.2]] (grow (redrawn W q) os) fun e w'' => e = .returned (.agg #[.int .i64 p1.1, .int .i64 p1.2.1, .int .i64 p1.2.2]) ∧ ∃ p : Regrown, w'' = grow (redrawn W p.d) p.os := fun q os => Calls.regrown_of (d1 _)
  have c2 : ∀ q os, Calls Try.prog 35 #[.int .i64 v.2.1, .agg #[.int .i64 m.2.1.1, .int .i64 m.2.1.2.1, .int .i64 m.2.1.2.2]] (grow (redrawn W q) os) fun e w'' => e = .returned (.agg #[.int .i64 p2.1, .int .i64 p2.2.1, .int .i64 p2.2.2]) ∧ ∃ p : Regrown, w'' = grow (redrawn W p.d) p.os := fun q os => Calls.regrown_of (d2 _)
  have c3 : ∀ q os, Calls Try.prog 35 #[.int .i64 v.2.2, .agg #[.int .i64 m.2.2.1, .int .i64 m.2.2.2.1, .int .i64 m.2.2.2.2]] (grow (redrawn W q) os) fun e w'' => e = .returned (.agg #[.int .i64 p3.1, .int .i64 p3.2.1, .int .i64 p3.2.2]) ∧ ∃ p : Regrown, w'' = grow (redrawn W p.d) p.os := fun q os => Calls.regrown_of (d3 _)
  have c4 : ∀ q os, Calls Try.prog 34 #[.agg #[.int .i64 p2.1, .int .i64 p2.2.1, .int .i64 p2.2.2], .agg #[.int .i64 p3.1, .int .i64 p3.2.1, .int .i64 p3.2.2]] (grow (redrawn W q) os) fun e w'' => e = .returned (.agg #[.int .i64 p4.1, .int .i64 p4.2.1, .int .i64 p4.2.2]) ∧ ∃ p : Regrown, w'' = grow (redrawn W p.d) p.os := fun q os => Calls.regrown_of (d4 _)
  have c5 : ∀ q os, Calls Try.prog 34 #[.agg #[.int .i64 p1.1, .int .i64 p1.2.1, .int .i64 p1.2.2], .agg #[.int .i64 p4.1, .int .i64 p4.2.1, .int .i64 p4.2.2]] (grow (redrawn W q) os) fun e w'' => e = .returned (.agg #[.int .i64 p5.1, .int .i64 p5.2.1, .int .i64 p5.2.2]) ∧ ∃ p : Regrown, w'' = grow (redrawn W p.d) p.os := fun q os => Calls.regrown_of (d5 _)
  have Hr := Lib.hid hr; clear hr
  have Hu := Lib.hid hu; clear hu
  have Ua := Lib.hid ua; clear ua
  have Ub := Lib.hid ub; clear ub
  have Uc := Lib.hid uc; clear uc
  have Hv := Lib.hid hv; clear hv
  have S1 := Lib.hid s1; clear s1
  have S2 := Lib.hid s2; clear s2
  have S3 := Lib.hid s3; clear s3
  have S4 := Lib.hid s4; clear s4
  have Hp1 := Lib.hid hp1; clear hp1
  have Hp2 := Lib.hid hp2; clear hp2
  have Hp3 := Lib.hid hp3; clear hp3
  have Hp4 := Lib.hid hp4; clear hp4
  have Hp5 := Lib.hid hp5; clear hp5
  have C1 := Lib.hid c1; clear c1
  have C2 := Lib.hid c2; clear c2
  have C3 := Lib.hid c3; clear c3
  have C4 := Lib.hid c4; clear c4
  have C5 := Lib.hid c5; clear c5
  have B0 := Lib.hid b0; clear b0
  have B1 := Lib.hid b1; clear b1
  have B2 := Lib.hid b2; clear b2
  have TW := Lib.hid tW; clear tW
  clear d1 d2 d3 d4 d5
  go_enter Try.func48, Try.ntmps48
  go_upto_region 1 with fail
  rw [← hW]
  have HW := Lib.hid hW; clear hW
  refine wp_region_store 17 (by kernel_rfl) rfl rfl rfl (by kernel_rfl) (by kernel_rfl) (by kernel_rfl) ?_
  simp only [List.take_succ_cons, List.take_zero, List.cons_append, List.nil_append, nopT]
  iterate 5 (go_big_quiet_step (exact (C1.out _ _).mono fun e w'' h => h))
  iterate 5 (go_big_quiet_step (exact (C2.out _ _).mono fun e w'' h => h))
  iterate 5 (go_big_quiet_step (exact (C3.out _ _).mono fun e w'' h => h))
  go_big_quiet_step (exact (C4.out _ _).mono fun e w'' h => h)
  go_big_quiet_step (exact (C5.out _ _).mono fun e w'' h => h)
  refine wpQuiet_nil ?_
  rintro w' ⟨⟨dq, osq⟩, rfl⟩
  have hbr := below_regrown W dq osq
  generalize grow (redrawn W dq) osq = w5 at hbr ⊢
  have h5 := B2.out.same (hbr.block _ (by omega))
  have hfin := blk_row (cs := #[.int .i64 p5.1, .int .i64 p5.2.1, .int .i64 p5.2.2]) h5
  have hbel := row_below (g := w.heap.size + 1 + 1) (TW.out.trans (hbr.mono TW.out.size)) (by omega) #[.int .i64 p5.1, .int .i64 p5.2.1, .int .i64 p5.2.2]
  refine wp_storeG 25 (.tmp 4) (.tmp 21) _ #[.int .i64 p5.1, .int .i64 p5.2.1, .int .i64 p5.2.2] rfl rfl rfl h5 (by kernel_rfl) rfl (by simp [Value.oneCell']) rfl ?_
  have Hfin := Lib.hid hfin; clear hfin
  have Hbel := Lib.hid hbel; clear hbel
  clear x0 x1 x2 x3 x4 x5 x6 x7 x8 y0 y1 y2
  go_wp2
  refine bodyPost_ret (results_cell_row rfl _ _ (w.heap.size + 1 + 1) 25 _ (0, 0) _ rfl Hfin.out Try.underlying25 rfl (by kernel_rfl)) rfl ?_
  exact ⟨rfl, Hbel.out⟩
set_option maxRecDepth 100000 in
set_option maxHeartbeats 4000000 in
theorem rImage_calls (t : Nat) (ht : t < 24) (a v : V3) (w : World) (ha : smallV 1000000 a) (hv : smallV 1000000 v) : Calls Try.prog 25 #[.agg #[.int .u8 (t : Int), .int .i64 a.1, .int .i64 a.2.1, .int .i64 a.2.2], .agg #[.int .i64 v.1, .int .i64 v.2.1, .int .i64 v.2.2]] w (VecPost (imageF ((t : Int), a) v) w) := by
  have hr : imageF ((t : Int), a) v = addV (sumV (axT t) v) a := by unfold imageF; simp
  have hu := axT_unit ⟨t, ht⟩
  simp only at hu
  have hss := sum_small hu hv
  obtain ⟨m, hm⟩ : ∃ m, axT t = m := ⟨_, rfl⟩
  rw [hm] at hr hu hss
  obtain ⟨s, hs⟩ : ∃ s, sumV m v = s := ⟨_, rfl⟩
  rw [hs] at hr hss
  obtain ⟨⟨k1, k2⟩, ⟨k3, k4⟩, ⟨k5, k6⟩⟩ := hss
  obtain ⟨⟨l1, l2⟩, ⟨l3, l4⟩, ⟨l5, l6⟩⟩ := ha
  obtain ⟨W, hW⟩ : ∃ W, W = ((w.alloc (.cells #[.int .u8 (t : Int), .int .i64 a.1, .int .i64 a.2.1, .int .i64 a.2.2] 27)).alloc (.cells #[.int .i64 v.1, .int .i64 v.2.1, .int .i64 v.2.2] 25)).alloc (.cells #[.int .i64 0, .int .i64 0, .int .i64 0] 25) := ⟨_, rfl⟩
  have b0 : Blk W w.heap.size 27 #[.int .u8 (t : Int), .int .i64 a.1, .int .i64 a.2.1, .int .i64 a.2.2] := by rw [hW]; exact ((Blk.new w _ _).alloc _).alloc _
  have b1 : Blk W (w.heap.size + 1) 25 #[.int .i64 v.1, .int .i64 v.2.1, .int .i64 v.2.2] := by
    rw [hW]
    have := (Blk.new (w.alloc (.cells #[.int .u8 (t : Int), .int .i64 a.1, .int .i64 a.2.1, .int .i64 a.2.2] 27)) 25 #[.int .i64 v.1, .int .i64 v.2.1, .int .i64 v.2.2]).alloc (.cells #[.int .i64 0, .int .i64 0, .int .i64 0] 25)
    simpa using this
  have b2 : Blk W (w.heap.size + 1 + 1) 25 #[.int .i64 0, .int .i64 0, .int .i64 0] := by
    rw [hW]
    have := Blk.new ((w.alloc (.cells #[.int .u8 (t : Int), .int .i64 a.1, .int .i64 a.2.1, .int .i64 a.2.2] 27)).alloc (.cells #[.int .i64 v.1, .int .i64 v.2.1, .int .i64 v.2.2] 25)) 25 #[.int .i64 0, .int .i64 0, .int .i64 0]
    simpa using this
  have tW : RowKit.Below w.heap.size w W := by rw [hW]; exact al3
  have zW : W.heap.size = w.heap.size + 3 := by rw [hW]; simp

  have d := b0.cell 0
  have x0 := cell_regrown d
  clear d
  have d := b0.cell 1
  have x1 := cell_regrown d
  clear d
  have d := b0.cell 2
  have x2 := cell_regrown d
  clear d
  have d := b0.cell 3
  have x3 := cell_regrown d
  clear d
  have d := b1.cell 0
  have y0 := cell_regrown d
  clear d
  have d := b1.cell 1
  have y1 := cell_regrown d
  clear d
  have d := b1.cell 2
  have y2 := cell_regrown d
  clear d
  have d3 := fun W => plus_calls s a W ⟨⟨by omega, by omega⟩, ⟨by omega, by omega⟩, ⟨by omega, by omega⟩⟩ ⟨⟨by omega, by omega⟩, ⟨by omega, by omega⟩, ⟨by omega, by omega⟩⟩
  rw [← hr] at d3
  obtain ⟨z, hz⟩ : ∃ z, imageF ((t : Int), a) v = z := ⟨_, rfl⟩
  rw [hz] at d3
  rw [hz]
  have c1 : ∀ q os, Calls Try.prog 49 #[.int .i64 (t : Int)] (grow (redrawn W q) os) fun e w'' => e = .returned (.agg #[.int .i64 m.1.1, .int .i64 m.1.2.1, .int .i64 m.1.2.2, .int .i64 m.2.1.1, .int .i64 m.2.1.2.1, .int .i64 m.2.1.2.2, .int .i64 m.2.2.1, .int .i64 m.2.2.2.1, .int .i64 m.2.2.2.2]) ∧ ∃ p : Regrown, w'' = grow (redrawn W p.d) p.os := fun q os => by rw [← hm]; exact Calls.regrown_of (refImages_calls t ht _)
  have c2 : ∀ q os, Calls Try.prog 48 #[.agg #[.int .i64 m.1.1, .int .i64 m.1.2.1, .int .i64 m.1.2.2, .int .i64 m.2.1.1, .int .i64 m.2.1.2.1, .int .i64 m.2.1.2.2, .int .i64 m.2.2.1, .int .i64 m.2.2.2.1, .int .i64 m.2.2.2.2], .agg #[.int .i64 v.1, .int .i64 v.2.1, .int .i64 v.2.2]] (grow (redrawn W q) os) fun e w'' => e = .returned (.agg #[.int .i64 s.1, .int .i64 s.2.1, .int .i64 s.2.2]) ∧ ∃ p : Regrown, w'' = grow (redrawn W p.d) p.os := fun q os => by rw [← hs]; exact Calls.regrown_of (rSum_calls m v _ hu hv)
  have c3 : ∀ q os, Calls Try.prog 34 #[.agg #[.int .i64 s.1, .int .i64 s.2.1, .int .i64 s.2.2], .agg #[.int .i64 a.1, .int .i64 a.2.1, .int .i64 a.2.2]] (grow (redrawn W q) os) fun e w'' => e = .returned (.agg #[.int .i64 z.1, .int .i64 z.2.1, .int .i64 z.2.2]) ∧ ∃ p : Regrown, w'' = grow (redrawn W p.d) p.os := fun q os => Calls.regrown_of (d3 _)
  have hwr : IntKind.i64.wrap (t : Int) = (t : Int) := IntWalk.i64_in _ (by omega)
  have Hr := Lib.hid hr; clear hr
  have Hu := Lib.hid hu; clear hu
  have Hm := Lib.hid hm; clear hm
  have Hs := Lib.hid hs; clear hs
  have Hv := Lib.hid hv; clear hv
  have C1 := Lib.hid c1; clear c1
  have C2 := Lib.hid c2; clear c2
  have C3 := Lib.hid c3; clear c3
  have B0 := Lib.hid b0; clear b0
  have B1 := Lib.hid b1; clear b1
  have B2 := Lib.hid b2; clear b2
  have TW := Lib.hid tW; clear tW
  have Hz := Lib.hid hz; clear hz
  clear d3
  go_enter Try.func25, Try.ntmps25
  go_upto_region 1 with fail
  rw [← hW]
  have HW := Lib.hid hW; clear hW
  refine wp_region_store 9 (by kernel_rfl) rfl rfl rfl (by kernel_rfl) (by kernel_rfl) (by kernel_rfl) ?_
  simp only [List.take_succ_cons, List.take_zero, List.cons_append, List.nil_append, nopT]
  iterate 4 (go_big_quiet_step (exact (C1.out _ _).mono fun e w'' h => h))
  iterate 2 (go_big_quiet_step (exact (C2.out _ _).mono fun e w'' h => h))
  iterate 3 (go_big_quiet_step (exact (C3.out _ _).mono fun e w'' h => h))
  refine wpQuiet_nil ?_
  rintro w' ⟨⟨dq, osq⟩, rfl⟩
  have hbr := below_regrown W dq osq
  generalize grow (redrawn W dq) osq = w5 at hbr ⊢
  have h5 := B2.out.same (hbr.block _ (by omega))
  have hfin := blk_row (cs := #[.int .i64 z.1, .int .i64 z.2.1, .int .i64 z.2.2]) h5
  have hbel := row_below (g := w.heap.size + 1 + 1) (TW.out.trans (hbr.mono TW.out.size)) (by omega) #[.int .i64 z.1, .int .i64 z.2.1, .int .i64 z.2.2]
  refine wp_storeG 25 (.tmp 4) (.tmp 13) _ #[.int .i64 z.1, .int .i64 z.2.1, .int .i64 z.2.2] rfl rfl rfl h5 (by kernel_rfl) rfl (by simp [Value.oneCell']) rfl ?_
  have Hfin := Lib.hid hfin; clear hfin
  have Hbel := Lib.hid hbel; clear hbel
  clear x0 x1 x2 x3 y0 y1 y2
  go_wp2
  refine bodyPost_ret (results_cell_row rfl _ _ (w.heap.size + 1 + 1) 25 _ (0, 0) _ rfl Hfin.out Try.underlying25 rfl (by kernel_rfl)) rfl ?_
  exact ⟨rfl, Hbel.out⟩
end Go.Proofs.Ytldccpmnboebmaa
