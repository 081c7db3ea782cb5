/-
  Layer 16: the walk of frame.Within.
-/
import Derived.Test.YtldccpmnboebmaaDoorVl
namespace Go.Proofs.YtldccpmnboebmaaDoor
open Go.RowKit Go.Sort
set_option linter.unusedVariables false

def FrErr (r : Fr × Int) (w : World) (e : Ending) (w' : World) : Prop := e = .returned (.tuple #[.agg #[.int .u8 r.1.1, .int .i64 r.1.2.1, .int .i64 r.1.2.2.1, .int .i64 r.1.2.2.2], .int .i64 r.2]) ∧ RowKit.Below w.heap.size w w'
set_option maxRecDepth 100000 in
set_option maxHeartbeats 4000000 in
theorem withinE_calls (f g : Fr) (w : World) (hf0 : 0 ≤ f.1) (hg0 : 0 ≤ g.1) : Calls Tryd.prog 18 #[.agg #[.int .u8 f.1, .int .i64 f.2.1, .int .i64 f.2.2.1, .int .i64 f.2.2.2], .agg #[.int .u8 g.1, .int .i64 g.2.1, .int .i64 g.2.2.1, .int .i64 g.2.2.2]] w (FrErr (withinF f g) w) := by
  obtain ⟨W, hW⟩ : ∃ W, W = ((w.alloc (.cells #[.int .u8 f.1, .int .i64 f.2.1, .int .i64 f.2.2.1, .int .i64 f.2.2.2] 26)).alloc (.cells #[.int .u8 g.1, .int .i64 g.2.1, .int .i64 g.2.2.1, .int .i64 g.2.2.2] 26)).alloc (.cells #[.int .u8 0, .int .i64 0, .int .i64 0, .int .i64 0] 26) := ⟨_, rfl⟩
  have b0 : Blk W w.heap.size 26 #[.int .u8 f.1, .int .i64 f.2.1, .int .i64 f.2.2.1, .int .i64 f.2.2.2] := by rw [hW]; exact ((Blk.new w _ _).alloc _).alloc _
  have b1 : Blk W (w.heap.size + 1) 26 #[.int .u8 g.1, .int .i64 g.2.1, .int .i64 g.2.2.1, .int .i64 g.2.2.2] := by
    rw [hW]
    have := (Blk.new (w.alloc (.cells #[.int .u8 f.1, .int .i64 f.2.1, .int .i64 f.2.2.1, .int .i64 f.2.2.2] 26)) 26 #[.int .u8 g.1, .int .i64 g.2.1, .int .i64 g.2.2.1, .int .i64 g.2.2.2]).alloc (.cells #[.int .u8 0, .int .i64 0, .int .i64 0, .int .i64 0] 26)
    simpa using this
  have b2 : Blk W (w.heap.size + 1 + 1) 26 #[.int .u8 0, .int .i64 0, .int .i64 0, .int .i64 0] := by
    rw [hW]
    have := Blk.new ((w.alloc (.cells #[.int .u8 f.1, .int .i64 f.2.1, .int .i64 f.2.2.1, .int .i64 f.2.2.2] 26)).alloc (.cells #[.int .u8 g.1, .int .i64 g.2.1, .int .i64 g.2.2.1, .int .i64 g.2.2.2] 26)) 26 #[.int .u8 0, .int .i64 0, .int .i64 0, .int .i64 0]
    simpa using this
  have tW : RowKit.Below w.heap.size w W := by rw [hW]; exact al3
  have zW : W.heap.size = w.heap.size + 3 := by rw [hW]; simp
  have hc := fun W => fCheck_calls f W
  have hd := fun W => fCheck_calls g W
  have B0 := Lib.hid b0; clear b0
  have B1 := Lib.hid b1; clear b1
  have B2 := Lib.hid b2; clear b2
  have TW := Lib.hid tW; clear tW
  have Hc := Lib.hid hc; clear hc
  have Hd := Lib.hid hd; clear hd
  by_cases hck : checkFr f = 0
  case neg =>
    have hr : withinF f g = ((0, 0, 0, 0), checkFr f) := by unfold withinF; rw [if_neg hck]
    have e0 : (checkFr f != 0) = true := by simpa using hck
    have Hr := Lib.hid hr; clear hr
    have Hck := Lib.hid hck; clear hck
    have x0 := B0.out.cell 0
    have x1 := B0.out.cell 1
    have x2 := B0.out.cell 2
    have x3 := B0.out.cell 3
    go_enter Tryd.func18, Tryd.ntmps18
    go_wp2_with fail
    (try rw [← hW])
    refine (Hc.out _).mono ?_
    rintro e w1 ⟨rfl, d1⟩
    have k2 := B2.out.same (d1.block _ (by omega))
    have k1 := B1.out.same (d1.block _ (by omega))
    have k0 := B0.out.same (d1.block _ (by omega))
    have t1 := TW.out.trans (d1.mono TW.out.size)
    have z1 := d1.size
    have hfin := blk_row (cs := #[.int .u8 0, .int .i64 0, .int .i64 0, .int .i64 0]) k2
    have hbel := row_below (g := w.heap.size + 1 + 1) t1 (by omega) #[.int .u8 0, .int .i64 0, .int .i64 0, .int .i64 0]
    have Hfin := Lib.hid hfin; clear hfin
    have Hbel := Lib.hid hbel; clear hbel
    clear k0 k1 d1 t1 x0 x1 x2 x3
    go_wp2_with ((with_reducible show wpList _ _ _ (Oper.mk none _ _ _ _ _ :: _) _ _); refine wpList_storeG 26 (.tmp 4) (.tmp 13) _ #[.int .u8 0, .int .i64 0, .int .i64 0, .int .i64 0] rfl rfl rfl rfl k2 (by kernel_rfl) rfl (by simp [Value.oneCell']) rfl ?_)
    refine bodyPost_ret (results_vec_tmp rfl _ _ _ (w.heap.size + 1 + 1) 26 _ rfl Hfin.out Tryd.underlying26 (by kernel_rfl)) rfl ?_
    exact ⟨by rw [Hr.out]; rfl, Hbel.out⟩
  case pos =>
  have e0 : (checkFr f != 0) = false := by simpa using hck
  by_cases hcg : checkFr g = 0
  case neg =>
    have hr : withinF f g = ((0, 0, 0, 0), checkFr g) := by unfold withinF; rw [if_pos hck, if_neg hcg]
    have e1 : (checkFr g != 0) = true := by simpa using hcg
    have Hr := Lib.hid hr; clear hr
    have Hck := Lib.hid hck; clear hck
    have Hcg := Lib.hid hcg; clear hcg
    have x0 := B0.out.cell 0
    have x1 := B0.out.cell 1
    have x2 := B0.out.cell 2
    have x3 := B0.out.cell 3
    go_enter Tryd.func18, Tryd.ntmps18
    go_wp2_with fail
    (try rw [← hW])
    refine (Hc.out _).mono ?_
    rintro e w1 ⟨rfl, d1⟩
    have k2 := B2.out.same (d1.block _ (by omega))
    have k1 := B1.out.same (d1.block _ (by omega))
    have k0 := B0.out.same (d1.block _ (by omega))
    have t1 := TW.out.trans (d1.mono TW.out.size)
    have z1 := d1.size
    have y0 := k1.cell 0
    have y1 := k1.cell 1
    have y2 := k1.cell 2
    have y3 := k1.cell 3
    have j2 := Lib.hid k2
    have j0 := Lib.hid k0
    have j1 := Lib.hid k1
    have jt := Lib.hid t1
    clear k0 k1 k2 d1 x0 x1 x2 x3 t1
    go_wp2_with fail
    refine (Hd.out _).mono ?_
    rintro e w2 ⟨rfl, d2⟩
    have k2 := j2.out.same (d2.block _ (by omega))
    have k1 := j1.out.same (d2.block _ (by omega))
    have k0 := j0.out.same (d2.block _ (by omega))
    have t2 := jt.out.trans (d2.mono jt.out.size)
    have z2 := d2.size
    have hfin := blk_row (cs := #[.int .u8 0, .int .i64 0, .int .i64 0, .int .i64 0]) k2
    have hbel := row_below (g := w.heap.size + 1 + 1) t2 (by omega) #[.int .u8 0, .int .i64 0, .int .i64 0, .int .i64 0]
    have Hfin := Lib.hid hfin; clear hfin
    have Hbel := Lib.hid hbel; clear hbel
    clear d2 t2 k0 k1 y0 y1 y2 y3
    go_wp2_with ((with_reducible show wpList _ _ _ (Oper.mk none _ _ _ _ _ :: _) _ _); refine wpList_storeG 26 (.tmp 4) (.tmp 19) _ #[.int .u8 0, .int .i64 0, .int .i64 0, .int .i64 0] rfl rfl rfl rfl k2 (by kernel_rfl) rfl (by simp [Value.oneCell']) rfl ?_)
    refine bodyPost_ret (results_vec_tmp rfl _ _ _ (w.heap.size + 1 + 1) 26 _ rfl Hfin.out Tryd.underlying26 (by kernel_rfl)) rfl ?_
    exact ⟨by rw [Hr.out]; rfl, Hbel.out⟩
  case pos =>
  have e1 : (checkFr g != 0) = false := by simpa using hcg
  obtain ⟨hf24, hfin⟩ := checkFr_ok hck
  obtain ⟨hg24, hgin⟩ := checkFr_ok hcg
  have hap : withinF f g = if checkFr (composeF f g) = 0 then (composeF f g, 0) else ((0, 0, 0, 0), 16) := by unfold withinF; rw [if_pos hck, if_pos hcg]
  have him : ∀ W, Calls Tryd.prog 32 #[.agg #[.int .u8 f.1, .int .i64 f.2.1, .int .i64 f.2.2.1, .int .i64 f.2.2.2], .agg #[.int .u8 g.1, .int .i64 g.2.1, .int .i64 g.2.2.1, .int .i64 g.2.2.2]] W (FrPost (composeF f g) W) := by
    obtain ⟨s, a⟩ := f
    obtain ⟨t, b⟩ := g
    simp only at hf0 hg0 hf24 hg24 hfin hgin
    obtain ⟨m, rfl⟩ : ∃ n : Nat, s = (n : Int) := ⟨s.toNat, by omega⟩
    obtain ⟨n, rfl⟩ : ∃ n : Nat, t = (n : Int) := ⟨t.toNat, by omega⟩
    exact fun W => within_calls m n (by omega) (by omega) a b W (in_small hfin) (in_small hgin)
  obtain ⟨r, hr⟩ : ∃ r, composeF f g = r := ⟨_, rfl⟩
  rw [hr] at him hap
  have hj := fun W => fCheck_calls r W
  by_cases hcr : checkFr r = 0
  case neg =>
    have e2 : (checkFr r != 0) = true := by simpa using hcr
    rw [if_neg hcr] at hap
    have Hap := Lib.hid hap; clear hap
    have Hck := Lib.hid hck; clear hck
    have Hcg := Lib.hid hcg; clear hcg
    have Hr := Lib.hid hr; clear hr
    have Hcr := Lib.hid hcr; clear hcr
    have Him := Lib.hid him; clear him
    have Hj := Lib.hid hj; clear hj
    have Hfin := Lib.hid hfin; clear hfin
    have Hgin := Lib.hid hgin; clear hgin
    have x0 := B0.out.cell 0
    have x1 := B0.out.cell 1
    have x2 := B0.out.cell 2
    have x3 := B0.out.cell 3
    go_enter Tryd.func18, Tryd.ntmps18
    go_wp2_with fail
    (try rw [← hW])
    refine (Hc.out _).mono ?_
    rintro e w1 ⟨rfl, d1⟩
    have k2 := B2.out.same (d1.block _ (by omega))
    have k1 := B1.out.same (d1.block _ (by omega))
    have k0 := B0.out.same (d1.block _ (by omega))
    have t1 := TW.out.trans (d1.mono TW.out.size)
    have z1 := d1.size
    have y0 := k1.cell 0
    have y1 := k1.cell 1
    have y2 := k1.cell 2
    have y3 := k1.cell 3
    have j2 := Lib.hid k2
    have j0 := Lib.hid k0
    have j1 := Lib.hid k1
    have jt := Lib.hid t1
    clear k0 k1 k2 d1 x0 x1 x2 x3 t1
    go_wp2_with fail
    refine (Hd.out _).mono ?_
    rintro e w2 ⟨rfl, d2⟩
    have k2 := j2.out.same (d2.block _ (by omega))
    have k1 := j1.out.same (d2.block _ (by omega))
    have k0 := j0.out.same (d2.block _ (by omega))
    have t2 := jt.out.trans (d2.mono jt.out.size)
    have z2 := d2.size
    have x0 := k0.cell 0
    have x1 := k0.cell 1
    have x2 := k0.cell 2
    have x3 := k0.cell 3
    clear y0 y1 y2 y3
    have y0 := k1.cell 0
    have y1 := k1.cell 1
    have y2 := k1.cell 2
    have y3 := k1.cell 3
    have j2 := Lib.hid k2
    have jt := Lib.hid t2
    clear k0 k1 k2 d2 t2
    go_wp2_with fail
    refine (Him.out _).mono ?_
    rintro e w3 ⟨rfl, d3⟩
    have k2 := j2.out.same (d3.block _ (by omega))
    have t3 := jt.out.trans (d3.mono jt.out.size)
    have z3 := d3.size
    have q2 := k2.alloc (.cells #[.int .u8 r.1, .int .i64 r.2.1, .int .i64 r.2.2.1, .int .i64 r.2.2.2] 26)
    have q3 := t3.alloc t3.size (.cells #[.int .u8 r.1, .int .i64 r.2.1, .int .i64 r.2.2.1, .int .i64 r.2.2.2] 26)
    have q1 := Blk.new w3 26 #[.int .u8 r.1, .int .i64 r.2.1, .int .i64 r.2.2.1, .int .i64 r.2.2.2]
    obtain ⟨w4, hw4⟩ : ∃ W, W = w3.alloc (.cells #[.int .u8 r.1, .int .i64 r.2.1, .int .i64 r.2.2.1, .int .i64 r.2.2.2] 26) := ⟨_, rfl⟩
    have z4 : w4.heap.size = w3.heap.size + 1 := by rw [hw4]; simp
    rw [← hw4] at q1 q2 q3
    have Q1 := Lib.hid q1; clear q1
    have Q2 := Lib.hid q2; clear q2
    have Q3 := Lib.hid q3; clear q3
    clear k2 d3 t3 x0 x1 x2 x3 y0 y1 y2 y3
    go_wp2_with fail
    rw [← hw4]
    refine (Hj.out _).mono ?_
    rintro e w5 ⟨rfl, d5⟩
    have k2 := Q2.out.same (d5.block _ (by omega))
    have k1 := Q1.out.same (d5.block _ (by omega))
    have t5 := Q3.out.trans (d5.mono Q3.out.size)
    have z5 := d5.size
    have hfin := blk_row (cs := #[.int .u8 0, .int .i64 0, .int .i64 0, .int .i64 0]) k2
    have hbel := row_below (g := w.heap.size + 1 + 1) t5 (by omega) #[.int .u8 0, .int .i64 0, .int .i64 0, .int .i64 0]
    have Hfin := Lib.hid hfin; clear hfin
    have Hbel := Lib.hid hbel; clear hbel
    clear d5 t5 k1
    go_wp2_with ((with_reducible show wpList _ _ _ (Oper.mk none _ _ _ _ _ :: _) _ _); refine wpList_storeG 26 (.tmp 4) (.tmp 27) _ #[.int .u8 0, .int .i64 0, .int .i64 0, .int .i64 0] rfl rfl rfl rfl k2 (by kernel_rfl) rfl (by simp [Value.oneCell']) rfl ?_)
    refine bodyPost_ret (results_vec_tmp rfl _ _ _ (w.heap.size + 1 + 1) 26 _ rfl Hfin.out Tryd.underlying26 (by kernel_rfl)) rfl ?_
    exact ⟨by rw [Hap.out]; rfl, Hbel.out⟩
  case pos =>
    have e2 : (checkFr r != 0) = false := by simpa using hcr
    rw [if_pos hcr] at hap
    have Hap := Lib.hid hap; clear hap
    have Hck := Lib.hid hck; clear hck
    have Hcg := Lib.hid hcg; clear hcg
    have Hr := Lib.hid hr; clear hr
    have Hcr := Lib.hid hcr; clear hcr
    have Him := Lib.hid him; clear him
    have Hj := Lib.hid hj; clear hj
    have Hfin := Lib.hid hfin; clear hfin
    have Hgin := Lib.hid hgin; clear hgin
    have x0 := B0.out.cell 0
    have x1 := B0.out.cell 1
    have x2 := B0.out.cell 2
    have x3 := B0.out.cell 3
    go_enter Tryd.func18, Tryd.ntmps18
    go_wp2_with fail
    (try rw [← hW])
    refine (Hc.out _).mono ?_
    rintro e w1 ⟨rfl, d1⟩
    have k2 := B2.out.same (d1.block _ (by omega))
    have k1 := B1.out.same (d1.block _ (by omega))
    have k0 := B0.out.same (d1.block _ (by omega))
    have t1 := TW.out.trans (d1.mono TW.out.size)
    have z1 := d1.size
    have y0 := k1.cell 0
    have y1 := k1.cell 1
    have y2 := k1.cell 2
    have y3 := k1.cell 3
    have j2 := Lib.hid k2
    have j0 := Lib.hid k0
    have j1 := Lib.hid k1
    have jt := Lib.hid t1
    clear k0 k1 k2 d1 x0 x1 x2 x3 t1
    go_wp2_with fail
    refine (Hd.out _).mono ?_
    rintro e w2 ⟨rfl, d2⟩
    have k2 := j2.out.same (d2.block _ (by omega))
    have k1 := j1.out.same (d2.block _ (by omega))
    have k0 := j0.out.same (d2.block _ (by omega))
    have t2 := jt.out.trans (d2.mono jt.out.size)
    have z2 := d2.size
    have x0 := k0.cell 0
    have x1 := k0.cell 1
    have x2 := k0.cell 2
    have x3 := k0.cell 3
    clear y0 y1 y2 y3
    have y0 := k1.cell 0
    have y1 := k1.cell 1
    have y2 := k1.cell 2
    have y3 := k1.cell 3
    have j2 := Lib.hid k2
    have jt := Lib.hid t2
    clear k0 k1 k2 d2 t2
    go_wp2_with fail
    refine (Him.out _).mono ?_
    rintro e w3 ⟨rfl, d3⟩
    have k2 := j2.out.same (d3.block _ (by omega))
    have t3 := jt.out.trans (d3.mono jt.out.size)
    have z3 := d3.size
    have q2 := k2.alloc (.cells #[.int .u8 r.1, .int .i64 r.2.1, .int .i64 r.2.2.1, .int .i64 r.2.2.2] 26)
    have q3 := t3.alloc t3.size (.cells #[.int .u8 r.1, .int .i64 r.2.1, .int .i64 r.2.2.1, .int .i64 r.2.2.2] 26)
    have q1 := Blk.new w3 26 #[.int .u8 r.1, .int .i64 r.2.1, .int .i64 r.2.2.1, .int .i64 r.2.2.2]
    obtain ⟨w4, hw4⟩ : ∃ W, W = w3.alloc (.cells #[.int .u8 r.1, .int .i64 r.2.1, .int .i64 r.2.2.1, .int .i64 r.2.2.2] 26) := ⟨_, rfl⟩
    have z4 : w4.heap.size = w3.heap.size + 1 := by rw [hw4]; simp
    rw [← hw4] at q1 q2 q3
    have Q1 := Lib.hid q1; clear q1
    have Q2 := Lib.hid q2; clear q2
    have Q3 := Lib.hid q3; clear q3
    clear k2 d3 t3 x0 x1 x2 x3 y0 y1 y2 y3
    go_wp2_with fail
    rw [← hw4]
    refine (Hj.out _).mono ?_
    rintro e w5 ⟨rfl, d5⟩
    have k2 := Q2.out.same (d5.block _ (by omega))
    have k1 := Q1.out.same (d5.block _ (by omega))
    have t5 := Q3.out.trans (d5.mono Q3.out.size)
    have z5 := d5.size
    have y0 := k1.cell 0
    have y1 := k1.cell 1
    have y2 := k1.cell 2
    have y3 := k1.cell 3
    have hfin := blk_row (cs := #[.int .u8 r.1, .int .i64 r.2.1, .int .i64 r.2.2.1, .int .i64 r.2.2.2]) k2
    have hbel := row_below (g := w.heap.size + 1 + 1) t5 (by omega) #[.int .u8 r.1, .int .i64 r.2.1, .int .i64 r.2.2.1, .int .i64 r.2.2.2]
    have Hfin := Lib.hid hfin; clear hfin
    have Hbel := Lib.hid hbel; clear hbel
    clear d5 t5 k1
    go_wp2_with ((with_reducible show wpList _ _ _ (Oper.mk none _ _ _ _ _ :: _) _ _); refine wpList_storeG 26 (.tmp 4) (.tmp 28) _ #[.int .u8 r.1, .int .i64 r.2.1, .int .i64 r.2.2.1, .int .i64 r.2.2.2] rfl rfl rfl rfl k2 (by kernel_rfl) rfl (by simp [Value.oneCell']) rfl ?_)
    refine bodyPost_ret (results_vec_tmp rfl _ _ _ (w.heap.size + 1 + 1) 26 _ rfl Hfin.out Tryd.underlying26 (by kernel_rfl)) rfl ?_
    exact ⟨by rw [Hap.out]; rfl, Hbel.out⟩
end Go.Proofs.YtldccpmnboebmaaDoor
