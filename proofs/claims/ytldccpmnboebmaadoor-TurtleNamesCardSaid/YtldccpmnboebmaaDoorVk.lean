/-
  Layer 16: the walk of frame.Apply.
-/
import Derived.Test.YtldccpmnboebmaaDoorVj
import Derived.Laws.ResultCell
namespace Go.Proofs.YtldccpmnboebmaaDoor
open Go.RowKit Go.Sort
set_option linter.unusedVariables false

theorem results_vec_tmp {fn : Func} {p u : Tmp} {ty : TypeId} (h : fn.results = #[.cell p ty, .tmp u]) (tmps : Array Value) (P : Program) (w : World) (g : Nat) (t : TypeId) (cs : Array Value) {fs}
    (hp : tmps.getD p undef = .pointer (some ⟨g, 0, none⟩)) (hg : Blk w g t cs) (hu : P.underlying ty = some (.struct fs)) (hi : (P.info? ty).map (·.size) = some cs.size) :
    (results fn tmps).run P w = .ok (.tuple #[.agg cs, tmps.getD u undef]) w := by
  rw [results_cell_tmp h, hp]
  simp only [asAddr, Sem.run_pure, Result.andThen_ok, run_loadVar_row w g t ty cs (0, 0) _ hg hu rfl hi]
def VecErr (r : V3 × Int) (w : World) (e : Ending) (w' : World) : Prop := e = .returned (.tuple #[.agg #[.int .i64 r.1.1, .int .i64 r.1.2.1, .int .i64 r.1.2.2], .int .i64 r.2]) ∧ RowKit.Below w.heap.size w w'
set_option maxRecDepth 100000 in
set_option maxHeartbeats 4000000 in
theorem apply_calls (f : Fr) (v : V3) (w : World) (hf0 : 0 ≤ f.1) : Calls Tryd.prog 33 #[.agg #[.int .u8 f.1, .int .i64 f.2.1, .int .i64 f.2.2.1, .int .i64 f.2.2.2], .agg #[.int .i64 v.1, .int .i64 v.2.1, .int .i64 v.2.2]] w (VecErr (applyF f v) w) := by
  obtain ⟨W, hW⟩ : ∃ W, W = ((w.alloc (.cells #[.int .u8 f.1, .int .i64 f.2.1, .int .i64 f.2.2.1, .int .i64 f.2.2.2] 26)).alloc (.cells #[.int .i64 v.1, .int .i64 v.2.1, .int .i64 v.2.2] 24)).alloc (.cells #[.int .i64 0, .int .i64 0, .int .i64 0] 24) := ⟨_, rfl⟩
  have b0 : Blk W w.heap.size 26 #[.int .u8 f.1, .int .i64 f.2.1, .int .i64 f.2.2.1, .int .i64 f.2.2.2] := by rw [hW]; exact ((Blk.new w _ _).alloc _).alloc _
  have b1 : Blk W (w.heap.size + 1) 24 #[.int .i64 v.1, .int .i64 v.2.1, .int .i64 v.2.2] := by
    rw [hW]
    have := (Blk.new (w.alloc (.cells #[.int .u8 f.1, .int .i64 f.2.1, .int .i64 f.2.2.1, .int .i64 f.2.2.2] 26)) 24 #[.int .i64 v.1, .int .i64 v.2.1, .int .i64 v.2.2]).alloc (.cells #[.int .i64 0, .int .i64 0, .int .i64 0] 24)
    simpa using this
  have b2 : Blk W (w.heap.size + 1 + 1) 24 #[.int .i64 0, .int .i64 0, .int .i64 0] := by
    rw [hW]
    have := Blk.new ((w.alloc (.cells #[.int .u8 f.1, .int .i64 f.2.1, .int .i64 f.2.2.1, .int .i64 f.2.2.2] 26)).alloc (.cells #[.int .i64 v.1, .int .i64 v.2.1, .int .i64 v.2.2] 24)) 24 #[.int .i64 0, .int .i64 0, .int .i64 0]
    simpa using this
  have tW : RowKit.Below w.heap.size w W := by rw [hW]; exact al3
  have zW : W.heap.size = w.heap.size + 3 := by rw [hW]; simp
  have hc := fun W => fCheck_calls f W
  have hi := fun W => ffine_calls v W
  have B0 := Lib.hid b0; clear b0
  have B1 := Lib.hid b1; clear b1
  have B2 := Lib.hid b2; clear b2
  have TW := Lib.hid tW; clear tW
  have Hc := Lib.hid hc; clear hc
  have Hi := Lib.hid hi; clear hi
  by_cases hck : checkFr f = 0
  case neg =>
    have hr : applyF f v = ((0, 0, 0), checkFr f) := by unfold applyF; rw [if_neg hck]
    have e0 : (checkFr f != 0) = true := by simpa using hck
    have Hr := Lib.hid hr; clear hr
    have Hck := Lib.hid hck; clear hck
    have x0 := B0.out.cell 0
    have x1 := B0.out.cell 1
    have x2 := B0.out.cell 2
    have x3 := B0.out.cell 3
    go_enter Tryd.func33, Tryd.ntmps33
    go_wp2_with fail
    (try rw [← hW])
    refine (Hc.out _).mono ?_
    rintro e w1 ⟨rfl, d1⟩
    have k2 := B2.out.same (d1.block _ (by omega))
    have k1 := B1.out.same (d1.block _ (by omega))
    have k0 := B0.out.same (d1.block _ (by omega))
    have t1 := TW.out.trans (d1.mono TW.out.size)
    have z1 := d1.size
    have hfin := blk_row (cs := #[.int .i64 0, .int .i64 0, .int .i64 0]) k2
    have hbel := row_below (g := w.heap.size + 1 + 1) t1 (by omega) #[.int .i64 0, .int .i64 0, .int .i64 0]
    have Hfin := Lib.hid hfin; clear hfin
    have Hbel := Lib.hid hbel; clear hbel
    clear k0 k1 d1 t1 x0 x1 x2 x3
    go_wp2_with ((with_reducible show wpList _ _ _ (Oper.mk none _ _ _ _ _ :: _) _ _); refine wpList_storeG 24 (.tmp 4) (.tmp 11) _ #[.int .i64 0, .int .i64 0, .int .i64 0] rfl rfl rfl rfl k2 (by kernel_rfl) rfl (by simp [Value.oneCell']) rfl ?_)
    refine bodyPost_ret (results_vec_tmp rfl _ _ _ (w.heap.size + 1 + 1) 24 _ rfl Hfin.out Tryd.underlying24 (by kernel_rfl)) rfl ?_
    exact ⟨by rw [Hr.out]; rfl, Hbel.out⟩
  case pos =>
  have e0 : (checkFr f != 0) = false := by simpa using hck
  obtain ⟨hf24, hfin⟩ := checkFr_ok hck
  cases hv : inV (-1000000) v
  case false =>
    have hr : applyF f v = ((0, 0, 0), 2) := by unfold applyF; rw [if_pos hck, hv]; rfl
    rw [hv] at Hi
    have Hr := Lib.hid hr; clear hr
    have Hck := Lib.hid hck; clear hck
    have Hv := Lib.hid hv; clear hv
    have x0 := B0.out.cell 0
    have x1 := B0.out.cell 1
    have x2 := B0.out.cell 2
    have x3 := B0.out.cell 3
    go_enter Tryd.func33, Tryd.ntmps33
    go_wp2_with fail
    (try rw [← hW])
    refine (Hc.out _).mono ?_
    rintro e w1 ⟨rfl, d1⟩
    have k2 := B2.out.same (d1.block _ (by omega))
    have k1 := B1.out.same (d1.block _ (by omega))
    have k0 := B0.out.same (d1.block _ (by omega))
    have t1 := TW.out.trans (d1.mono TW.out.size)
    have z1 := d1.size
    have y0 := k1.cell 0
    have y1 := k1.cell 1
    have y2 := k1.cell 2
    have j2 := Lib.hid k2
    have j1 := Lib.hid t1
    clear k0 k1 k2 d1 x0 x1 x2 x3
    go_wp2_with fail
    refine (Hi.out _).mono ?_
    rintro e w2 ⟨rfl, d2⟩
    have k2 := j2.out.same (d2.block _ (by omega))
    have t2 := j1.out.trans (d2.mono j1.out.size)
    have z2 := d2.size
    have hfin := blk_row (cs := #[.int .i64 0, .int .i64 0, .int .i64 0]) k2
    have hbel := row_below (g := w.heap.size + 1 + 1) t2 (by omega) #[.int .i64 0, .int .i64 0, .int .i64 0]
    have Hfin := Lib.hid hfin; clear hfin
    have Hbel := Lib.hid hbel; clear hbel
    clear d2 t2 y0 y1 y2
    go_wp2_with ((with_reducible show wpList _ _ _ (Oper.mk none _ _ _ _ _ :: _) _ _); refine wpList_storeG 24 (.tmp 4) (.tmp 16) _ #[.int .i64 0, .int .i64 0, .int .i64 0] rfl rfl rfl rfl k2 (by kernel_rfl) rfl (by simp [Value.oneCell']) rfl ?_)
    refine bodyPost_ret (results_vec_tmp rfl _ _ _ (w.heap.size + 1 + 1) 24 _ rfl Hfin.out Tryd.underlying24 (by kernel_rfl)) rfl ?_
    exact ⟨by rw [Hr.out]; rfl, Hbel.out⟩
  case true =>
  obtain ⟨t, a⟩ := f
  simp only at hf0 hf24 hfin
  obtain ⟨n, rfl⟩ : ∃ n : Nat, t = (n : Int) := ⟨t.toNat, by omega⟩
  have hn : n < 24 := by omega
  have him := fun W => image_calls n hn a v W (in_small hfin) (in_small hv)
  have hap : applyF ((n : Int), a) v = if inV (-1000000) (imageF ((n : Int), a) v) = true then (imageF ((n : Int), a) v, 0) else ((0, 0, 0), 16) := by unfold applyF; rw [if_pos hck, if_pos hv]
  obtain ⟨r, hr⟩ : ∃ r, imageF ((n : Int), a) v = r := ⟨_, rfl⟩
  rw [hr] at him hap
  have hj := fun W => ffine_calls r W
  rw [hv] at Hi
  have hi2 := Hi.out
  cases hrv : inV (-1000000) r
  all_goals
    rw [hrv] at hj hap
    have Hap := Lib.hid hap; clear hap
    have Hck := Lib.hid hck; clear hck
    have Hv := Lib.hid hv; clear hv
    have Hr := Lib.hid hr; clear hr
    have Hrv := Lib.hid hrv; clear hrv
    have Him := Lib.hid him; clear him
    have Hj := Lib.hid hj; clear hj
    have Hfin := Lib.hid hfin; clear hfin
    have x0 := B0.out.cell 0
    have x1 := B0.out.cell 1
    have x2 := B0.out.cell 2
    have x3 := B0.out.cell 3
    go_enter Tryd.func33, Tryd.ntmps33
    go_wp2_with fail
    (try rw [← hW])
    refine (Hc.out _).mono ?_
    rintro e w1 ⟨rfl, d1⟩
    have k2 := B2.out.same (d1.block _ (by omega))
    have k1 := B1.out.same (d1.block _ (by omega))
    have k0 := B0.out.same (d1.block _ (by omega))
    have t1 := TW.out.trans (d1.mono TW.out.size)
    have z1 := d1.size
    have y0 := k1.cell 0
    have y1 := k1.cell 1
    have y2 := k1.cell 2
    have j2 := Lib.hid k2
    have j0 := Lib.hid k0
    have j1 := Lib.hid k1
    have jt := Lib.hid t1
    clear k0 k1 k2 d1 x0 x1 x2 x3
    go_wp2_with fail
    refine (Hi.out _).mono ?_
    rintro e w2 ⟨rfl, d2⟩
    have k2 := j2.out.same (d2.block _ (by omega))
    have k1 := j1.out.same (d2.block _ (by omega))
    have k0 := j0.out.same (d2.block _ (by omega))
    have t2 := jt.out.trans (d2.mono jt.out.size)
    have z2 := d2.size
    have x0 := k0.cell 0
    have x1 := k0.cell 1
    have x2 := k0.cell 2
    have x3 := k0.cell 3
    clear y0 y1 y2
    have y0 := k1.cell 0
    have y1 := k1.cell 1
    have y2 := k1.cell 2
    have j2 := Lib.hid k2
    have j1 := Lib.hid k1
    have jt := Lib.hid t2
    clear k0 k1 k2 d2
    go_wp2_with fail
    refine (Him.out _).mono ?_
    rintro e w3 ⟨rfl, d3⟩
    have k2 := j2.out.same (d3.block _ (by omega))
    have k1 := j1.out.same (d3.block _ (by omega))
    have t3 := jt.out.trans (d3.mono jt.out.size)
    have z3 := d3.size
    have q1 := blk_row (cs := #[.int .i64 r.1, .int .i64 r.2.1, .int .i64 r.2.2]) k1
    have q2 := k2.same (setRow_other w3 (w.heap.size + 1) (w.heap.size + 1 + 1) #[.int .i64 r.1, .int .i64 r.2.1, .int .i64 r.2.2] (by omega))
    have q3 := row_below (g := w.heap.size + 1) t3 (by omega) #[.int .i64 r.1, .int .i64 r.2.1, .int .i64 r.2.2]
    have q4 : (w3.setRow (w.heap.size + 1) #[.int .i64 r.1, .int .i64 r.2.1, .int .i64 r.2.2]).heap.size = w3.heap.size := by simp
    clear x0 x1 x2 x3 y0 y1 y2
    have y0 := q1.cell 0
    have y1 := q1.cell 1
    have y2 := q1.cell 2
    have j2 := Lib.hid q2
    have j1 := Lib.hid q1
    have jt := Lib.hid q3
    clear k2 d3 t3 q1 q2 q3
    go_wp2_with ((with_reducible show wpList _ _ _ (Oper.mk none _ _ _ _ _ :: _) _ _); refine wpList_storeG 24 (.tmp 3) (.tmp 19) _ #[.int .i64 r.1, .int .i64 r.2.1, .int .i64 r.2.2] rfl rfl rfl rfl k1 (by kernel_rfl) rfl (by simp [Value.oneCell']) rfl ?_)
    refine (Hj.out _).mono ?_
    rintro e w4 ⟨rfl, d4⟩
    have k2 := j2.out.same (d4.block _ (by rw [q4]; omega))
    have l1 := j1.out.same (d4.block _ (by rw [q4]; omega))
    have t4 := jt.out.trans (d4.mono jt.out.size)
    have z4 := d4.size
    clear y0 y1 y2
    have y0 := l1.cell 0
    have y1 := l1.cell 1
    have y2 := l1.cell 2

    first
    | (have hfn := blk_row (cs := #[.int .i64 0, .int .i64 0, .int .i64 0]) k2
       have hbel := row_below (g := w.heap.size + 1 + 1) t4 (by omega) #[.int .i64 0, .int .i64 0, .int .i64 0]
       have Hfn := Lib.hid hfn; clear hfn
       have Hbel := Lib.hid hbel; clear hbel
       clear d4 t4
       go_wp2_with ((with_reducible show wpList _ _ _ (Oper.mk none _ _ _ _ _ :: _) _ _); refine wpList_storeG 24 (.tmp 4) (.tmp 23) _ #[.int .i64 0, .int .i64 0, .int .i64 0] rfl rfl rfl rfl k2 (by kernel_rfl) rfl (by simp [Value.oneCell']) rfl ?_)
       refine bodyPost_ret (results_vec_tmp rfl _ _ _ (w.heap.size + 1 + 1) 24 _ rfl Hfn.out Tryd.underlying24 (by kernel_rfl)) rfl ?_
       exact ⟨by rw [Hap.out]; rfl, Hbel.out⟩)
    | (have hfn := blk_row (cs := #[.int .i64 r.1, .int .i64 r.2.1, .int .i64 r.2.2]) k2
       have hbel := row_below (g := w.heap.size + 1 + 1) t4 (by omega) #[.int .i64 r.1, .int .i64 r.2.1, .int .i64 r.2.2]
       have Hfn := Lib.hid hfn; clear hfn
       have Hbel := Lib.hid hbel; clear hbel
       clear d4 t4
       go_wp2_with ((with_reducible show wpList _ _ _ (Oper.mk none _ _ _ _ _ :: _) _ _); refine wpList_storeG 24 (.tmp 4) (.tmp 24) _ #[.int .i64 r.1, .int .i64 r.2.1, .int .i64 r.2.2] rfl rfl rfl rfl k2 (by kernel_rfl) rfl (by simp [Value.oneCell']) rfl ?_)
       refine bodyPost_ret (results_vec_tmp rfl _ _ _ (w.heap.size + 1 + 1) 24 _ rfl Hfn.out Tryd.underlying24 (by kernel_rfl)) rfl ?_
       exact ⟨by rw [Hap.out]; rfl, Hbel.out⟩)
end Go.Proofs.YtldccpmnboebmaaDoor
