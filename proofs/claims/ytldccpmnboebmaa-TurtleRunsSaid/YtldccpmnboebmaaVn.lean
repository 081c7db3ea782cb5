/-
  Layer 16: the walk of the reference's Within.
-/
import Derived.Test.YtldccpmnboebmaaVm
namespace Go.Proofs.Ytldccpmnboebmaa
open Go.RowKit Go.Sort
set_option linter.unusedVariables false

theorem alloc_fr : FltRun Try.prog [⟨8, 8, 27, #[.int .u8 0, .int .i64 0, .int .i64 0, .int .i64 0]⟩] := by
  intro x hx ev o ho w
  have hx' : x.ty = 27 ∧ x.cs = #[.int .u8 0, .int .i64 0, .int .i64 0, .int .i64 0] := by
    simp at hx
    subst hx
    exact ⟨rfl, rfl⟩
  obtain ⟨h1, h2⟩ := hx'
  rw [h1] at ho ⊢
  rw [h2]
  obtain ⟨dst, op, tt, ps, af, gd⟩ := o
  simp only at ho
  subst ho
  show (execOp ev _).run Try.prog w = _
  kernel_rfl
theorem turned_named (s t : Nat) (hs : s < 24) (ht : t < 24) : turnedF (compT s t) = (namedF (compT s t) : Int) := by
  have h := compT_named ⟨s, hs⟩ ⟨t, ht⟩
  simp only at h
  unfold turnedF namedF
  cases h1 : turnOf (compT s t) with
  | none => rw [h1] at h; cases h
  | some n => rfl

set_option maxRecDepth 100000 in
set_option maxHeartbeats 8000000 in
theorem rWithinG_calls (s t : Nat) (hs : s < 24) (ht : t < 24) (a b : V3) (w : World) (hck : checkFr ((s : Int), a) = 0) (hcg : checkFr ((t : Int), b) = 0) : Calls Try.prog 27 #[.agg #[.int .u8 (s : Int), .int .i64 a.1, .int .i64 a.2.1, .int .i64 a.2.2], .agg #[.int .u8 (t : Int), .int .i64 b.1, .int .i64 b.2.1, .int .i64 b.2.2]] w (FrErr (withinF ((s : Int), a) ((t : Int), b)) w) := by
  have ha := in_small (checkFr_ok hck).2
  have hb := in_small (checkFr_ok hcg).2
  simp only at ha hb
  have hap : withinF ((s : Int), a) ((t : Int), b) = if checkFr (composeF ((s : Int), a) ((t : Int), b)) = 0 then (composeF ((s : Int), a) ((t : Int), b), 0) else ((0, 0, 0, 0), 16) := by unfold withinF; rw [if_pos hck, if_pos hcg]
  have hr : composeF ((s : Int), a) ((t : Int), b) = ((namedF (compT s t) : Int), imageF ((t : Int), b) a) := by unfold composeF; simp
  have htn := turned_named s t hs ht
  have hlt := namedF_lt (compT s t)
  have hcm : compT s t = (sumV (axT t) (axT s).1, sumV (axT t) (axT s).2.1, sumV (axT t) (axT s).2.2) := rfl
  have hu := axT_unit ⟨s, hs⟩
  have hv := axT_unit ⟨t, ht⟩
  simp only at hu hv
  have xa := fun W => refImages_calls s hs W
  have xb := fun W => refImages_calls t ht W
  obtain ⟨M, hM⟩ : ∃ m, axT s = m := ⟨_, rfl⟩
  obtain ⟨N, hN⟩ : ∃ m, axT t = m := ⟨_, rfl⟩
  rw [hM] at hcm hu xa
  rw [hN] at hcm hv xb
  obtain ⟨u1, u2, u3⟩ := unitM_at hu
  have y1 := fun W => rSum_calls N M.1 W hv (unit_small u1)
  have y2 := fun W => rSum_calls N M.2.1 W hv (unit_small u2)
  have y3 := fun W => rSum_calls N M.2.2 W hv (unit_small u3)
  obtain ⟨c1, hc1⟩ : ∃ c, sumV N M.1 = c := ⟨_, rfl⟩
  obtain ⟨c2, hc2⟩ : ∃ c, sumV N M.2.1 = c := ⟨_, rfl⟩
  obtain ⟨c3, hc3⟩ : ∃ c, sumV N M.2.2 = c := ⟨_, rfl⟩
  rw [hc1] at hcm y1
  rw [hc2] at hcm y2
  rw [hc3] at hcm y3
  rw [hcm] at hr htn hlt
  have nx := fun W => rTurned_calls (c1, c2, c3) W
  simp only at nx
  rw [htn] at nx
  have im := fun W => rImage_calls t ht b a W hb ha
  obtain ⟨r1, hr1⟩ : ∃ x : Nat, namedF (c1, c2, c3) = x := ⟨_, rfl⟩
  obtain ⟨r2, hr2⟩ : ∃ x, imageF ((t : Int), b) a = x := ⟨_, rfl⟩
  rw [hr1] at hr nx hlt
  rw [hr2] at hr im
  rw [hr] at hap
  have hj := fun W => rFCheck_calls ((r1 : Int), r2) W
  simp only at hj
  have hwr : IntKind.u8.wrap (r1 : Int) = (r1 : Int) := IntWalk.u8_in _ (by omega)
  have hws : IntKind.i64.wrap (s : Int) = (s : Int) := IntWalk.i64_in _ (by omega)
  have hwt : IntKind.i64.wrap (t : Int) = (t : Int) := IntWalk.i64_in _ (by omega)
  have hc := fun W => rFCheck_calls ((s : Int), a) W
  have hd := fun W => rFCheck_calls ((t : Int), b) W
  rw [hck] at hc
  rw [hcg] at hd
  simp only at hc hd
  obtain ⟨W, hW⟩ : ∃ W, W = ((w.alloc (.cells #[.int .u8 (s : Int), .int .i64 a.1, .int .i64 a.2.1, .int .i64 a.2.2] 27)).alloc (.cells #[.int .u8 (t : Int), .int .i64 b.1, .int .i64 b.2.1, .int .i64 b.2.2] 27)).alloc (.cells #[.int .u8 0, .int .i64 0, .int .i64 0, .int .i64 0] 27) := ⟨_, rfl⟩
  have b0 : Blk W w.heap.size 27 #[.int .u8 (s : Int), .int .i64 a.1, .int .i64 a.2.1, .int .i64 a.2.2] := by rw [hW]; exact ((Blk.new w _ _).alloc _).alloc _
  have b1 : Blk W (w.heap.size + 1) 27 #[.int .u8 (t : Int), .int .i64 b.1, .int .i64 b.2.1, .int .i64 b.2.2] := by
    rw [hW]
    have := (Blk.new (w.alloc (.cells #[.int .u8 (s : Int), .int .i64 a.1, .int .i64 a.2.1, .int .i64 a.2.2] 27)) 27 #[.int .u8 (t : Int), .int .i64 b.1, .int .i64 b.2.1, .int .i64 b.2.2]).alloc (.cells #[.int .u8 0, .int .i64 0, .int .i64 0, .int .i64 0] 27)
    simpa using this
  have b2 : Blk W (w.heap.size + 1 + 1) 27 #[.int .u8 0, .int .i64 0, .int .i64 0, .int .i64 0] := by
    rw [hW]
    have := Blk.new ((w.alloc (.cells #[.int .u8 (s : Int), .int .i64 a.1, .int .i64 a.2.1, .int .i64 a.2.2] 27)).alloc (.cells #[.int .u8 (t : Int), .int .i64 b.1, .int .i64 b.2.1, .int .i64 b.2.2] 27)) 27 #[.int .u8 0, .int .i64 0, .int .i64 0, .int .i64 0]
    simpa using this
  have tW : RowKit.Below w.heap.size w W := by rw [hW]; exact al3
  have zW : W.heap.size = w.heap.size + 3 := by rw [hW]; simp
  have B0 := Lib.hid b0; clear b0
  have B1 := Lib.hid b1; clear b1
  have B2 := Lib.hid b2; clear b2
  have TW := Lib.hid tW; clear tW
  have Hap := Lib.hid hap; clear hap
  have Hr := Lib.hid hr; clear hr
  have Hcm := Lib.hid hcm; clear hcm
  have HM := Lib.hid hM; clear hM
  have HN := Lib.hid hN; clear hN
  have Hc1 := Lib.hid hc1; clear hc1
  have Hc2 := Lib.hid hc2; clear hc2
  have Hc3 := Lib.hid hc3; clear hc3
  have Hr1 := Lib.hid hr1; clear hr1
  have Hr2 := Lib.hid hr2; clear hr2
  have Xa := Lib.hid xa; clear xa
  have Xb := Lib.hid xb; clear xb
  have Y1 := Lib.hid y1; clear y1
  have Y2 := Lib.hid y2; clear y2
  have Y3 := Lib.hid y3; clear y3
  have Nx := Lib.hid nx; clear nx
  have Im := Lib.hid im; clear im
  have Hu := Lib.hid hu; clear hu
  have Hv := Lib.hid hv; clear hv
  have U1 := Lib.hid u1; clear u1
  have U2 := Lib.hid u2; clear u2
  have U3 := Lib.hid u3; clear u3
  have Ha := Lib.hid ha; clear ha
  have Hb := Lib.hid hb; clear hb
  have Hc := Lib.hid hc; clear hc
  have Hd := Lib.hid hd; clear hd
  have Hj := Lib.hid hj; clear hj
  have Htn := Lib.hid htn; clear htn
  have Hck := Lib.hid hck; clear hck
  have Hcg := Lib.hid hcg; clear hcg
  have x0 := B0.out.cell 0
  have x1 := B0.out.cell 1
  have x2 := B0.out.cell 2
  have x3 := B0.out.cell 3
  go_enter Try.func27, Try.ntmps27
  go_wp2_with fail
  (try rw [← hW])
  refine (Hc.out _).mono ?_
  rintro e w1 ⟨rfl, d1⟩
  have k2 := B2.out.same (d1.block _ (by omega))
  have k1 := B1.out.same (d1.block _ (by omega))
  have k0 := B0.out.same (d1.block _ (by omega))
  have t1 := TW.out.trans (d1.mono TW.out.size)
  have z1 := d1.size
  clear x0 x1 x2 x3
  have x0 := k1.cell 0
  have x1 := k1.cell 1
  have x2 := k1.cell 2
  have x3 := k1.cell 3
  have j0 := Lib.hid k0
  have j1 := Lib.hid k1
  have j2 := Lib.hid k2
  have jt := Lib.hid t1
  clear k0 k1 k2 t1
  go_wp2_with fail
  refine (Hd.out _).mono ?_
  rintro e w2 ⟨rfl, d2⟩
  have k2 := j2.out.same (d2.block _ (by omega))
  have k1 := j1.out.same (d2.block _ (by omega))
  have k0 := j0.out.same (d2.block _ (by omega))
  have t2 := jt.out.trans (d2.mono jt.out.size)
  have z2 := d2.size
  clear x0 x1 x2 x3
  have x0 := k0.cell 0
  have x1 := k0.cell 1
  have x2 := k0.cell 2
  have x3 := k0.cell 3
  have j0 := Lib.hid k0
  have j1 := Lib.hid k1
  have j2 := Lib.hid k2
  have jt := Lib.hid t2
  clear k0 k1 k2 t2
  go_wp2_with fail
  refine (Xa.out _).mono ?_
  rintro e w3 ⟨rfl, d3⟩
  have k2 := j2.out.same (d3.block _ (by omega))
  have k1 := j1.out.same (d3.block _ (by omega))
  have k0 := j0.out.same (d3.block _ (by omega))
  have t3 := jt.out.trans (d3.mono jt.out.size)
  have z3 := d3.size
  have l5 := Blk.new w3 89 #[.int .i64 M.1.1, .int .i64 M.1.2.1, .int .i64 M.1.2.2, .int .i64 M.2.1.1, .int .i64 M.2.1.2.1, .int .i64 M.2.1.2.2, .int .i64 M.2.2.1, .int .i64 M.2.2.2.1, .int .i64 M.2.2.2.2]
  have l0 := k0.alloc (.cells #[.int .i64 M.1.1, .int .i64 M.1.2.1, .int .i64 M.1.2.2, .int .i64 M.2.1.1, .int .i64 M.2.1.2.1, .int .i64 M.2.1.2.2, .int .i64 M.2.2.1, .int .i64 M.2.2.2.1, .int .i64 M.2.2.2.2] 89)
  have l1 := k1.alloc (.cells #[.int .i64 M.1.1, .int .i64 M.1.2.1, .int .i64 M.1.2.2, .int .i64 M.2.1.1, .int .i64 M.2.1.2.1, .int .i64 M.2.1.2.2, .int .i64 M.2.2.1, .int .i64 M.2.2.2.1, .int .i64 M.2.2.2.2] 89)
  have l2 := k2.alloc (.cells #[.int .i64 M.1.1, .int .i64 M.1.2.1, .int .i64 M.1.2.2, .int .i64 M.2.1.1, .int .i64 M.2.1.2.1, .int .i64 M.2.1.2.2, .int .i64 M.2.2.1, .int .i64 M.2.2.2.1, .int .i64 M.2.2.2.2] 89)
  have lt := t3.alloc t3.size (.cells #[.int .i64 M.1.1, .int .i64 M.1.2.1, .int .i64 M.1.2.2, .int .i64 M.2.1.1, .int .i64 M.2.1.2.1, .int .i64 M.2.1.2.2, .int .i64 M.2.2.1, .int .i64 M.2.2.2.1, .int .i64 M.2.2.2.2] 89)
  obtain ⟨w4, hw4⟩ : ∃ W, W = w3.alloc (.cells #[.int .i64 M.1.1, .int .i64 M.1.2.1, .int .i64 M.1.2.2, .int .i64 M.2.1.1, .int .i64 M.2.1.2.1, .int .i64 M.2.1.2.2, .int .i64 M.2.2.1, .int .i64 M.2.2.2.1, .int .i64 M.2.2.2.2] 89) := ⟨_, rfl⟩
  obtain ⟨g5, hg5⟩ : ∃ g, w3.heap.size = g := ⟨_, rfl⟩
  rw [← hw4] at l0 l1 l2 l5 lt
  rw [hg5] at l5
  have z5 : w.heap.size + 3 ≤ g5 := by omega
  have hm5 : Blk w4 g5 89 (matC (stepX M c1 c2 c3 0)) := l5
  have L0 := Lib.hid l0; clear l0
  have L1 := Lib.hid l1; clear l1
  have L2 := Lib.hid l2; clear l2
  have Lt := Lib.hid lt; clear lt
  have Hm5 := Lib.hid hm5; clear hm5
  clear k0 k1 k2 t3 d1 d2 d3 x0 x1 x2 x3 l5
  go_wp2_with fail
  rw [← hw4]
  (try rw [hg5])
  have Hw4 := Lib.hid hw4; clear hw4
  go_loopw [7] (fun i wr => ∃ (k : Nat), i = .int .i64 k ∧ k ≤ 3 ∧ Hid (RowKit.Below w.heap.size w wr) ∧ Hid (Blk wr w.heap.size 27 #[.int .u8 (s : Int), .int .i64 a.1, .int .i64 a.2.1, .int .i64 a.2.2]) ∧ Hid (Blk wr (w.heap.size + 1) 27 #[.int .u8 (t : Int), .int .i64 b.1, .int .i64 b.2.1, .int .i64 b.2.2]) ∧ Hid (Blk wr (w.heap.size + 1 + 1) 27 #[.int .u8 0, .int .i64 0, .int .i64 0, .int .i64 0]) ∧ Hid (Blk wr g5 89 (matC (stepX M c1 c2 c3 k)))) (fun i _ => 3 - (intOf i).toNat)
  case atStart => exact ⟨0, rfl, by omega, Lt, L0, L1, L2, Hm5⟩
  case round =>
    obtain ⟨k, rfl, hk, hb0, q0, q1, q2, q5⟩ := hrel
    obtain ⟨wo, rfl⟩ : ∃ wo : World, wo = wr := ⟨_, rfl⟩
    by_cases hlt3 : k < 3
    case pos =>
      rcases (show k = 0 ∨ k = 1 ∨ k = 2 from by omega) with rfl | rfl | rfl
      · have hq5 : Blk wo g5 89 #[.int .i64 M.1.1, .int .i64 M.1.2.1, .int .i64 M.1.2.2, .int .i64 M.2.1.1, .int .i64 M.2.1.2.1, .int .i64 M.2.1.2.2, .int .i64 M.2.2.1, .int .i64 M.2.2.2.1, .int .i64 M.2.2.2.2] := q5.out
        have y5 := q5.out.lt
        have d := q1.out.cell 0
        have n0' := cell_regrown d
        clear d
        have d := hq5.cell 0
        have v0' := cell_regrown d
        clear d
        have d := hq5.cell 1
        have v1' := cell_regrown d
        clear d
        have d := hq5.cell 2
        have v2' := cell_regrown d
        clear d
        have si : ∀ q os, Calls Try.prog 49 #[.int .i64 (t : Int)] (grow (redrawn wo q) os) fun e w'' => e = .returned (.agg #[.int .i64 N.1.1, .int .i64 N.1.2.1, .int .i64 N.1.2.2, .int .i64 N.2.1.1, .int .i64 N.2.1.2.1, .int .i64 N.2.1.2.2, .int .i64 N.2.2.1, .int .i64 N.2.2.2.1, .int .i64 N.2.2.2.2]) ∧ ∃ p : Regrown, w'' = grow (redrawn wo p.d) p.os := fun q os => Calls.regrown_of (Xb.out _)
        have sc : ∀ q os, Calls Try.prog 48 #[.agg #[.int .i64 N.1.1, .int .i64 N.1.2.1, .int .i64 N.1.2.2, .int .i64 N.2.1.1, .int .i64 N.2.1.2.1, .int .i64 N.2.1.2.2, .int .i64 N.2.2.1, .int .i64 N.2.2.2.1, .int .i64 N.2.2.2.2], .agg #[.int .i64 M.1.1, .int .i64 M.1.2.1, .int .i64 M.1.2.2]] (grow (redrawn wo q) os) fun e w'' => e = .returned (.agg #[.int .i64 c1.1, .int .i64 c1.2.1, .int .i64 c1.2.2]) ∧ ∃ p : Regrown, w'' = grow (redrawn wo p.d) p.os := fun q os => Calls.regrown_of (Y1.out _)
        have Sc := Lib.hid sc; clear sc
        have Si := Lib.hid si; clear si
        have Hq5 := Lib.hid hq5; clear hq5
        go_upto_region 9 with fail
        refine wp_region_store 10 (by kernel_rfl) rfl rfl rfl (by kernel_rfl) (by kernel_rfl) (by kernel_rfl) ?_
        simp only [List.take_succ_cons, List.take_zero, List.cons_append, List.nil_append, nopT]
        iterate 5 (go_big_quiet_step (exact (Si.out _ _).mono fun e w'' h => h))
        iterate 5 (go_big_quiet_step (exact (Sc.out _ _).mono fun e w'' h => h))
        refine wpQuiet_nil ?_
        rintro w' ⟨⟨dq, osq⟩, rfl⟩
        have hbr := below_regrown wo dq osq
        generalize grow (redrawn wo dq) osq = w5 at hbr ⊢
        have r5 := Hq5.out.same (hbr.block _ y5)
        refine wp_storeAtG 25 (.tmp 38) (.tmp 37) 0 _ #[.int .i64 c1.1, .int .i64 c1.2.1, .int .i64 c1.2.2] #[.int .i64 c1.1, .int .i64 c1.2.1, .int .i64 c1.2.2, .int .i64 M.2.1.1, .int .i64 M.2.1.2.1, .int .i64 M.2.1.2.2, .int .i64 M.2.2.1, .int .i64 M.2.2.2.1, .int .i64 M.2.2.2.2] rfl rfl rfl r5 (by kernel_rfl) (by simp) (by simp [Value.oneCell']) rfl rfl ?_
        have s0 := (q0.out.same (hbr.block _ q0.out.lt)).same (setRow_other w5 g5 w.heap.size #[.int .i64 c1.1, .int .i64 c1.2.1, .int .i64 c1.2.2, .int .i64 M.2.1.1, .int .i64 M.2.1.2.1, .int .i64 M.2.1.2.2, .int .i64 M.2.2.1, .int .i64 M.2.2.2.1, .int .i64 M.2.2.2.2] (by omega))
        have s1 := (q1.out.same (hbr.block _ q1.out.lt)).same (setRow_other w5 g5 (w.heap.size + 1) #[.int .i64 c1.1, .int .i64 c1.2.1, .int .i64 c1.2.2, .int .i64 M.2.1.1, .int .i64 M.2.1.2.1, .int .i64 M.2.1.2.2, .int .i64 M.2.2.1, .int .i64 M.2.2.2.1, .int .i64 M.2.2.2.2] (by omega))
        have s2 := (q2.out.same (hbr.block _ q2.out.lt)).same (setRow_other w5 g5 (w.heap.size + 1 + 1) #[.int .i64 c1.1, .int .i64 c1.2.1, .int .i64 c1.2.2, .int .i64 M.2.1.1, .int .i64 M.2.1.2.1, .int .i64 M.2.1.2.2, .int .i64 M.2.2.1, .int .i64 M.2.2.2.1, .int .i64 M.2.2.2.2] (by omega))
        have s5 : Blk (w5.setRow g5 #[.int .i64 c1.1, .int .i64 c1.2.1, .int .i64 c1.2.2, .int .i64 M.2.1.1, .int .i64 M.2.1.2.1, .int .i64 M.2.1.2.2, .int .i64 M.2.2.1, .int .i64 M.2.2.2.1, .int .i64 M.2.2.2.2]) g5 89 (matC (stepX M c1 c2 c3 (0 + 1))) := blk_row r5
        have st := row_below (g := g5) (hb0.out.trans (hbr.mono hb0.out.size)) (by omega) #[.int .i64 c1.1, .int .i64 c1.2.1, .int .i64 c1.2.2, .int .i64 M.2.1.1, .int .i64 M.2.1.2.1, .int .i64 M.2.1.2.2, .int .i64 M.2.2.1, .int .i64 M.2.2.2.1, .int .i64 M.2.2.2.2]
        generalize w5.setRow g5 #[.int .i64 c1.1, .int .i64 c1.2.1, .int .i64 c1.2.2, .int .i64 M.2.1.1, .int .i64 M.2.1.2.1, .int .i64 M.2.1.2.2, .int .i64 M.2.2.1, .int .i64 M.2.2.2.1, .int .i64 M.2.2.2.2] = w7 at s0 s1 s2 s5 st ⊢
        have S0 := Lib.hid s0; clear s0
        have S1 := Lib.hid s1; clear s1
        have S2 := Lib.hid s2; clear s2
        have S5 := Lib.hid s5; clear s5
        have St := Lib.hid st; clear st
        clear n0' v0' v1' v2'
        go_wp2
        go_roundw
        case rel => exact ⟨0 + 1, by go_num, by omega, St, S0, S1, S2, S5⟩
        case measure => simp [intOf]
      · have hq5 : Blk wo g5 89 #[.int .i64 c1.1, .int .i64 c1.2.1, .int .i64 c1.2.2, .int .i64 M.2.1.1, .int .i64 M.2.1.2.1, .int .i64 M.2.1.2.2, .int .i64 M.2.2.1, .int .i64 M.2.2.2.1, .int .i64 M.2.2.2.2] := q5.out
        have y5 := q5.out.lt
        have d := q1.out.cell 0
        have n0' := cell_regrown d
        clear d
        have d := hq5.cell 3
        have v0' := cell_regrown d
        clear d
        have d := hq5.cell 4
        have v1' := cell_regrown d
        clear d
        have d := hq5.cell 5
        have v2' := cell_regrown d
        clear d
        have si : ∀ q os, Calls Try.prog 49 #[.int .i64 (t : Int)] (grow (redrawn wo q) os) fun e w'' => e = .returned (.agg #[.int .i64 N.1.1, .int .i64 N.1.2.1, .int .i64 N.1.2.2, .int .i64 N.2.1.1, .int .i64 N.2.1.2.1, .int .i64 N.2.1.2.2, .int .i64 N.2.2.1, .int .i64 N.2.2.2.1, .int .i64 N.2.2.2.2]) ∧ ∃ p : Regrown, w'' = grow (redrawn wo p.d) p.os := fun q os => Calls.regrown_of (Xb.out _)
        have sc : ∀ q os, Calls Try.prog 48 #[.agg #[.int .i64 N.1.1, .int .i64 N.1.2.1, .int .i64 N.1.2.2, .int .i64 N.2.1.1, .int .i64 N.2.1.2.1, .int .i64 N.2.1.2.2, .int .i64 N.2.2.1, .int .i64 N.2.2.2.1, .int .i64 N.2.2.2.2], .agg #[.int .i64 M.2.1.1, .int .i64 M.2.1.2.1, .int .i64 M.2.1.2.2]] (grow (redrawn wo q) os) fun e w'' => e = .returned (.agg #[.int .i64 c2.1, .int .i64 c2.2.1, .int .i64 c2.2.2]) ∧ ∃ p : Regrown, w'' = grow (redrawn wo p.d) p.os := fun q os => Calls.regrown_of (Y2.out _)
        have Sc := Lib.hid sc; clear sc
        have Si := Lib.hid si; clear si
        have Hq5 := Lib.hid hq5; clear hq5
        go_upto_region 9 with fail
        refine wp_region_store 10 (by kernel_rfl) rfl rfl rfl (by kernel_rfl) (by kernel_rfl) (by kernel_rfl) ?_
        simp only [List.take_succ_cons, List.take_zero, List.cons_append, List.nil_append, nopT]
        iterate 5 (go_big_quiet_step (exact (Si.out _ _).mono fun e w'' h => h))
        iterate 5 (go_big_quiet_step (exact (Sc.out _ _).mono fun e w'' h => h))
        refine wpQuiet_nil ?_
        rintro w' ⟨⟨dq, osq⟩, rfl⟩
        have hbr := below_regrown wo dq osq
        generalize grow (redrawn wo dq) osq = w5 at hbr ⊢
        have r5 := Hq5.out.same (hbr.block _ y5)
        refine wp_storeAtG 25 (.tmp 38) (.tmp 37) 3 _ #[.int .i64 c2.1, .int .i64 c2.2.1, .int .i64 c2.2.2] #[.int .i64 c1.1, .int .i64 c1.2.1, .int .i64 c1.2.2, .int .i64 c2.1, .int .i64 c2.2.1, .int .i64 c2.2.2, .int .i64 M.2.2.1, .int .i64 M.2.2.2.1, .int .i64 M.2.2.2.2] rfl rfl rfl r5 (by kernel_rfl) (by simp) (by simp [Value.oneCell']) rfl rfl ?_
        have s0 := (q0.out.same (hbr.block _ q0.out.lt)).same (setRow_other w5 g5 w.heap.size #[.int .i64 c1.1, .int .i64 c1.2.1, .int .i64 c1.2.2, .int .i64 c2.1, .int .i64 c2.2.1, .int .i64 c2.2.2, .int .i64 M.2.2.1, .int .i64 M.2.2.2.1, .int .i64 M.2.2.2.2] (by omega))
        have s1 := (q1.out.same (hbr.block _ q1.out.lt)).same (setRow_other w5 g5 (w.heap.size + 1) #[.int .i64 c1.1, .int .i64 c1.2.1, .int .i64 c1.2.2, .int .i64 c2.1, .int .i64 c2.2.1, .int .i64 c2.2.2, .int .i64 M.2.2.1, .int .i64 M.2.2.2.1, .int .i64 M.2.2.2.2] (by omega))
        have s2 := (q2.out.same (hbr.block _ q2.out.lt)).same (setRow_other w5 g5 (w.heap.size + 1 + 1) #[.int .i64 c1.1, .int .i64 c1.2.1, .int .i64 c1.2.2, .int .i64 c2.1, .int .i64 c2.2.1, .int .i64 c2.2.2, .int .i64 M.2.2.1, .int .i64 M.2.2.2.1, .int .i64 M.2.2.2.2] (by omega))
        have s5 : Blk (w5.setRow g5 #[.int .i64 c1.1, .int .i64 c1.2.1, .int .i64 c1.2.2, .int .i64 c2.1, .int .i64 c2.2.1, .int .i64 c2.2.2, .int .i64 M.2.2.1, .int .i64 M.2.2.2.1, .int .i64 M.2.2.2.2]) g5 89 (matC (stepX M c1 c2 c3 (1 + 1))) := blk_row r5
        have st := row_below (g := g5) (hb0.out.trans (hbr.mono hb0.out.size)) (by omega) #[.int .i64 c1.1, .int .i64 c1.2.1, .int .i64 c1.2.2, .int .i64 c2.1, .int .i64 c2.2.1, .int .i64 c2.2.2, .int .i64 M.2.2.1, .int .i64 M.2.2.2.1, .int .i64 M.2.2.2.2]
        generalize w5.setRow g5 #[.int .i64 c1.1, .int .i64 c1.2.1, .int .i64 c1.2.2, .int .i64 c2.1, .int .i64 c2.2.1, .int .i64 c2.2.2, .int .i64 M.2.2.1, .int .i64 M.2.2.2.1, .int .i64 M.2.2.2.2] = w7 at s0 s1 s2 s5 st ⊢
        have S0 := Lib.hid s0; clear s0
        have S1 := Lib.hid s1; clear s1
        have S2 := Lib.hid s2; clear s2
        have S5 := Lib.hid s5; clear s5
        have St := Lib.hid st; clear st
        clear n0' v0' v1' v2'
        go_wp2
        go_roundw
        case rel => exact ⟨1 + 1, by go_num, by omega, St, S0, S1, S2, S5⟩
        case measure => simp [intOf]
      · have hq5 : Blk wo g5 89 #[.int .i64 c1.1, .int .i64 c1.2.1, .int .i64 c1.2.2, .int .i64 c2.1, .int .i64 c2.2.1, .int .i64 c2.2.2, .int .i64 M.2.2.1, .int .i64 M.2.2.2.1, .int .i64 M.2.2.2.2] := q5.out
        have y5 := q5.out.lt
        have d := q1.out.cell 0
        have n0' := cell_regrown d
        clear d
        have d := hq5.cell 6
        have v0' := cell_regrown d
        clear d
        have d := hq5.cell 7
        have v1' := cell_regrown d
        clear d
        have d := hq5.cell 8
        have v2' := cell_regrown d
        clear d
        have si : ∀ q os, Calls Try.prog 49 #[.int .i64 (t : Int)] (grow (redrawn wo q) os) fun e w'' => e = .returned (.agg #[.int .i64 N.1.1, .int .i64 N.1.2.1, .int .i64 N.1.2.2, .int .i64 N.2.1.1, .int .i64 N.2.1.2.1, .int .i64 N.2.1.2.2, .int .i64 N.2.2.1, .int .i64 N.2.2.2.1, .int .i64 N.2.2.2.2]) ∧ ∃ p : Regrown, w'' = grow (redrawn wo p.d) p.os := fun q os => Calls.regrown_of (Xb.out _)
        have sc : ∀ q os, Calls Try.prog 48 #[.agg #[.int .i64 N.1.1, .int .i64 N.1.2.1, .int .i64 N.1.2.2, .int .i64 N.2.1.1, .int .i64 N.2.1.2.1, .int .i64 N.2.1.2.2, .int .i64 N.2.2.1, .int .i64 N.2.2.2.1, .int .i64 N.2.2.2.2], .agg #[.int .i64 M.2.2.1, .int .i64 M.2.2.2.1, .int .i64 M.2.2.2.2]] (grow (redrawn wo q) os) fun e w'' => e = .returned (.agg #[.int .i64 c3.1, .int .i64 c3.2.1, .int .i64 c3.2.2]) ∧ ∃ p : Regrown, w'' = grow (redrawn wo p.d) p.os := fun q os => Calls.regrown_of (Y3.out _)
        have Sc := Lib.hid sc; clear sc
        have Si := Lib.hid si; clear si
        have Hq5 := Lib.hid hq5; clear hq5
        go_upto_region 9 with fail
        refine wp_region_store 10 (by kernel_rfl) rfl rfl rfl (by kernel_rfl) (by kernel_rfl) (by kernel_rfl) ?_
        simp only [List.take_succ_cons, List.take_zero, List.cons_append, List.nil_append, nopT]
        iterate 5 (go_big_quiet_step (exact (Si.out _ _).mono fun e w'' h => h))
        iterate 5 (go_big_quiet_step (exact (Sc.out _ _).mono fun e w'' h => h))
        refine wpQuiet_nil ?_
        rintro w' ⟨⟨dq, osq⟩, rfl⟩
        have hbr := below_regrown wo dq osq
        generalize grow (redrawn wo dq) osq = w5 at hbr ⊢
        have r5 := Hq5.out.same (hbr.block _ y5)
        refine wp_storeAtG 25 (.tmp 38) (.tmp 37) 6 _ #[.int .i64 c3.1, .int .i64 c3.2.1, .int .i64 c3.2.2] #[.int .i64 c1.1, .int .i64 c1.2.1, .int .i64 c1.2.2, .int .i64 c2.1, .int .i64 c2.2.1, .int .i64 c2.2.2, .int .i64 c3.1, .int .i64 c3.2.1, .int .i64 c3.2.2] rfl rfl rfl r5 (by kernel_rfl) (by simp) (by simp [Value.oneCell']) rfl rfl ?_
        have s0 := (q0.out.same (hbr.block _ q0.out.lt)).same (setRow_other w5 g5 w.heap.size #[.int .i64 c1.1, .int .i64 c1.2.1, .int .i64 c1.2.2, .int .i64 c2.1, .int .i64 c2.2.1, .int .i64 c2.2.2, .int .i64 c3.1, .int .i64 c3.2.1, .int .i64 c3.2.2] (by omega))
        have s1 := (q1.out.same (hbr.block _ q1.out.lt)).same (setRow_other w5 g5 (w.heap.size + 1) #[.int .i64 c1.1, .int .i64 c1.2.1, .int .i64 c1.2.2, .int .i64 c2.1, .int .i64 c2.2.1, .int .i64 c2.2.2, .int .i64 c3.1, .int .i64 c3.2.1, .int .i64 c3.2.2] (by omega))
        have s2 := (q2.out.same (hbr.block _ q2.out.lt)).same (setRow_other w5 g5 (w.heap.size + 1 + 1) #[.int .i64 c1.1, .int .i64 c1.2.1, .int .i64 c1.2.2, .int .i64 c2.1, .int .i64 c2.2.1, .int .i64 c2.2.2, .int .i64 c3.1, .int .i64 c3.2.1, .int .i64 c3.2.2] (by omega))
        have s5 : Blk (w5.setRow g5 #[.int .i64 c1.1, .int .i64 c1.2.1, .int .i64 c1.2.2, .int .i64 c2.1, .int .i64 c2.2.1, .int .i64 c2.2.2, .int .i64 c3.1, .int .i64 c3.2.1, .int .i64 c3.2.2]) g5 89 (matC (stepX M c1 c2 c3 (2 + 1))) := blk_row r5
        have st := row_below (g := g5) (hb0.out.trans (hbr.mono hb0.out.size)) (by omega) #[.int .i64 c1.1, .int .i64 c1.2.1, .int .i64 c1.2.2, .int .i64 c2.1, .int .i64 c2.2.1, .int .i64 c2.2.2, .int .i64 c3.1, .int .i64 c3.2.1, .int .i64 c3.2.2]
        generalize w5.setRow g5 #[.int .i64 c1.1, .int .i64 c1.2.1, .int .i64 c1.2.2, .int .i64 c2.1, .int .i64 c2.2.1, .int .i64 c2.2.2, .int .i64 c3.1, .int .i64 c3.2.1, .int .i64 c3.2.2] = w7 at s0 s1 s2 s5 st ⊢
        have S0 := Lib.hid s0; clear s0
        have S1 := Lib.hid s1; clear s1
        have S2 := Lib.hid s2; clear s2
        have S5 := Lib.hid s5; clear s5
        have St := Lib.hid st; clear st
        clear n0' v0' v1' v2'
        go_wp2
        go_roundw
        case rel => exact ⟨2 + 1, by go_num, by omega, St, S0, S1, S2, S5⟩
        case measure => simp [intOf]
    case neg =>
      obtain rfl : k = 3 := by omega
      have hq5 : Blk wo g5 89 #[.int .i64 c1.1, .int .i64 c1.2.1, .int .i64 c1.2.2, .int .i64 c2.1, .int .i64 c2.2.1, .int .i64 c2.2.2, .int .i64 c3.1, .int .i64 c3.2.1, .int .i64 c3.2.2] := q5.out
      have n0 := hq5.cell 0
      have n1 := hq5.cell 1
      have n2 := hq5.cell 2
      have n3 := hq5.cell 3
      have n4 := hq5.cell 4
      have n5 := hq5.cell 5
      have n6 := hq5.cell 6
      have n7 := hq5.cell 7
      have n8 := hq5.cell 8
      have v0 := q1.out.cell 0
      have v1 := q1.out.cell 1
      have v2 := q1.out.cell 2
      have v3 := q1.out.cell 3
      have x1 := q0.out.cell 1
      have x2 := q0.out.cell 2
      have x3 := q0.out.cell 3
      have y5 := hq5.lt
      have yw := q2.out.lt
      have Hq5 := Lib.hid hq5; clear hq5
      go_upto_region 10 with fail
      refine wp_region_floatE 9 [⟨8, 8, 27, #[.int .u8 0, .int .i64 0, .int .i64 0, .int .i64 0]⟩] (by kernel_rfl) (by kernel_rfl) alloc_fr ?_
      apply Exists.intro
      refine And.intro ?walk ?tail
      case walk =>
        intro W' hW'
        have cn0 := cell_regrown ((cell_keep (hW'.block g5 (by omega))).trans n0)
        have cn1 := cell_regrown ((cell_keep (hW'.block g5 (by omega))).trans n1)
        have cn2 := cell_regrown ((cell_keep (hW'.block g5 (by omega))).trans n2)
        have cn3 := cell_regrown ((cell_keep (hW'.block g5 (by omega))).trans n3)
        have cn4 := cell_regrown ((cell_keep (hW'.block g5 (by omega))).trans n4)
        have cn5 := cell_regrown ((cell_keep (hW'.block g5 (by omega))).trans n5)
        have cn6 := cell_regrown ((cell_keep (hW'.block g5 (by omega))).trans n6)
        have cn7 := cell_regrown ((cell_keep (hW'.block g5 (by omega))).trans n7)
        have cn8 := cell_regrown ((cell_keep (hW'.block g5 (by omega))).trans n8)
        have cv0 := cell_regrown ((cell_keep (hW'.block (w.heap.size + 1) (by omega))).trans v0)
        have cv1 := cell_regrown ((cell_keep (hW'.block (w.heap.size + 1) (by omega))).trans v1)
        have cv2 := cell_regrown ((cell_keep (hW'.block (w.heap.size + 1) (by omega))).trans v2)
        have cv3 := cell_regrown ((cell_keep (hW'.block (w.heap.size + 1) (by omega))).trans v3)
        have cx1 := cell_regrown ((cell_keep (hW'.block w.heap.size (by omega))).trans x1)
        have cx2 := cell_regrown ((cell_keep (hW'.block w.heap.size (by omega))).trans x2)
        have cx3 := cell_regrown ((cell_keep (hW'.block w.heap.size (by omega))).trans x3)
        have sn : ∀ q os, Calls Try.prog 50 #[.agg #[.int .i64 c1.1, .int .i64 c1.2.1, .int .i64 c1.2.2, .int .i64 c2.1, .int .i64 c2.2.1, .int .i64 c2.2.2, .int .i64 c3.1, .int .i64 c3.2.1, .int .i64 c3.2.2]] (grow (redrawn W' q) os) fun e w'' => e = .returned (.int .i64 (r1 : Int)) ∧ ∃ p : Regrown, w'' = grow (redrawn W' p.d) p.os := fun q os => Calls.regrown_of (Nx.out _)
        have si : ∀ q os, Calls Try.prog 25 #[.agg #[.int .u8 (t : Int), .int .i64 b.1, .int .i64 b.2.1, .int .i64 b.2.2], .agg #[.int .i64 a.1, .int .i64 a.2.1, .int .i64 a.2.2]] (grow (redrawn W' q) os) fun e w'' => e = .returned (.agg #[.int .i64 r2.1, .int .i64 r2.2.1, .int .i64 r2.2.2]) ∧ ∃ p : Regrown, w'' = grow (redrawn W' p.d) p.os := fun q os => Calls.regrown_of (Im.out _)
        have Sn := Lib.hid sn; clear sn
        have Si := Lib.hid si; clear si
        simp only [virtL, fltO, nopT, List.take_succ_cons, List.take_zero, List.drop_succ_cons, List.drop_zero, List.map_cons, List.map_nil, List.cons_append, List.nil_append]
        iterate 3 (go_big_quiet_step (exact (Sn.out _ _).mono fun e w'' h => h))
        iterate 7 (go_big_quiet_step (exact (Si.out _ _).mono fun e w'' h => h))
        exact wpQuiet_nil rfl
      case tail =>
        intro p w' hbw hB hD
        have hB8 := hB _ (List.mem_cons_self)
        simp only at hB8
        simp only [putsF, ptrV, List.drop_succ_cons, List.drop_zero]
        obtain ⟨g8, hg8⟩ : ∃ g, p 8 = g := ⟨_, rfl⟩
        rw [hg8] at hB8 ⊢
        clear hB hD
        obtain ⟨k8, z8⟩ := hB8
        have f2 := q2.out.same (hbw.block _ yw)
        have tw := hb0.out.trans (hbw.mono hb0.out.size)
        simp only [Act.put]
        refine wpList_storeG 27 (.tmp 8) (.tmp 46) _ #[.int .u8 (r1 : Int), .int .i64 r2.1, .int .i64 r2.2.1, .int .i64 r2.2.2] rfl rfl rfl rfl k8 (by kernel_rfl) rfl (by simp [Value.oneCell']) rfl ?_
        have m8 := blk_row (cs := #[.int .u8 (r1 : Int), .int .i64 r2.1, .int .i64 r2.2.1, .int .i64 r2.2.2]) k8
        have m2 := f2.same (setRow_other w' g8 (w.heap.size + 1 + 1) #[.int .u8 (r1 : Int), .int .i64 r2.1, .int .i64 r2.2.1, .int .i64 r2.2.2] (by omega))
        have mt := row_below (g := g8) tw (by omega) #[.int .u8 (r1 : Int), .int .i64 r2.1, .int .i64 r2.2.1, .int .i64 r2.2.2]
        have z28 : w.heap.size + 1 + 1 < g8 := by omega
        generalize w'.setRow g8 #[.int .u8 (r1 : Int), .int .i64 r2.1, .int .i64 r2.2.1, .int .i64 r2.2.2] = w8 at m8 m2 mt ⊢
        clear f2 tw hbw n0 n1 n2 n3 n4 n5 n6 n7 n8 v0 v1 v2 v3 x1 x2 x3
        have u0 := m8.cell 0
        have u1 := m8.cell 1
        have u2 := m8.cell 2
        have u3 := m8.cell 3
        have M8 := Lib.hid m8; clear m8
        have M2 := Lib.hid m2; clear m2
        have Mt := Lib.hid mt; clear mt
        by_cases hcr : checkFr ((r1 : Int), r2) = 0
        case neg =>
          have hap2 := Hap.out
          rw [if_neg hcr] at hap2
          have e2 : (checkFr ((r1 : Int), r2) != 0) = true := by simpa using hcr
          have Hap2 := Lib.hid hap2; clear hap2
          have Hcr := Lib.hid hcr; clear hcr
          go_wp2_with fail
          refine (Hj.out _).mono ?_
          rintro e w9 ⟨rfl, d9⟩
          have k2 := M2.out.same (d9.block _ M2.out.lt)
          have t9 := Mt.out.trans (d9.mono Mt.out.size)
          clear u0 u1 u2 u3
          have hfin := blk_row (cs := #[.int .u8 0, .int .i64 0, .int .i64 0, .int .i64 0]) k2
          have hbel := row_below (g := w.heap.size + 1 + 1) t9 (by omega) #[.int .u8 0, .int .i64 0, .int .i64 0, .int .i64 0]
          have Hfin := Lib.hid hfin; clear hfin
          have Hbel := Lib.hid hbel; clear hbel
          clear d9 t9
          go_wp2_with ((with_reducible show wpList _ _ _ (Oper.mk none _ _ _ _ _ :: _) _ _); refine wpList_storeG 27 (.tmp 4) (.tmp 50) _ #[.int .u8 0, .int .i64 0, .int .i64 0, .int .i64 0] rfl rfl rfl rfl k2 (by kernel_rfl) rfl (by simp [Value.oneCell']) rfl ?_)
          refine bodyPost_ret (results_vec_tmp rfl _ _ _ (w.heap.size + 1 + 1) 27 _ rfl Hfin.out Try.underlying27 (by kernel_rfl)) rfl ?_
          exact ⟨by rw [Hap2.out]; rfl, Hbel.out⟩
        case pos =>
          have hap2 := Hap.out
          rw [if_pos hcr] at hap2
          have e2 : (checkFr ((r1 : Int), r2) != 0) = false := by simpa using hcr
          have Hap2 := Lib.hid hap2; clear hap2
          have Hcr := Lib.hid hcr; clear hcr
          go_wp2_with fail
          refine (Hj.out _).mono ?_
          rintro e w9 ⟨rfl, d9⟩
          have k2 := M2.out.same (d9.block _ M2.out.lt)
          have k8 := M8.out.same (d9.block _ M8.out.lt)
          have t9 := Mt.out.trans (d9.mono Mt.out.size)
          clear u0 u1 u2 u3
          have u0 := k8.cell 0
          have u1 := k8.cell 1
          have u2 := k8.cell 2
          have u3 := k8.cell 3
          have hfin := blk_row (cs := #[.int .u8 (r1 : Int), .int .i64 r2.1, .int .i64 r2.2.1, .int .i64 r2.2.2]) k2
          have hbel := row_below (g := w.heap.size + 1 + 1) t9 (by omega) #[.int .u8 (r1 : Int), .int .i64 r2.1, .int .i64 r2.2.1, .int .i64 r2.2.2]
          have Hfin := Lib.hid hfin; clear hfin
          have Hbel := Lib.hid hbel; clear hbel
          clear d9 t9 k8
          go_wp2_with ((with_reducible show wpList _ _ _ (Oper.mk none _ _ _ _ _ :: _) _ _); refine wpList_storeG 27 (.tmp 4) (.tmp 51) _ #[.int .u8 (r1 : Int), .int .i64 r2.1, .int .i64 r2.2.1, .int .i64 r2.2.2] rfl rfl rfl rfl k2 (by kernel_rfl) rfl (by simp [Value.oneCell']) rfl ?_)
          refine bodyPost_ret (results_vec_tmp rfl _ _ _ (w.heap.size + 1 + 1) 27 _ rfl Hfin.out Try.underlying27 (by kernel_rfl)) rfl ?_
          exact ⟨by rw [Hap2.out]; rfl, Hbel.out⟩
set_option maxRecDepth 100000 in
set_option maxHeartbeats 4000000 in
theorem rWithin_calls (f g : Fr) (w : World) (hf0 : 0 ≤ f.1) (hg0 : 0 ≤ g.1) : Calls Try.prog 27 #[.agg #[.int .u8 f.1, .int .i64 f.2.1, .int .i64 f.2.2.1, .int .i64 f.2.2.2], .agg #[.int .u8 g.1, .int .i64 g.2.1, .int .i64 g.2.2.1, .int .i64 g.2.2.2]] w (FrErr (withinF f g) w) := by
  by_cases hck : checkFr f = 0
  case pos =>
    by_cases hcg : checkFr g = 0
    case pos =>
      obtain ⟨s, a⟩ := f
      obtain ⟨t, b⟩ := g
      obtain ⟨hf24, _⟩ := checkFr_ok hck
      obtain ⟨hg24, _⟩ := checkFr_ok hcg
      simp only at hf0 hg0 hf24 hg24
      obtain ⟨m, rfl⟩ : ∃ n : Nat, s = (n : Int) := ⟨s.toNat, by omega⟩
      obtain ⟨n, rfl⟩ : ∃ n : Nat, t = (n : Int) := ⟨t.toNat, by omega⟩
      exact rWithinG_calls m n (by omega) (by omega) a b w hck hcg
    case neg =>
      have hr : withinF f g = ((0, 0, 0, 0), checkFr g) := by unfold withinF; rw [if_pos hck, if_neg hcg]
      have hc := fun W => rFCheck_calls f W
      have hd := fun W => rFCheck_calls g W
      rw [hck] at hc
      have e1 : (checkFr g != 0) = true := by simpa using hcg
      obtain ⟨W, hW⟩ : ∃ W, W = ((w.alloc (.cells #[.int .u8 f.1, .int .i64 f.2.1, .int .i64 f.2.2.1, .int .i64 f.2.2.2] 27)).alloc (.cells #[.int .u8 g.1, .int .i64 g.2.1, .int .i64 g.2.2.1, .int .i64 g.2.2.2] 27)).alloc (.cells #[.int .u8 0, .int .i64 0, .int .i64 0, .int .i64 0] 27) := ⟨_, rfl⟩
      have b0 : Blk W w.heap.size 27 #[.int .u8 f.1, .int .i64 f.2.1, .int .i64 f.2.2.1, .int .i64 f.2.2.2] := by rw [hW]; exact ((Blk.new w _ _).alloc _).alloc _
      have b1 : Blk W (w.heap.size + 1) 27 #[.int .u8 g.1, .int .i64 g.2.1, .int .i64 g.2.2.1, .int .i64 g.2.2.2] := by
        rw [hW]
        have := (Blk.new (w.alloc (.cells #[.int .u8 f.1, .int .i64 f.2.1, .int .i64 f.2.2.1, .int .i64 f.2.2.2] 27)) 27 #[.int .u8 g.1, .int .i64 g.2.1, .int .i64 g.2.2.1, .int .i64 g.2.2.2]).alloc (.cells #[.int .u8 0, .int .i64 0, .int .i64 0, .int .i64 0] 27)
        simpa using this
      have b2 : Blk W (w.heap.size + 1 + 1) 27 #[.int .u8 0, .int .i64 0, .int .i64 0, .int .i64 0] := by
        rw [hW]
        have := Blk.new ((w.alloc (.cells #[.int .u8 f.1, .int .i64 f.2.1, .int .i64 f.2.2.1, .int .i64 f.2.2.2] 27)).alloc (.cells #[.int .u8 g.1, .int .i64 g.2.1, .int .i64 g.2.2.1, .int .i64 g.2.2.2] 27)) 27 #[.int .u8 0, .int .i64 0, .int .i64 0, .int .i64 0]
        simpa using this
      have tW : RowKit.Below w.heap.size w W := by rw [hW]; exact al3
      have zW : W.heap.size = w.heap.size + 3 := by rw [hW]; simp
      have B0 := Lib.hid b0; clear b0
      have B1 := Lib.hid b1; clear b1
      have B2 := Lib.hid b2; clear b2
      have TW := Lib.hid tW; clear tW
      have Hc := Lib.hid hc; clear hc
      have Hd := Lib.hid hd; clear hd
      have Hr := Lib.hid hr; clear hr
      have Hck := Lib.hid hck; clear hck
      have Hcg := Lib.hid hcg; clear hcg
      have x0 := B0.out.cell 0
      have x1 := B0.out.cell 1
      have x2 := B0.out.cell 2
      have x3 := B0.out.cell 3
      go_enter Try.func27, Try.ntmps27
      go_wp2_with fail
      (try rw [← hW])
      refine (Hc.out _).mono ?_
      rintro e w1 ⟨rfl, d1⟩
      have k2 := B2.out.same (d1.block _ (by omega))
      have k1 := B1.out.same (d1.block _ (by omega))
      have k0 := B0.out.same (d1.block _ (by omega))
      have t1 := TW.out.trans (d1.mono TW.out.size)
      have z1 := d1.size
      clear x0 x1 x2 x3
      have x0 := k1.cell 0
      have x1 := k1.cell 1
      have x2 := k1.cell 2
      have x3 := k1.cell 3
      have j0 := Lib.hid k0
      have j1 := Lib.hid k1
      have j2 := Lib.hid k2
      have jt := Lib.hid t1
      clear k0 k1 k2 t1
      go_wp2_with fail
      refine (Hd.out _).mono ?_
      rintro e w2 ⟨rfl, d2⟩
      have k2 := j2.out.same (d2.block _ (by omega))
      have k1 := j1.out.same (d2.block _ (by omega))
      have k0 := j0.out.same (d2.block _ (by omega))
      have t2 := jt.out.trans (d2.mono jt.out.size)
      have z2 := d2.size
      clear x0 x1 x2 x3
      have x0 := k1.cell 0
      have x1 := k1.cell 1
      have x2 := k1.cell 2
      have x3 := k1.cell 3
      have j0 := Lib.hid k0
      have j1 := Lib.hid k1
      have j2 := Lib.hid k2
      have jt := Lib.hid t2
      clear k0 k1 k2 t2
      go_wp2_with fail
      refine (Hd.out _).mono ?_
      rintro e w3 ⟨rfl, d3⟩
      have k2 := j2.out.same (d3.block _ (by omega))
      have k1 := j1.out.same (d3.block _ (by omega))
      have k0 := j0.out.same (d3.block _ (by omega))
      have t3 := jt.out.trans (d3.mono jt.out.size)
      have z3 := d3.size
      have hfin := blk_row (cs := #[.int .u8 0, .int .i64 0, .int .i64 0, .int .i64 0]) k2
      have hbel := row_below (g := w.heap.size + 1 + 1) t3 (by omega) #[.int .u8 0, .int .i64 0, .int .i64 0, .int .i64 0]
      have Hfin := Lib.hid hfin; clear hfin
      have Hbel := Lib.hid hbel; clear hbel
      clear k0 k1 d1 d2 d3 t3 x0 x1 x2 x3
      go_wp2_with ((with_reducible show wpList _ _ _ (Oper.mk none _ _ _ _ _ :: _) _ _); refine wpList_storeG 27 (.tmp 4) (.tmp 18) _ #[.int .u8 0, .int .i64 0, .int .i64 0, .int .i64 0] rfl rfl rfl rfl k2 (by kernel_rfl) rfl (by simp [Value.oneCell']) rfl ?_)
      refine bodyPost_ret (results_vec_tmp rfl _ _ _ (w.heap.size + 1 + 1) 27 _ rfl Hfin.out Try.underlying27 (by kernel_rfl)) rfl ?_
      exact ⟨by rw [Hr.out]; rfl, Hbel.out⟩
  case neg =>
    have hr : withinF f g = ((0, 0, 0, 0), checkFr f) := by unfold withinF; rw [if_neg hck]
    have hc := fun W => rFCheck_calls f W
    have e0 : (checkFr f != 0) = true := by simpa using hck
    obtain ⟨W, hW⟩ : ∃ W, W = ((w.alloc (.cells #[.int .u8 f.1, .int .i64 f.2.1, .int .i64 f.2.2.1, .int .i64 f.2.2.2] 27)).alloc (.cells #[.int .u8 g.1, .int .i64 g.2.1, .int .i64 g.2.2.1, .int .i64 g.2.2.2] 27)).alloc (.cells #[.int .u8 0, .int .i64 0, .int .i64 0, .int .i64 0] 27) := ⟨_, rfl⟩
    have b0 : Blk W w.heap.size 27 #[.int .u8 f.1, .int .i64 f.2.1, .int .i64 f.2.2.1, .int .i64 f.2.2.2] := by rw [hW]; exact ((Blk.new w _ _).alloc _).alloc _
    have b1 : Blk W (w.heap.size + 1) 27 #[.int .u8 g.1, .int .i64 g.2.1, .int .i64 g.2.2.1, .int .i64 g.2.2.2] := by
      rw [hW]
      have := (Blk.new (w.alloc (.cells #[.int .u8 f.1, .int .i64 f.2.1, .int .i64 f.2.2.1, .int .i64 f.2.2.2] 27)) 27 #[.int .u8 g.1, .int .i64 g.2.1, .int .i64 g.2.2.1, .int .i64 g.2.2.2]).alloc (.cells #[.int .u8 0, .int .i64 0, .int .i64 0, .int .i64 0] 27)
      simpa using this
    have b2 : Blk W (w.heap.size + 1 + 1) 27 #[.int .u8 0, .int .i64 0, .int .i64 0, .int .i64 0] := by
      rw [hW]
      have := Blk.new ((w.alloc (.cells #[.int .u8 f.1, .int .i64 f.2.1, .int .i64 f.2.2.1, .int .i64 f.2.2.2] 27)).alloc (.cells #[.int .u8 g.1, .int .i64 g.2.1, .int .i64 g.2.2.1, .int .i64 g.2.2.2] 27)) 27 #[.int .u8 0, .int .i64 0, .int .i64 0, .int .i64 0]
      simpa using this
    have tW : RowKit.Below w.heap.size w W := by rw [hW]; exact al3
    have zW : W.heap.size = w.heap.size + 3 := by rw [hW]; simp
    have B0 := Lib.hid b0; clear b0
    have B1 := Lib.hid b1; clear b1
    have B2 := Lib.hid b2; clear b2
    have TW := Lib.hid tW; clear tW
    have Hc := Lib.hid hc; clear hc
    have Hr := Lib.hid hr; clear hr
    have Hck := Lib.hid hck; clear hck
    have x0 := B0.out.cell 0
    have x1 := B0.out.cell 1
    have x2 := B0.out.cell 2
    have x3 := B0.out.cell 3
    go_enter Try.func27, Try.ntmps27
    go_wp2_with fail
    (try rw [← hW])
    refine (Hc.out _).mono ?_
    rintro e w1 ⟨rfl, d1⟩
    have k2 := B2.out.same (d1.block _ (by omega))
    have k1 := B1.out.same (d1.block _ (by omega))
    have k0 := B0.out.same (d1.block _ (by omega))
    have t1 := TW.out.trans (d1.mono TW.out.size)
    have z1 := d1.size
    clear x0 x1 x2 x3
    have x0 := k0.cell 0
    have x1 := k0.cell 1
    have x2 := k0.cell 2
    have x3 := k0.cell 3
    have j0 := Lib.hid k0
    have j1 := Lib.hid k1
    have j2 := Lib.hid k2
    have jt := Lib.hid t1
    clear k0 k1 k2 t1
    go_wp2_with fail
    refine (Hc.out _).mono ?_
    rintro e w2 ⟨rfl, d2⟩
    have k2 := j2.out.same (d2.block _ (by omega))
    have k1 := j1.out.same (d2.block _ (by omega))
    have k0 := j0.out.same (d2.block _ (by omega))
    have t2 := jt.out.trans (d2.mono jt.out.size)
    have z2 := d2.size
    have hfin := blk_row (cs := #[.int .u8 0, .int .i64 0, .int .i64 0, .int .i64 0]) k2
    have hbel := row_below (g := w.heap.size + 1 + 1) t2 (by omega) #[.int .u8 0, .int .i64 0, .int .i64 0, .int .i64 0]
    have Hfin := Lib.hid hfin; clear hfin
    have Hbel := Lib.hid hbel; clear hbel
    clear k0 k1 d1 d2 t2 x0 x1 x2 x3
    go_wp2_with ((with_reducible show wpList _ _ _ (Oper.mk none _ _ _ _ _ :: _) _ _); refine wpList_storeG 27 (.tmp 4) (.tmp 12) _ #[.int .u8 0, .int .i64 0, .int .i64 0, .int .i64 0] rfl rfl rfl rfl k2 (by kernel_rfl) rfl (by simp [Value.oneCell']) rfl ?_)
    refine bodyPost_ret (results_vec_tmp rfl _ _ _ (w.heap.size + 1 + 1) 27 _ rfl Hfin.out Try.underlying27 (by kernel_rfl)) rfl ?_
    exact ⟨by rw [Hr.out]; rfl, Hbel.out⟩
end Go.Proofs.Ytldccpmnboebmaa
