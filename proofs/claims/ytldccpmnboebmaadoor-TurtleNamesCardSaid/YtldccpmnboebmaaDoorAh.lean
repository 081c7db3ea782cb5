/-
  Layer 17: the walk of a turtle's bend.
-/
import Derived.Test.YtldccpmnboebmaaDoorAg
import Derived.Test.YtldccpmnboebmaaDoorVy
namespace Go.Proofs.YtldccpmnboebmaaDoor
open Go.RowKit Go.Sort
set_option linter.unusedVariables false

set_option maxRecDepth 100000 in
set_option maxHeartbeats 1000000 in
theorem opp_calls (v : V3) (w : World) (hu : unitV v = true) : Calls Tryd.prog 60 #[.agg #[.int .i64 v.1, .int .i64 v.2.1, .int .i64 v.2.2]] w (VecPost (negV v) w) := by
  obtain ⟨a, b, c⟩ := v
  obtain ⟨u1, u2, u3⟩ := unitV_at hu
  have z1 := one3_le u1
  have z2 := one3_le u2
  have z3 := one3_le u3
  simp only at z1 z2 z3
  clear u1 u2 u3
  have Hu := Lib.hid hu; clear hu
  go_enter Tryd.func60, Tryd.ntmps60
  go_wp2
  refine bodyPost_ret (results_cell_row rfl _ _ _ 24 _ (0, 0) _ rfl (new_at (by simp)) Tryd.underlying24 rfl (by kernel_rfl)) rfl ?_
  exact ⟨rfl, al2⟩
theorem bendF_not {b : Trop} {c : Tur} (h : b.2 = 0 ∨ c.2 % b.2 ≠ 0) : bendF b c = c := by unfold bendF; rw [if_pos h]
theorem bendF_yes {b : Trop} {c : Tur} (hok : TurOk c) (hb : 0 ≤ b.1 ∧ b.1 ≤ 5) (h : ¬ b.2 = 0) (h' : c.2 % b.2 = 0) : bendF b c = ((((bendP b.1.toNat c.1.1.toNat : Nat) : Int), c.1.2), c.2) := by
  have := (bend_chk ⟨b.1.toNat, by omega⟩ ⟨_, hok.lt⟩).1
  simp only at this
  unfold bendF
  rw [if_neg (fun e => e.elim h (fun e => e h')), this]
set_option maxRecDepth 100000 in
theorem way_index (d : Nat) (hd : d < 6) (W : World) : (Instr.index 115 (.agg #[.int .i64 1, .int .i64 0, .int .i64 0, .int .i64 (-1), .int .i64 0, .int .i64 0, .int .i64 0, .int .i64 1, .int .i64 0, .int .i64 0, .int .i64 (-1), .int .i64 0, .int .i64 0, .int .i64 0, .int .i64 1, .int .i64 0, .int .i64 0, .int .i64 (-1)]) (.int .u8 (d : Int))).run Tryd.prog W = .ok (.agg #[.int .i64 (dirV d).1, .int .i64 (dirV d).2.1, .int .i64 (dirV d).2.2]) W := by
  rcases (show d = 0 ∨ d = 1 ∨ d = 2 ∨ d = 3 ∨ d = 4 ∨ d = 5 from by omega) with rfl | rfl | rfl | rfl | rfl | rfl <;> kernel_rfl

set_option maxRecDepth 100000 in
set_option maxHeartbeats 8000000 in
theorem tBent_calls (g : Nat) (c : Tur) (b : Trop) (K L M : Value) (w : World) (hok : TurOk c) (hb1 : 0 ≤ b.1 ∧ b.1 ≤ 5) (hb2 : 0 ≤ b.2 ∧ b.2 ≤ 1000000) (hB : Blk w g 72 (stRow c b K L M)) :
    Calls Tryd.prog 40 #[.pointer (some ⟨g, 0, none⟩)] w (MovePost g (stRow (bendF b (c.1, c.2 + 1)) b K L M) (decide (c.2 + 1 ≤ 1000000)) w) := by
  have hg := hB.lt
  have hd0 := hok.d0
  have hd1 := hok.d1
  have hB' := hB
  unfold stRow at hB'
  have y4 := hB'.cell 4
  have f4 := hB'.free 4
  have u1 : Upd g 72 (stRow (c.1, c.2 + 1) b K L M) w (w.setCell ⟨g, 4, none⟩ (.int .i64 (c.2 + 1))) := ((Upd.refl hB).set 4 (.int .i64 (c.2 + 1))).as (by simp [stRow])
  obtain ⟨w1, hw1⟩ : ∃ W, W = w.setCell ⟨g, 4, none⟩ (.int .i64 (c.2 + 1)) := ⟨_, rfl⟩
  rw [← hw1] at u1
  have b1 := u1.blk
  have hg1 := b1.lt
  have HB := Lib.hid hB; clear hB
  have HB' := Lib.hid hB'; clear hB'
  have U1 := Lib.hid u1; clear u1
  have B1 := Lib.hid b1; clear b1
  clear hg
  go_enter Tryd.func40, Tryd.ntmps40
  go_upto_region 1 with fail
  rw [← hw1]
  clear y4 f4 hw1
  have b1' := B1.out
  unfold stRow at b1'
  have y4 := b1'.cell 4
  have B1' := Lib.hid b1'; clear b1'
  by_cases hd : c.2 + 1 ≤ 1000000
  case neg =>
    have hq := U1.out.bel g (Nat.le_refl _) (Nat.le_of_lt HB.out.lt)
    have hd' : 1000000 < c.2 + 1 := by omega
    have Hq := Lib.hid hq; clear hq
    go_wp2
    exact ⟨rfl, movePost_no rfl Hq.out⟩
  case pos =>
  have hd' : ¬ 1000000 < c.2 + 1 := by omega
  have hok1 : TurOk (c.1, c.2 + 1) := ⟨hok.lo, hok.ck, by show 0 ≤ c.2 + 1; omega, hd⟩
  have hdd : decide (c.2 + 1 ≤ 1000000) = true := decide_eq_true hd
  have htm : (c.2 + 1).tmod b.2 = (c.2 + 1) % b.2 := Int.tmod_eq_emod_of_nonneg (by omega)
  have hnot := @bendF_not b (c.1, c.2 + 1)
  have hyes := @bendF_yes b (c.1, c.2 + 1) hok1 hb1
  simp only at hnot hyes
  rw [← htm] at hnot hyes
  obtain ⟨r, hr⟩ : ∃ r, (c.2 + 1).tmod b.2 = r := ⟨_, rfl⟩
  have y6 := B1'.out.cell 6
  have y4' := cell_regrown y4
  have y6' := cell_regrown y6
  by_cases h0 : b.2 = 0
  case pos =>
    have h0' : (b.2 == 0) = true := by simpa using h0
    have hrow := hnot (.inl h0)
    have Hrow := Lib.hid hrow; clear hrow
    have Hnot := Lib.hid hnot; clear hnot
    have Hyes := Lib.hid hyes; clear hyes
    have Hok1 := Lib.hid hok1; clear hok1
    have Htm := Lib.hid htm; clear htm
    have Hr := Lib.hid hr; clear hr
    have Hok := Lib.hid hok; clear hok
    have H0 := Lib.hid h0; clear h0
    have Hdd := Lib.hid hdd; clear hdd
    clear hd
    go_upto_region 3 with fail
    refine wp_region_quiet_below (by kernel_rfl) (by kernel_rfl) ?_
    iterate 20 (go_big_quiet_step (fail))
    refine wpQuiet_nil ?_
    rintro w' ⟨⟨dq, osq⟩, rfl⟩
    have hbr := below_regrown w1 dq osq
    generalize grow (redrawn w1 dq) osq = w5 at hbr ⊢
    have hfin := U1.out.then hbr
    clear hbr y4 y6 y4' y6'
    have Hfin := Lib.hid hfin; clear hfin
    go_wp2
    go_end0
    exact movePost_yes (by first | rfl | exact Hdd.out) (Hfin.out.as (by rw [Hrow.out]))
  case neg =>
  have h0' : (b.2 == 0) = false := by simpa using h0
  by_cases hr0 : r = 0
  case neg =>
    have hr0' : (r != 0) = true := by simpa using hr0
    have hrow := hnot (.inr (by rw [hr]; exact hr0))
    have Hrow := Lib.hid hrow; clear hrow
    have Hnot := Lib.hid hnot; clear hnot
    have Hyes := Lib.hid hyes; clear hyes
    have Hok1 := Lib.hid hok1; clear hok1
    have Htm := Lib.hid htm; clear htm
    have Hok := Lib.hid hok; clear hok
    have Hdd := Lib.hid hdd; clear hdd
    clear hd
    go_upto_region 3 with fail
    refine wp_region_quiet_below (by kernel_rfl) (by kernel_rfl) ?_
    iterate 20 (go_big_quiet_step (fail))
    refine wpQuiet_nil ?_
    rintro w' ⟨⟨dq, osq⟩, rfl⟩
    have hbr := below_regrown w1 dq osq
    generalize grow (redrawn w1 dq) osq = w5 at hbr ⊢
    have hfin := U1.out.then hbr
    clear hbr y4 y6 y4' y6'
    have Hfin := Lib.hid hfin; clear hfin
    go_wp2
    go_end0
    exact movePost_yes (by first | rfl | exact Hdd.out) (Hfin.out.as (by rw [Hrow.out]))
  case pos =>
  have hr0' : (r != 0) = false := by simpa using hr0
  have hrow := hyes h0 (hr.trans hr0)
  have hun := axT_unit ⟨_, hok.lt⟩
  simp only at hun
  obtain ⟨_, hu2, hu3⟩ := unitM_at hun
  have hwy := fun W => way_index b.1.toNat (by omega) W
  rw [show ((b.1.toNat : Nat) : Int) = b.1 from by omega] at hwy
  have hbp : bendP b.1.toNat c.1.1.toNat = (if dirV b.1.toNat = (axT c.1.1.toNat).2.1 then rotF 0 1 1 c.1.1.toNat else if dirV b.1.toNat = negV (axT c.1.1.toNat).2.1 then rotF 0 1 (-1) c.1.1.toNat
    else if dirV b.1.toNat = (axT c.1.1.toNat).2.2 then rotF 2 0 (-1) c.1.1.toNat else if dirV b.1.toNat = negV (axT c.1.1.toNat).2.2 then rotF 2 0 1 c.1.1.toNat else c.1.1.toNat) := rfl
  obtain ⟨bp, hbp'⟩ : ∃ x, bendP b.1.toNat c.1.1.toNat = x := ⟨_, rfl⟩
  rw [hbp'] at hbp hrow
  have hax : ∀ W', Blk W' g 72 (stRow (c.1, c.2 + 1) b K L M) → _ := fun W' h => tAxes_calls g (c.1, c.2 + 1) b K L M W' hok1 h
  unfold MatPost at hax
  simp only at hax
  have tu := fun (x : Nat) (hx : x < 3) (n : Int) (hn : -2000000000 ≤ n ∧ n ≤ 2000000000) W' h => tTurn_calls g (c.1, c.2 + 1) b K L M x hx n hn W' hok1 h
  obtain ⟨D, hD⟩ : ∃ m, dirV b.1.toNat = m := ⟨_, rfl⟩
  obtain ⟨R, hR⟩ : ∃ m, axT c.1.1.toNat = m := ⟨_, rfl⟩
  rw [hR] at hbp hax hu2 hu3
  rw [hD] at hbp hwy
  have op1 := fun W' => opp_calls R.2.1 W' hu2
  have op2 := fun W' => opp_calls R.2.2 W' hu3
  obtain ⟨N1, hN1⟩ : ∃ m, negV R.2.1 = m := ⟨_, rfl⟩
  obtain ⟨N2, hN2⟩ : ∃ m, negV R.2.2 = m := ⟨_, rfl⟩
  rw [hN1] at hbp op1
  rw [hN2] at hbp op2
  have q1 := fun W' => eqIn_vec' 9998 D R.2.1 W'
  have q2 := fun W' => eqIn_vec' 9998 D N1 W'
  have q3 := fun W' => eqIn_vec' 9998 D R.2.2 W'
  have q4 := fun W' => eqIn_vec' 9998 D N2 W'
  have Hrow := Lib.hid hrow; clear hrow
  have Hnot := Lib.hid hnot; clear hnot
  have Hyes := Lib.hid hyes; clear hyes
  have Hok1 := Lib.hid hok1; clear hok1
  have Htm := Lib.hid htm; clear htm
  have Hok := Lib.hid hok; clear hok
  have Hun := Lib.hid hun; clear hun
  have Hu2 := Lib.hid hu2; clear hu2
  have Hu3 := Lib.hid hu3; clear hu3
  have Hbp := Lib.hid hbp; clear hbp
  have Hbp' := Lib.hid hbp'; clear hbp'
  have Hax := Lib.hid hax; clear hax
  have Tu := Lib.hid tu; clear tu
  have HD := Lib.hid hD; clear hD
  have HR := Lib.hid hR; clear hR
  have Op1 := Lib.hid op1; clear op1
  have Op2 := Lib.hid op2; clear op2
  have HN1 := Lib.hid hN1; clear hN1
  have HN2 := Lib.hid hN2; clear hN2
  have Hdd := Lib.hid hdd; clear hdd
  clear hd
  go_upto_region 3 with fail
  refine wp_region_quiet_below (by kernel_rfl) (by kernel_rfl) ?_
  iterate 20 (go_big_quiet_step (fail))
  refine wpQuiet_nil ?_
  rintro w' ⟨⟨dq, osq⟩, rfl⟩
  have hbr := below_regrown w1 dq osq
  generalize grow (redrawn w1 dq) osq = w5 at hbr ⊢
  have u5 := U1.out.then hbr
  have b5 := u5.blk
  clear hbr y4 y6 y4' y6'
  have b5' := b5
  unfold stRow at b5'
  have y5 := b5'.cell 5
  obtain ⟨w6, hw6⟩ : ∃ W, W = w5.alloc (.cells #[.int .i64 D.1, .int .i64 D.2.1, .int .i64 D.2.2] 24) := ⟨_, rfl⟩
  obtain ⟨g2, hg2⟩ : ∃ g, g = w5.heap.size := ⟨_, rfl⟩
  have n2 : Blk w6 g2 24 #[.int .i64 D.1, .int .i64 D.2.1, .int .i64 D.2.2] := by rw [hw6, hg2]; exact Blk.new w5 _ _
  have ab : RowKit.Below w5.heap.size w5 w6 := by rw [hw6]; exact al1
  have u6 := u5.then ab
  have b6 := u6.blk
  clear ab u5 b5
  have B5' := Lib.hid b5'; clear b5'
  have N2 := Lib.hid n2; clear n2
  have U6 := Lib.hid u6; clear u6
  have B6 := Lib.hid b6; clear b6
  go_upto_region 5 with fail
  rw [← hw6, ← hg2]
  clear hw6 hg2 y5 hwy
  go_wp2_with fail
  refine (Hax.out _ B6.out).mono ?_
  rintro e w7 ⟨rfl, d7⟩
  have u7 := U6.out.then d7
  have n2 := N2.out.same (d7.block _ N2.out.lt)
  obtain ⟨w8, hw8⟩ : ∃ W, W = w7.alloc (.cells #[.int .i64 R.1.1, .int .i64 R.1.2.1, .int .i64 R.1.2.2, .int .i64 R.2.1.1, .int .i64 R.2.1.2.1, .int .i64 R.2.1.2.2, .int .i64 R.2.2.1, .int .i64 R.2.2.2.1, .int .i64 R.2.2.2.2] 47) := ⟨_, rfl⟩
  obtain ⟨g3, hg3⟩ : ∃ g, g = w7.heap.size := ⟨_, rfl⟩
  have n3 : Blk w8 g3 47 #[.int .i64 R.1.1, .int .i64 R.1.2.1, .int .i64 R.1.2.2, .int .i64 R.2.1.1, .int .i64 R.2.1.2.1, .int .i64 R.2.1.2.2, .int .i64 R.2.2.1, .int .i64 R.2.2.2.1, .int .i64 R.2.2.2.2] := by rw [hw8, hg3]; exact Blk.new w7 _ _
  have ab : RowKit.Below w7.heap.size w7 w8 := by rw [hw8]; exact al1
  have u8 := u7.then ab
  have n2' := n2.same (ab.block _ n2.lt)
  clear ab u7 d7 n2 N2 U6 B6
  have x0 := n2'.cell 0
  have x1 := n2'.cell 1
  have x2 := n2'.cell 2
  have y3 := n3.cell 3
  have y4 := n3.cell 4
  have y5 := n3.cell 5
  have y6 := n3.cell 6
  have y7 := n3.cell 7
  have y8 := n3.cell 8
  have N2' := Lib.hid n2'; clear n2'
  have N3 := Lib.hid n3; clear n3
  have U8 := Lib.hid u8; clear u8
  go_upto_region 6 with fail
  rw [← hw8, ← hg3]
  clear hw8 hg3
  by_cases e1 : D = R.2.1
  case pos =>
    have e1' : decide (D = R.2.1) = true := decide_eq_true e1
    have hv := Hbp.out
    rw [if_pos e1] at hv
    have t1 := Tu.out 2 (by omega) 1 (by decide) w8 U8.out.blk
    have Hv := Lib.hid hv; clear hv
    have T1 := Lib.hid t1; clear t1
    clear q2 q3 q4 e1
    go_wp2_with fail
    refine T1.out.mono ?_
    rintro e w9 ⟨rfl, u9⟩
    have hfin := U8.out.trans u9
    clear x0 x1 x2 y3 y4 y5 y6 y7 y8 q1 u9
    have Hfin := Lib.hid hfin; clear hfin
    go_wp2
    go_end0
    refine movePost_yes (by first | rfl | exact Hdd.out) (Hfin.out.as ?_)
    rw [Hrow.out, Hv.out]
    rfl
  case neg =>
  have e1' : decide (D = R.2.1) = false := decide_eq_false e1
  go_wp2_with fail
  refine (Op1.out _).mono ?_
  rintro e w9 ⟨rfl, d9⟩
  have n2' := N2'.out.same (d9.block _ N2'.out.lt)
  have n3 := N3.out.same (d9.block _ N3.out.lt)
  have u9 := U8.out.then d9
  clear x0 x1 x2 y3 y4 y5 y6 y7 y8 q1 d9 U8 N2' N3
  by_cases e2 : D = N1
  case pos =>
    have e2' : decide (D = N1) = true := decide_eq_true e2
    have hv := Hbp.out
    rw [if_neg e1, if_pos e2] at hv
    have t1 := Tu.out 2 (by omega) (-1) (by decide) w9 u9.blk
    have Hv := Lib.hid hv; clear hv
    have T1 := Lib.hid t1; clear t1
    have U9 := Lib.hid u9; clear u9
    clear q3 q4 e1 e2
    go_wp2_with fail
    refine T1.out.mono ?_
    rintro e w10 ⟨rfl, u10⟩
    have hfin := U9.out.trans u10
    clear q2 u10
    have Hfin := Lib.hid hfin; clear hfin
    go_wp2
    go_end0
    refine movePost_yes (by first | rfl | exact Hdd.out) (Hfin.out.as ?_)
    rw [Hrow.out, Hv.out]
    rfl
  case neg =>
  have e2' : decide (D = N1) = false := decide_eq_false e2
  have y6 := n3.cell 6
  have y7 := n3.cell 7
  have y8 := n3.cell 8
  by_cases e3 : D = R.2.2
  case pos =>
    have e3' : decide (D = R.2.2) = true := decide_eq_true e3
    have hv := Hbp.out
    rw [if_neg e1, if_neg e2, if_pos e3] at hv
    have t1 := Tu.out 1 (by omega) (-1) (by decide) w9 u9.blk
    have Hv := Lib.hid hv; clear hv
    have T1 := Lib.hid t1; clear t1
    have U9 := Lib.hid u9; clear u9
    have N2' := Lib.hid n2'; clear n2'
    have N3 := Lib.hid n3; clear n3
    clear q4 e1 e2 e3
    go_wp2_with fail
    refine T1.out.mono ?_
    rintro e w10 ⟨rfl, u10⟩
    have hfin := U9.out.trans u10
    clear q2 q3 u10 y6 y7 y8
    have Hfin := Lib.hid hfin; clear hfin
    go_wp2
    go_end0
    refine movePost_yes (by first | rfl | exact Hdd.out) (Hfin.out.as ?_)
    rw [Hrow.out, Hv.out]
    rfl
  case neg =>
  have e3' : decide (D = R.2.2) = false := decide_eq_false e3
  have U9 := Lib.hid u9; clear u9
  have N2' := Lib.hid n2'; clear n2'
  have N3 := Lib.hid n3; clear n3
  go_wp2_with fail
  refine (Op2.out _).mono ?_
  rintro e w10 ⟨rfl, d10⟩
  have u10 := U9.out.then d10
  clear q2 q3 d10 y6 y7 y8
  by_cases e4 : D = N2
  case pos =>
    have e4' : decide (D = N2) = true := decide_eq_true e4
    have hv := Hbp.out
    rw [if_neg e1, if_neg e2, if_neg e3, if_pos e4] at hv
    have t1 := Tu.out 1 (by omega) 1 (by decide) w10 u10.blk
    have Hv := Lib.hid hv; clear hv
    have T1 := Lib.hid t1; clear t1
    have U10 := Lib.hid u10; clear u10
    clear e1 e2 e3 e4
    go_wp2_with fail
    refine T1.out.mono ?_
    rintro e w11 ⟨rfl, u11⟩
    have hfin := U10.out.trans u11
    clear q4 u11
    have Hfin := Lib.hid hfin; clear hfin
    go_wp2
    go_end0
    refine movePost_yes (by first | rfl | exact Hdd.out) (Hfin.out.as ?_)
    rw [Hrow.out, Hv.out]
    rfl
  case neg =>
  have e4' : decide (D = N2) = false := decide_eq_false e4
  have hv := Hbp.out
  rw [if_neg e1, if_neg e2, if_neg e3, if_neg e4] at hv
  have Hv := Lib.hid hv; clear hv
  have U10 := Lib.hid u10; clear u10
  clear e1 e2 e3 e4
  go_wp2
  go_end0
  refine movePost_yes (by first | rfl | exact Hdd.out) (U10.out.as ?_)
  rw [Hrow.out, Hv.out, Hok.out.nat]
end Go.Proofs.YtldccpmnboebmaaDoor
