/-
  Layer 17: the walks of the reference's Begin and bend.
-/
import Derived.Test.YtldccpmnboebmaaAn
namespace Go.Proofs.Ytldccpmnboebmaa
open Go.RowKit Go.Sort
set_option linter.unusedVariables false

def BeginPost (t : Tur) (w : World) (e : Ending) (w' : World) : Prop := ∃ g, e = .returned (.pointer (some ⟨g, 0, none⟩)) ∧ Blk w' g 91 (sRow t) ∧ w.heap.size ≤ g ∧ RowKit.Below w.heap.size w w'
set_option maxRecDepth 100000 in
set_option maxHeartbeats 4000000 in
theorem begin_calls (t : Tur) (w : World) (hok : TurOk t) : Calls Try.prog 32 #[.agg #[.int .u8 t.1.1, .int .i64 t.1.2.1, .int .i64 t.1.2.2.1, .int .i64 t.1.2.2.2, .int .i64 t.2]] w (BeginPost t w) := by
  have him := fun W' => refImages_calls t.1.1.toNat hok.lt W'
  rw [hok.nat] at him
  have hws : IntKind.i64.wrap t.1.1 = t.1.1 := IntWalk.i64_in _ (by have := (checkFr_ok hok.ck).1; have := hok.lo; omega)
  have hrow : sRow t = #[.int .i64 t.1.2.1, .int .i64 t.1.2.2.1, .int .i64 t.1.2.2.2, .int .i64 (axT t.1.1.toNat).1.1, .int .i64 (axT t.1.1.toNat).1.2.1, .int .i64 (axT t.1.1.toNat).1.2.2, .int .i64 (axT t.1.1.toNat).2.1.1, .int .i64 (axT t.1.1.toNat).2.1.2.1, .int .i64 (axT t.1.1.toNat).2.1.2.2, .int .i64 (axT t.1.1.toNat).2.2.1, .int .i64 (axT t.1.1.toNat).2.2.2.1, .int .i64 (axT t.1.1.toNat).2.2.2.2, .int .i64 t.2] := rfl
  obtain ⟨R, hR⟩ : ∃ m, axT t.1.1.toNat = m := ⟨_, rfl⟩
  rw [hR] at him hrow
  obtain ⟨W, hW⟩ : ∃ W, W = w.alloc (.cells #[.int .u8 t.1.1, .int .i64 t.1.2.1, .int .i64 t.1.2.2.1, .int .i64 t.1.2.2.2, .int .i64 t.2] 29) := ⟨_, rfl⟩
  have b0 : Blk W w.heap.size 29 #[.int .u8 t.1.1, .int .i64 t.1.2.1, .int .i64 t.1.2.2.1, .int .i64 t.1.2.2.2, .int .i64 t.2] := by rw [hW]; exact Blk.new _ _ _
  have t0 : RowKit.Below w.heap.size w W := by rw [hW]; exact al1
  have y0 := b0.cell 0
  have y1 := b0.cell 1
  have y2 := b0.cell 2
  have y3 := b0.cell 3
  have y4 := b0.cell 4
  have zb := b0.lt
  have B0 := Lib.hid b0; clear b0
  have T0 := Lib.hid t0; clear t0
  have Him := Lib.hid him; clear him
  have Hrow := Lib.hid hrow; clear hrow
  have HR := Lib.hid hR; clear hR
  have Hok := Lib.hid hok; clear hok
  go_enter Try.func32, Try.ntmps32
  go_upto_region 1 with fail
  rw [← hW]
  clear hW
  refine wp_region_floatT 11 [] (by kernel_rfl) (by kernel_rfl) rfl (fun x hx => absurd hx List.not_mem_nil) (fun x hx => absurd hx List.not_mem_nil) (fun x hx => absurd hx List.not_mem_nil) ?_
  apply Exists.intro
  refine And.intro ?walk (And.intro ?vals ?tail)
  case walk =>
    intro W' hW'
    have e0 := cell_regrown ((cell_keep (hW'.block w.heap.size zb)).trans y0)
    have e1 := cell_regrown ((cell_keep (hW'.block w.heap.size zb)).trans y1)
    have e2 := cell_regrown ((cell_keep (hW'.block w.heap.size zb)).trans y2)
    have e3 := cell_regrown ((cell_keep (hW'.block w.heap.size zb)).trans y3)
    have e4 := cell_regrown ((cell_keep (hW'.block w.heap.size zb)).trans y4)
    have si : ∀ q os, Calls Try.prog 49 #[.int .i64 t.1.1] (grow (redrawn W' q) os) fun e w'' => e = .returned (.agg #[.int .i64 R.1.1, .int .i64 R.1.2.1, .int .i64 R.1.2.2, .int .i64 R.2.1.1, .int .i64 R.2.1.2.1, .int .i64 R.2.1.2.2, .int .i64 R.2.2.1, .int .i64 R.2.2.2.1, .int .i64 R.2.2.2.2]) ∧ ∃ p : Regrown, w'' = grow (redrawn W' p.d) p.os := fun q os => Calls.regrown_of (Him.out _)
    have Si := Lib.hid si; clear si
    simp only [virtQ, fltQ, nopT, List.take_succ_cons, List.take_zero, List.drop_succ_cons, List.drop_zero, List.map_cons, List.map_nil, List.cons_append, List.nil_append]
    iterate 8 (go_big_quiet_step (exact (Si.out _ _).mono fun e w'' h => h))
    iterate 5 (go_big_quiet_step (fail))
    exact wpQuiet_nil rfl
  case vals => trivial
  case tail =>
    intro pf w2 hbw2 _ _
    simp only [putsB, List.drop_succ_cons, List.drop_zero]
    have t2 := T0.out.trans (hbw2.mono T0.out.size)
    have hz := t2.size
    obtain ⟨w3, hw3⟩ : ∃ W, W = w2.alloc (.cells (sRow t) 91) := ⟨_, rfl⟩
    obtain ⟨g, hg⟩ : ∃ k, k = w2.heap.size := ⟨_, rfl⟩
    have n3 : Blk w3 g 91 (sRow t) := by rw [hw3, hg]; exact Blk.new _ _ _
    have t3 : RowKit.Below w.heap.size w w3 := by rw [hw3]; exact t2.alloc t2.size _
    have hge : w.heap.size ≤ g := by omega
    rw [Hrow.out] at hw3
    have T2 := Lib.hid t2; clear t2
    have N3 := Lib.hid n3; clear n3
    have T3 := Lib.hid t3; clear t3
    clear y0 y1 y2 y3 y4 hbw2
    go_wp2
    rw [← hw3, ← hg]
    go_ret
    exact ⟨g, rfl, N3.out, hge, T3.out⟩
theorem bendF_ref {b : Trop} {c : Tur} (h : ¬ b.2 = 0) (h' : c.2 % b.2 = 0) : bendF b c = ((((bendT b.1.toNat c.1.1.toNat : Nat) : Int), c.1.2), c.2) := by
  unfold bendF
  rw [if_neg (fun e => e.elim h (fun e => e h'))]
theorem bendF_ref0 {b : Trop} {c : Tur} (h : b.2 = 0 ∨ c.2 % b.2 ≠ 0) : bendF b c = c := by unfold bendF; rw [if_pos h]
set_option maxRecDepth 100000 in
set_option maxHeartbeats 8000000 in
theorem rBend_calls (g : Nat) (c : Tur) (b : Trop) (w : World) (hok : TurOk c) (hb1 : 0 ≤ b.1 ∧ b.1 ≤ 5) (hb2 : 0 ≤ b.2 ∧ b.2 ≤ 1000000) (hB : Blk w g 91 (sRow c)) :
    Calls Try.prog 36 #[.pointer (some ⟨g, 0, none⟩), .agg #[.int .u8 b.1, .int .i64 b.2]] w (fun e w' => e = .returned (.tuple #[]) ∧ Upd g 91 (sRow (bendF b c)) w w') := by
  have hg := hB.lt
  have hd0 := hok.d0
  obtain ⟨W, hW⟩ : ∃ W, W = w.alloc (.cells #[.int .u8 b.1, .int .i64 b.2] 49) := ⟨_, rfl⟩
  have b3 : Blk W w.heap.size 49 #[.int .u8 b.1, .int .i64 b.2] := by rw [hW]; exact Blk.new _ _ _
  have t0 : RowKit.Below w.heap.size w W := by rw [hW]; exact al1
  have u0 : Upd g 91 (sRow c) w W := (Upd.refl hB).then t0
  have kB := u0.blk
  have htm : c.2.tmod b.2 = c.2 % b.2 := Int.tmod_eq_emod_of_nonneg hd0
  have hnot := @bendF_ref0 b c
  have hyes := @bendF_ref b c
  rw [← htm] at hnot hyes
  obtain ⟨r, hr⟩ : ∃ r, c.2.tmod b.2 = r := ⟨_, rfl⟩
  have hkB := kB
  unfold sRow at hkB
  have y12 := hkB.cell 12
  have x0 := b3.cell 0
  have x1 := b3.cell 1
  have y12' := cell_regrown y12
  have x1' := cell_regrown x1
  have zg := kB.lt
  have zb := b3.lt
  have hne : w.heap.size ≠ g := by omega
  by_cases h0 : b.2 = 0
  case pos =>
    have h0' : (b.2 == 0) = true := by simpa using h0
    have hrow := hnot (.inl h0)
    have HB := Lib.hid hB; clear hB
    have KB := Lib.hid kB; clear kB
    have HkB := Lib.hid hkB; clear hkB
    have B3 := Lib.hid b3; clear b3
    have T0 := Lib.hid t0; clear t0
    have U0 := Lib.hid u0; clear u0
    have Hrow := Lib.hid hrow; clear hrow
    have Hnot := Lib.hid hnot; clear hnot
    have Hyes := Lib.hid hyes; clear hyes
    have Hok := Lib.hid hok; clear hok
    have Htm := Lib.hid htm; clear htm
    have Hr := Lib.hid hr; clear hr
    have H0 := Lib.hid h0; clear h0
    go_enter Try.func36, Try.ntmps36
    go_upto_region 1 with fail
    rw [← hW]
    clear hW
    refine wp_region_quiet_below (by kernel_rfl) (by kernel_rfl) ?_
    iterate 13 (go_big_quiet_step (fail))
    refine wpQuiet_nil ?_
    rintro w' ⟨⟨dq, osq⟩, rfl⟩
    have hbr := below_regrown W dq osq
    generalize grow (redrawn W dq) osq = w5 at hbr ⊢
    have hfin := U0.out.then hbr
    clear hbr y12 x0 x1 y12' x1'
    have Hfin := Lib.hid hfin; clear hfin
    go_wp2
    first | go_end0 | (refine bodyPost_ret (results_none rfl _ _ _) rfl ?_)
    exact ⟨rfl, Hfin.out.as (by rw [Hrow.out])⟩
  case neg =>
  have h0' : (b.2 == 0) = false := by simpa using h0
  by_cases hr0 : r = 0
  case neg =>
    have hr0' : (r != 0) = true := by simpa using hr0
    have hrow := hnot (.inr (by rw [hr]; exact hr0))
    have HB := Lib.hid hB; clear hB
    have KB := Lib.hid kB; clear kB
    have HkB := Lib.hid hkB; clear hkB
    have B3 := Lib.hid b3; clear b3
    have T0 := Lib.hid t0; clear t0
    have U0 := Lib.hid u0; clear u0
    have Hrow := Lib.hid hrow; clear hrow
    have Hnot := Lib.hid hnot; clear hnot
    have Hyes := Lib.hid hyes; clear hyes
    have Hok := Lib.hid hok; clear hok
    have Htm := Lib.hid htm; clear htm
    go_enter Try.func36, Try.ntmps36
    go_upto_region 1 with fail
    rw [← hW]
    clear hW
    refine wp_region_quiet_below (by kernel_rfl) (by kernel_rfl) ?_
    iterate 13 (go_big_quiet_step (fail))
    refine wpQuiet_nil ?_
    rintro w' ⟨⟨dq, osq⟩, rfl⟩
    have hbr := below_regrown W dq osq
    generalize grow (redrawn W dq) osq = w5 at hbr ⊢
    have hfin := U0.out.then hbr
    clear hbr y12 x0 x1 y12' x1'
    have Hfin := Lib.hid hfin; clear hfin
    go_wp2
    first | go_end0 | (refine bodyPost_ret (results_none rfl _ _ _) rfl ?_)
    exact ⟨rfl, Hfin.out.as (by rw [Hrow.out])⟩
  case pos =>
  have hr0' : (r != 0) = false := by simpa using hr0
  have hrow := hyes h0 (hr.trans hr0)
  have hd6 : b.1.toNat < 6 := by omega
  have hdi := fun W' => refDirection_calls ⟨b.1.toNat, hd6⟩ W'
  simp only at hdi
  rw [show ((b.1.toNat : Nat) : Int) = b.1 from by omega] at hdi
  have hws : IntKind.i64.wrap b.1 = b.1 := IntWalk.i64_in _ (by omega)
  have hun := axT_unit ⟨_, hok.lt⟩
  simp only at hun
  obtain ⟨v0, v1, v2⟩ := unitM_at hun
  have hdu := dirV_unit ⟨b.1.toNat, hd6⟩
  simp only at hdu
  have hbt : bendT b.1.toNat c.1.1.toNat = (if dotV (dirV b.1.toNat) (axT c.1.1.toNat).1 ≠ 0 then c.1.1.toNat
    else if dotV (dirV b.1.toNat) (axT c.1.1.toNat).2.1 = 0 then rotF 0 2 (dotV (dirV b.1.toNat) (axT c.1.1.toNat).2.2) c.1.1.toNat else rotF 0 1 (dotV (dirV b.1.toNat) (axT c.1.1.toNat).2.1) c.1.1.toNat) := rfl
  obtain ⟨bt, hbt'⟩ : ∃ x, bendT b.1.toNat c.1.1.toNat = x := ⟨_, rfl⟩
  rw [hbt'] at hbt hrow
  have tu := fun (a k : Nat) (hp : Pair5 a k) (n : Int) W' h => rTurn_calls hp g c n W' hok h
  obtain ⟨D, hD⟩ : ∃ m, dirV b.1.toNat = m := ⟨_, rfl⟩
  obtain ⟨R, hR⟩ : ∃ m, axT c.1.1.toNat = m := ⟨_, rfl⟩
  rw [hD] at hbt hdi hdu
  rw [hR] at hbt v0 v1 v2 hkB
  have do0 := fun W' => dot_calls D R.1 W' hdu v0
  have do1 := fun W' => dot_calls D R.2.1 W' hdu v1
  have do2 := fun W' => dot_calls D R.2.2 W' hdu v2
  obtain ⟨n0, hn0⟩ : ∃ z, dotV D R.1 = z := ⟨_, rfl⟩
  obtain ⟨n1, hn1⟩ : ∃ z, dotV D R.2.1 = z := ⟨_, rfl⟩
  obtain ⟨n2, hn2⟩ : ∃ z, dotV D R.2.2 = z := ⟨_, rfl⟩
  rw [hn0] at hbt do0
  rw [hn1] at hbt do1
  rw [hn2] at hbt do2
  have HB := Lib.hid hB; clear hB
  have KB := Lib.hid kB; clear kB
  have HkB := Lib.hid hkB; clear hkB
  have B3 := Lib.hid b3; clear b3
  have T0 := Lib.hid t0; clear t0
  have U0 := Lib.hid u0; clear u0
  have Hrow := Lib.hid hrow; clear hrow
  have Hnot := Lib.hid hnot; clear hnot
  have Hyes := Lib.hid hyes; clear hyes
  have Hok := Lib.hid hok; clear hok
  have Htm := Lib.hid htm; clear htm
  have Hdi := Lib.hid hdi; clear hdi
  have Hun := Lib.hid hun; clear hun
  have V0 := Lib.hid v0; clear v0
  have V1 := Lib.hid v1; clear v1
  have V2 := Lib.hid v2; clear v2
  have Hdu := Lib.hid hdu; clear hdu
  have Hbt := Lib.hid hbt; clear hbt
  have Hbt' := Lib.hid hbt'; clear hbt'
  have Tu := Lib.hid tu; clear tu
  have HD := Lib.hid hD; clear hD
  have HR := Lib.hid hR; clear hR
  have Do0 := Lib.hid do0; clear do0
  have Do1 := Lib.hid do1; clear do1
  have Do2 := Lib.hid do2; clear do2
  have Hn0 := Lib.hid hn0; clear hn0
  have Hn1 := Lib.hid hn1; clear hn1
  have Hn2 := Lib.hid hn2; clear hn2
  go_enter Try.func36, Try.ntmps36
  go_upto_region 1 with fail
  rw [← hW]
  clear hW
  refine wp_region_quiet_below (by kernel_rfl) (by kernel_rfl) ?_
  iterate 13 (go_big_quiet_step (fail))
  refine wpQuiet_nil ?_
  rintro w' ⟨⟨dq, osq⟩, rfl⟩
  have hbr := below_regrown W dq osq
  generalize grow (redrawn W dq) osq = w5 at hbr ⊢
  have u5 := U0.out.then hbr
  have b5 := B3.out.same (hbr.block _ zb)
  clear y12 x0 x1 y12' x1'
  have x0 := b5.cell 0
  clear hbr
  have U5 := Lib.hid u5; clear u5
  go_wp2_with fail
  refine (Hdi.out _).mono ?_
  rintro e w6 ⟨rfl, d6⟩
  have u6 := U5.out.then d6
  obtain ⟨w7, hw7⟩ : ∃ W, W = w6.alloc (.cells #[.int .i64 D.1, .int .i64 D.2.1, .int .i64 D.2.2] 25) := ⟨_, rfl⟩
  obtain ⟨g4, hg4⟩ : ∃ g, g = w6.heap.size := ⟨_, rfl⟩
  have n4 : Blk w7 g4 25 #[.int .i64 D.1, .int .i64 D.2.1, .int .i64 D.2.2] := by rw [hw7, hg4]; exact Blk.new w6 _ _
  have ab : RowKit.Below w6.heap.size w6 w7 := by rw [hw7]; exact al1
  have u7 := u6.then ab
  clear x0 d6 ab u6
  have kB7 := u7.blk
  unfold sRow at kB7
  rw [HR.out] at kB7
  have s0 := cell_regrown (n4.cell 0)
  have s1 := cell_regrown (n4.cell 1)
  have s2 := cell_regrown (n4.cell 2)
  have y3 := cell_regrown (kB7.cell 3)
  have y4 := cell_regrown (kB7.cell 4)
  have y5 := cell_regrown (kB7.cell 5)
  have si : ∀ q os, Calls Try.prog 58 #[.agg #[.int .i64 D.1, .int .i64 D.2.1, .int .i64 D.2.2], .agg #[.int .i64 R.1.1, .int .i64 R.1.2.1, .int .i64 R.1.2.2]] (grow (redrawn w7 q) os) fun e w'' => e = .returned (.int .i64 n0) ∧ ∃ p : Regrown, w'' = grow (redrawn w7 p.d) p.os := fun q os => Calls.regrown_of (Do0.out _)
  have N4 := Lib.hid n4; clear n4
  have U7 := Lib.hid u7; clear u7
  have KB7 := Lib.hid kB7; clear kB7
  have Si := Lib.hid si; clear si
  have B5 := Lib.hid b5; clear b5
  go_upto_region 3 with fail
  rw [← hw7, ← hg4]
  clear hw7 hg4
  refine wp_region_quiet_below (by kernel_rfl) (by kernel_rfl) ?_
  iterate 8 (go_big_quiet_step (exact (Si.out _ _).mono fun e w'' h => h))
  refine wpQuiet_nil ?_
  rintro w' ⟨⟨dq, osq⟩, rfl⟩
  have hbr := below_regrown w7 dq osq
  generalize grow (redrawn w7 dq) osq = w8 at hbr ⊢
  have u8 := U7.out.then hbr
  have n4 := N4.out.same (hbr.block _ N4.out.lt)
  clear hbr s0 s1 s2 y3 y4 y5 Si KB7
  by_cases c0 : n0 = 0
  case neg =>
    have c0' : (n0 != 0) = true := by simpa using c0
    have hv := Hbt.out
    rw [if_pos c0] at hv
    have U8 := Lib.hid u8; clear u8
    have Hv := Lib.hid hv; clear hv
    have N4 := Lib.hid n4; clear n4
    clear c0
    go_wp2
    first | go_end0 | (refine bodyPost_ret (results_none rfl _ _ _) rfl ?_)
    refine ⟨rfl, U8.out.as ?_⟩
    rw [Hrow.out, Hv.out, Hok.out.nat]
  case pos =>
  subst c0
  have hv0 := Hbt.out
  rw [if_neg (by decide)] at hv0
  have kB8 := u8.blk
  unfold sRow at kB8
  rw [HR.out] at kB8
  have s0 := cell_regrown (n4.cell 0)
  have s1 := cell_regrown (n4.cell 1)
  have s2 := cell_regrown (n4.cell 2)
  have y6 := cell_regrown (kB8.cell 6)
  have y7 := cell_regrown (kB8.cell 7)
  have y8 := cell_regrown (kB8.cell 8)
  have si : ∀ q os, Calls Try.prog 58 #[.agg #[.int .i64 D.1, .int .i64 D.2.1, .int .i64 D.2.2], .agg #[.int .i64 R.2.1.1, .int .i64 R.2.1.2.1, .int .i64 R.2.1.2.2]] (grow (redrawn w8 q) os) fun e w'' => e = .returned (.int .i64 n1) ∧ ∃ p : Regrown, w'' = grow (redrawn w8 p.d) p.os := fun q os => Calls.regrown_of (Do1.out _)
  have Hv0 := Lib.hid hv0; clear hv0
  have KB8 := Lib.hid kB8; clear kB8
  have Si := Lib.hid si; clear si
  have U8 := Lib.hid u8; clear u8
  have n4h := Lib.hid n4
  clear n4
  go_upto_region 5 with fail
  refine wp_region_quiet_below (by kernel_rfl) (by kernel_rfl) ?_
  iterate 8 (go_big_quiet_step (exact (Si.out _ _).mono fun e w'' h => h))
  refine wpQuiet_nil ?_
  rintro w' ⟨⟨dq, osq⟩, rfl⟩
  have hbr := below_regrown w8 dq osq
  generalize grow (redrawn w8 dq) osq = w9 at hbr ⊢
  have u9 := U8.out.then hbr
  have n5 := n4h.out.same (hbr.block _ n4h.out.lt)
  clear hbr s0 s1 s2 y6 y7 y8 Si KB8 N4
  have kB9 := u9.blk
  unfold sRow at kB9
  rw [HR.out] at kB9
  have hz9 := n5.lt
  have hzg := u9.blk.lt
  have s0 := n5.cell 0
  have s1 := n5.cell 1
  have s2 := n5.cell 2
  by_cases c1 : n1 = 0
  case neg =>
    have c1' : (n1 == 0) = false := by simpa using c1
    have hv := Hv0.out
    rw [if_neg c1] at hv
    have y6 := kB9.cell 6
    have y7 := kB9.cell 7
    have y8 := kB9.cell 8
    have U9 := Lib.hid u9; clear u9
    have Hv := Lib.hid hv; clear hv
    have N5 := Lib.hid n5; clear n5
    have KB9 := Lib.hid kB9; clear kB9
    clear c1
    go_upto_region 7 with fail
    refine wp_region_floatT 10 [] (by kernel_rfl) (by kernel_rfl) rfl (fun x hx => absurd hx List.not_mem_nil) (fun x hx => absurd hx List.not_mem_nil) (fun x hx => absurd hx List.not_mem_nil) ?_
    apply Exists.intro
    refine And.intro ?walk (And.intro ?vals ?tail)
    case walk =>
      intro W' hW'
      have e0 := cell_regrown ((cell_keep (hW'.block g4 hz9)).trans s0)
      have e1 := cell_regrown ((cell_keep (hW'.block g4 hz9)).trans s1)
      have e2 := cell_regrown ((cell_keep (hW'.block g4 hz9)).trans s2)
      have e3 := cell_regrown ((cell_keep (hW'.block g hzg)).trans y6)
      have e4 := cell_regrown ((cell_keep (hW'.block g hzg)).trans y7)
      have e5 := cell_regrown ((cell_keep (hW'.block g hzg)).trans y8)
      have si : ∀ q os, Calls Try.prog 58 #[.agg #[.int .i64 D.1, .int .i64 D.2.1, .int .i64 D.2.2], .agg #[.int .i64 R.2.1.1, .int .i64 R.2.1.2.1, .int .i64 R.2.1.2.2]] (grow (redrawn W' q) os) fun e w'' => e = .returned (.int .i64 n1) ∧ ∃ p : Regrown, w'' = grow (redrawn W' p.d) p.os := fun q os => Calls.regrown_of (Do1.out _)
      have Si := Lib.hid si; clear si
      simp only [virtQ, fltQ, nopT, List.take_succ_cons, List.take_zero, List.drop_succ_cons, List.drop_zero, List.map_cons, List.map_nil, List.cons_append, List.nil_append]
      iterate 10 (go_big_quiet_step (exact (Si.out _ _).mono fun e w'' h => h))
      iterate 1 (go_big_quiet_step (fail))
      exact wpQuiet_nil rfl
    case vals => trivial
    case tail =>
      intro pf w10 hbw2 _ _
      simp only [putsB, List.drop_succ_cons, List.drop_zero]
      have u10 := U9.out.then hbw2
      have ct := Tu.out 0 1 (.inl ⟨rfl, rfl⟩) n1 w10 u10.blk
      have U10 := Lib.hid u10; clear u10
      have Ct := Lib.hid ct; clear ct
      clear s0 s1 s2 y6 y7 y8 hbw2
      go_wp2_with fail
      refine Ct.out.mono ?_
      rintro e w11 ⟨rfl, u11⟩
      have u12 := U10.out.trans u11
      clear u11
      have U12 := Lib.hid u12; clear u12
      go_wp2
      first | go_end0 | (refine bodyPost_ret (results_none rfl _ _ _) rfl ?_)
      refine ⟨rfl, U12.out.as ?_⟩
      rw [Hrow.out, Hv.out]
      rfl
  case pos =>
  subst c1
  have hv := Hv0.out
  rw [if_pos rfl] at hv
  have y9 := kB9.cell 9
  have y10 := kB9.cell 10
  have y11 := kB9.cell 11
  have U9 := Lib.hid u9; clear u9
  have Hv := Lib.hid hv; clear hv
  have N5 := Lib.hid n5; clear n5
  have KB9 := Lib.hid kB9; clear kB9
  go_upto_region 7 with fail
  refine wp_region_floatT 10 [] (by kernel_rfl) (by kernel_rfl) rfl (fun x hx => absurd hx List.not_mem_nil) (fun x hx => absurd hx List.not_mem_nil) (fun x hx => absurd hx List.not_mem_nil) ?_
  apply Exists.intro
  refine And.intro ?walk (And.intro ?vals ?tail)
  case walk =>
    intro W' hW'
    have e0 := cell_regrown ((cell_keep (hW'.block g4 hz9)).trans s0)
    have e1 := cell_regrown ((cell_keep (hW'.block g4 hz9)).trans s1)
    have e2 := cell_regrown ((cell_keep (hW'.block g4 hz9)).trans s2)
    have e3 := cell_regrown ((cell_keep (hW'.block g hzg)).trans y9)
    have e4 := cell_regrown ((cell_keep (hW'.block g hzg)).trans y10)
    have e5 := cell_regrown ((cell_keep (hW'.block g hzg)).trans y11)
    have si : ∀ q os, Calls Try.prog 58 #[.agg #[.int .i64 D.1, .int .i64 D.2.1, .int .i64 D.2.2], .agg #[.int .i64 R.2.2.1, .int .i64 R.2.2.2.1, .int .i64 R.2.2.2.2]] (grow (redrawn W' q) os) fun e w'' => e = .returned (.int .i64 n2) ∧ ∃ p : Regrown, w'' = grow (redrawn W' p.d) p.os := fun q os => Calls.regrown_of (Do2.out _)
    have Si := Lib.hid si; clear si
    simp only [virtQ, fltQ, nopT, List.take_succ_cons, List.take_zero, List.drop_succ_cons, List.drop_zero, List.map_cons, List.map_nil, List.cons_append, List.nil_append]
    iterate 10 (go_big_quiet_step (exact (Si.out _ _).mono fun e w'' h => h))
    iterate 1 (go_big_quiet_step (fail))
    exact wpQuiet_nil rfl
  case vals => trivial
  case tail =>
    intro pf w10 hbw2 _ _
    simp only [putsB, List.drop_succ_cons, List.drop_zero]
    have u10 := U9.out.then hbw2
    have ct := Tu.out 0 2 (.inr (.inr (.inl ⟨rfl, rfl⟩))) n2 w10 u10.blk
    have U10 := Lib.hid u10; clear u10
    have Ct := Lib.hid ct; clear ct
    clear s0 s1 s2 y9 y10 y11 hbw2
    go_wp2_with fail
    refine Ct.out.mono ?_
    rintro e w11 ⟨rfl, u11⟩
    have u12 := U10.out.trans u11
    clear u11
    have U12 := Lib.hid u12; clear u12
    go_wp2
    first | go_end0 | (refine bodyPost_ret (results_none rfl _ _ _) rfl ?_)
    refine ⟨rfl, U12.out.as ?_⟩
    rw [Hrow.out, Hv.out]
    rfl
end Go.Proofs.Ytldccpmnboebmaa
