/-
  TurtleTracks, the walk of the law: it returns true.
-/
import Derived.Test.YtldccpmnboebmaaVw
import Derived.Test.YtldccpmnboebmaaVx
import Derived.Test.YtldccpmnboebmaaVy
namespace Go.Proofs.Ytldccpmnboebmaa
open Go.RowKit Go.Sort
set_option linter.unusedVariables false

set_option maxRecDepth 100000 in
set_option maxHeartbeats 4000000 in
theorem turtleTracks_out (A : Option Addr) (c : Nat) (B : Option Addr) (d : Nat) (t : Trk) (f : Fr) (w : World) (hf0 : 0 ≤ f.1) (hL : (300 < t.lines.length ∧ t.lines.length ≤ 2000) ∨ 2050 < t.lines.length ∨ (300 < t.marks.length ∧ t.marks.length ≤ 2000) ∨ 2050 < t.marks.length) (hx1 : t.lines.length ≤ 9223372036854775807) (hx2 : t.marks.length ≤ 9223372036854775807) : Calls Try.prog 3 #[.agg #[.slice A t.lines.length c, .slice B t.marks.length d, .int .u8 t.fr.1, .int .i64 t.fr.2.1, .int .i64 t.fr.2.2.1, .int .i64 t.fr.2.2.2, .int .i64 t.drawn], .agg #[.int .u8 f.1, .int .i64 f.2.1, .int .i64 f.2.2.1, .int .i64 f.2.2.2]] w (fun e w' => e = .returned (.bool true) ∧ RowKit.Below w.heap.size w w') := by
  obtain ⟨W, hW⟩ : ∃ W, W = (w.alloc (.cells #[.slice A t.lines.length c, .slice B t.marks.length d, .int .u8 t.fr.1, .int .i64 t.fr.2.1, .int .i64 t.fr.2.2.1, .int .i64 t.fr.2.2.2, .int .i64 t.drawn] 31)).alloc (.cells #[.int .u8 f.1, .int .i64 f.2.1, .int .i64 f.2.2.1, .int .i64 f.2.2.2] 27) := ⟨_, rfl⟩
  have b0 : Blk W w.heap.size 31 #[.slice A t.lines.length c, .slice B t.marks.length d, .int .u8 t.fr.1, .int .i64 t.fr.2.1, .int .i64 t.fr.2.2.1, .int .i64 t.fr.2.2.2, .int .i64 t.drawn] := by rw [hW]; exact (Blk.new w _ _).alloc _
  have t0 : RowKit.Below w.heap.size w W := by rw [hW]; exact al2
  have y0 := b0.cell 0
  have y1 := b0.cell 1
  have B0 := Lib.hid b0; clear b0
  have T0 := Lib.hid t0; clear t0
  rcases (show (300 < t.lines.length ∧ t.lines.length ≤ 2000) ∨ 2050 < t.lines.length ∨ (¬ 300 < t.lines.length ∧ ¬ 2050 < t.lines.length ∧ ((300 < t.marks.length ∧ t.marks.length ≤ 2000) ∨ (¬ t.marks.length ≤ 2000 ∧ 2050 < t.marks.length))) ∨ (300 < t.lines.length ∧ ¬ t.lines.length ≤ 2000 ∧ ¬ 2050 < t.lines.length ∧ ((300 < t.marks.length ∧ t.marks.length ≤ 2000) ∨ (¬ t.marks.length ≤ 2000 ∧ 2050 < t.marks.length))) from by omega) with ⟨h1, h2⟩ | h1 | ⟨h1, h2, ⟨h3, h4⟩ | ⟨h3, h4⟩⟩ | ⟨h1, h2, h3, ⟨h4, h5⟩ | ⟨h4, h5⟩⟩
  all_goals
    clear hL
    go_enter Try.func3, Try.ntmps3
    go_wp2
    (try rw [← hW])
    go_ret
    exact ⟨rfl, T0.out⟩
set_option maxRecDepth 100000 in
set_option maxHeartbeats 8000000 in
theorem turtleTracks_walk (A : Option Addr) (c : Nat) (B : Option Addr) (d : Nat) (t : Trk) (f : Fr) (w : World) (hl : SlAt pLn (Old w) w A c t.lines) (hm : SlAt pMk (Old w) w B d t.marks) (ht0 : Fits .u8 t.fr.1) (hf0 : 0 ≤ f.1) : Calls Try.prog 3 #[.agg #[.slice A t.lines.length c, .slice B t.marks.length d, .int .u8 t.fr.1, .int .i64 t.fr.2.1, .int .i64 t.fr.2.2.1, .int .i64 t.fr.2.2.2, .int .i64 t.drawn], .agg #[.int .u8 f.1, .int .i64 f.2.1, .int .i64 f.2.2.1, .int .i64 f.2.2.2]] w (fun e w' => e = .returned (.bool true) ∧ RowKit.Below w.heap.size w w') := by
  have q1 := hl.lenle
  have q2 := hm.lenle
  by_cases hL : (300 < t.lines.length ∧ t.lines.length ≤ 2000) ∨ 2050 < t.lines.length ∨ (300 < t.marks.length ∧ t.marks.length ≤ 2000) ∨ 2050 < t.marks.length
  case pos => exact turtleTracks_out A c B d t f w hf0 hL q1.1 q2.1
  case neg =>
  obtain ⟨W, hW⟩ : ∃ W, W = (w.alloc (.cells #[.slice A t.lines.length c, .slice B t.marks.length d, .int .u8 t.fr.1, .int .i64 t.fr.2.1, .int .i64 t.fr.2.2.1, .int .i64 t.fr.2.2.2, .int .i64 t.drawn] 31)).alloc (.cells #[.int .u8 f.1, .int .i64 f.2.1, .int .i64 f.2.2.1, .int .i64 f.2.2.2] 27) := ⟨_, rfl⟩
  have b0 : Blk W w.heap.size 31 #[.slice A t.lines.length c, .slice B t.marks.length d, .int .u8 t.fr.1, .int .i64 t.fr.2.1, .int .i64 t.fr.2.2.1, .int .i64 t.fr.2.2.2, .int .i64 t.drawn] := by rw [hW]; exact (Blk.new w _ _).alloc _
  have b1 : Blk W (w.heap.size + 1) 27 #[.int .u8 f.1, .int .i64 f.2.1, .int .i64 f.2.2.1, .int .i64 f.2.2.2] := by
    rw [hW]
    have := Blk.new (w.alloc (.cells #[.slice A t.lines.length c, .slice B t.marks.length d, .int .u8 t.fr.1, .int .i64 t.fr.2.1, .int .i64 t.fr.2.2.1, .int .i64 t.fr.2.2.2, .int .i64 t.drawn] 31)) 27 #[.int .u8 f.1, .int .i64 f.2.1, .int .i64 f.2.2.1, .int .i64 f.2.2.2]
    simpa using this
  have t0 : RowKit.Below w.heap.size w W := by rw [hW]; exact al2
  have f1 := fun W' (h : RowKit.Below w.heap.size w W') => length_calls A c B d t W' (hl.later h) (hm.later h)
  have f2 := fun W' (h : RowKit.Below w.heap.size w W') => rLength_calls A c B d t W' (hl.later h) (hm.later h)
  have f3 := fun W' (h : RowKit.Below w.heap.size w W') => hull_calls A c B d t W' (hl.later h) (hm.later h)
  have f4 := fun W' (h : RowKit.Below w.heap.size w W') => rHull_calls A c B d t W' (hl.later h) (hm.later h)
  have f5 := fun W' (h : RowKit.Below w.heap.size w W') => place_calls A c B d t f W' (hl.later h) (hm.later h) ht0 hf0
  have f6 := fun W' (h : RowKit.Below w.heap.size w W') => rPlace_calls A c B d t f W' (hl.later h) (hm.later h) ht0 hf0
  obtain ⟨r1, hr1⟩ : ∃ r, lengthT t = r := ⟨_, rfl⟩
  obtain ⟨r2, hr2⟩ : ∃ r, hullT t = r := ⟨_, rfl⟩
  obtain ⟨r3, hr3⟩ : ∃ r, placeT t f = r := ⟨_, rfl⟩
  rw [hr1] at f1 f2
  rw [hr2] at f3 f4
  rw [hr3] at f5 f6
  obtain ⟨n, en⟩ := r1
  obtain ⟨⟨lo, hi⟩, eh⟩ := r2
  obtain ⟨u, eu⟩ := r3
  unfold IntErr at f1 f2
  unfold HullErr at f3 f4
  unfold PlacePost at f5 f6
  simp only at f1 f2 f3 f4 f5 f6
  have hv1 := fun W' => eqIn_vec' 9998 lo lo W'
  have hv2 := fun W' => eqIn_vec' 9998 hi hi W'
  rw [decide_eq_true rfl] at hv1 hv2
  clear hr1 hr2 hr3 hf0 ht0
  have y0 := b0.cell 0
  have y1 := b0.cell 1
  have y2 := b0.cell 2
  have y3 := b0.cell 3
  have y4 := b0.cell 4
  have y5 := b0.cell 5
  have y6 := b0.cell 6
  have B0 := Lib.hid b0; clear b0
  have B1 := Lib.hid b1; clear b1
  have T0 := Lib.hid t0; clear t0
  have Hl := Lib.hid hl; clear hl
  have Hm := Lib.hid hm; clear hm
  have F1 := Lib.hid f1; clear f1
  have F2 := Lib.hid f2; clear f2
  have F3 := Lib.hid f3; clear f3
  have F4 := Lib.hid f4; clear f4
  have F5 := Lib.hid f5; clear f5
  have F6 := Lib.hid f6; clear f6
  have Hv1 := Lib.hid hv1; clear hv1
  have Hv2 := Lib.hid hv2; clear hv2
  rcases (show (¬ 300 < t.lines.length ∧ ¬ 2050 < t.lines.length ∧ ((¬ 300 < t.marks.length ∧ ¬ 2050 < t.marks.length) ∨ (300 < t.marks.length ∧ ¬ t.marks.length ≤ 2000 ∧ ¬ 2050 < t.marks.length))) ∨ (300 < t.lines.length ∧ ¬ t.lines.length ≤ 2000 ∧ ¬ 2050 < t.lines.length ∧ ((¬ 300 < t.marks.length ∧ ¬ 2050 < t.marks.length) ∨ (300 < t.marks.length ∧ ¬ t.marks.length ≤ 2000 ∧ ¬ 2050 < t.marks.length))) from by omega) with ⟨h1, h2, ⟨h3, h4⟩ | ⟨h3, h4, h5⟩⟩ | ⟨h1, h2, h3, ⟨h4, h5⟩ | ⟨h4, h5, h6⟩⟩
  all_goals
    clear hL
    go_enter Try.func3, Try.ntmps3
    go_wp2_with fail
    (try rw [← hW])
    have HW := Lib.hid hW; clear hW
    refine (F1.out _ T0.out).mono ?_
    rintro e w1 ⟨rfl, d1⟩
    have k0 := B0.out.same (d1.block _ B0.out.lt)
    have k1 := B1.out.same (d1.block _ B1.out.lt)
    have t1 := T0.out.trans (d1.mono T0.out.size)
    clear y0 y1 y2 y3 y4 y5 y6 d1
    have y0 := k0.cell 0
    have y1 := k0.cell 1
    have y2 := k0.cell 2
    have y3 := k0.cell 3
    have y4 := k0.cell 4
    have y5 := k0.cell 5
    have y6 := k0.cell 6
    have K0 := Lib.hid k0; clear k0
    have K1 := Lib.hid k1; clear k1
    have T1 := Lib.hid t1; clear t1
    go_wp2_with fail
    refine (F2.out _ T1.out).mono ?_
    rintro e w2 ⟨rfl, d2⟩
    have k0 := K0.out.same (d2.block _ K0.out.lt)
    have k1 := K1.out.same (d2.block _ K1.out.lt)
    have t2 := T1.out.trans (d2.mono T1.out.size)
    clear y0 y1 y2 y3 y4 y5 y6 d2 K0 K1
    have y0 := k0.cell 0
    have y1 := k0.cell 1
    have y2 := k0.cell 2
    have y3 := k0.cell 3
    have y4 := k0.cell 4
    have y5 := k0.cell 5
    have y6 := k0.cell 6
    have K0 := Lib.hid k0; clear k0
    have K1 := Lib.hid k1; clear k1
    have T2 := Lib.hid t2; clear t2
    go_wp2_with fail
    refine (F3.out _ T2.out).mono ?_
    rintro e w3 ⟨rfl, d3⟩
    have k0 := K0.out.same (d3.block _ K0.out.lt)
    have k1 := K1.out.same (d3.block _ K1.out.lt)
    have t3 := T2.out.trans (d3.mono T2.out.size)
    clear y0 y1 y2 y3 y4 y5 y6 d3 K0 K1
    obtain ⟨w4, hw4⟩ : ∃ W, W = (w3.alloc (.cells #[.int .i64 lo.1, .int .i64 lo.2.1, .int .i64 lo.2.2] 25)).alloc (.cells #[.int .i64 hi.1, .int .i64 hi.2.1, .int .i64 hi.2.2] 25) := ⟨_, rfl⟩
    obtain ⟨g9, hg9⟩ : ∃ g, g = w3.heap.size := ⟨_, rfl⟩
    have ab : RowKit.Below w3.heap.size w3 w4 := by rw [hw4]; exact al2
    have b9 : Blk w4 g9 25 #[.int .i64 lo.1, .int .i64 lo.2.1, .int .i64 lo.2.2] := by rw [hw4, hg9]; exact (Blk.new w3 _ _).alloc _
    have b10 : Blk w4 (g9 + 1) 25 #[.int .i64 hi.1, .int .i64 hi.2.1, .int .i64 hi.2.2] := by
      rw [hw4, hg9]
      have := Blk.new (w3.alloc (.cells #[.int .i64 lo.1, .int .i64 lo.2.1, .int .i64 lo.2.2] 25)) 25 #[.int .i64 hi.1, .int .i64 hi.2.1, .int .i64 hi.2.2]
      simpa using this
    have k0' := k0.same (ab.block _ k0.lt)
    have k1' := k1.same (ab.block _ k1.lt)
    have t4 : RowKit.Below w.heap.size w w4 := by rw [hw4]; exact (t3.alloc t3.size _).alloc (by have := t3.size; simp; omega) _
    clear k0 k1 t3 ab
    have y0 := k0'.cell 0
    have y1 := k0'.cell 1
    have y2 := k0'.cell 2
    have y3 := k0'.cell 3
    have y4 := k0'.cell 4
    have y5 := k0'.cell 5
    have y6 := k0'.cell 6
    have K0' := Lib.hid k0'; clear k0'
    have K1' := Lib.hid k1'; clear k1'
    have T4 := Lib.hid t4; clear t4
    have B9 := Lib.hid b9; clear b9
    have B10 := Lib.hid b10; clear b10
    go_upto_region 6 with fail
    rw [← hw4, ← hg9]
    clear hw4 hg9
    go_wp2_with fail
    refine (F4.out _ T4.out).mono ?_
    rintro e w5 ⟨rfl, d5⟩
    have k0 := K0'.out.same (d5.block _ K0'.out.lt)
    have k1 := K1'.out.same (d5.block _ K1'.out.lt)
    have b9 := B9.out.same (d5.block _ B9.out.lt)
    have b10 := B10.out.same (d5.block _ B10.out.lt)
    have t5 := T4.out.trans (d5.mono T4.out.size)
    clear y0 y1 y2 y3 y4 y5 y6 d5 K0' K1' B9 B10
    obtain ⟨w6, hw6⟩ : ∃ W, W = (w5.alloc (.cells #[.int .i64 lo.1, .int .i64 lo.2.1, .int .i64 lo.2.2] 25)).alloc (.cells #[.int .i64 hi.1, .int .i64 hi.2.1, .int .i64 hi.2.2] 25) := ⟨_, rfl⟩
    obtain ⟨g12, hg12⟩ : ∃ g, g = w5.heap.size := ⟨_, rfl⟩
    have ab : RowKit.Below w5.heap.size w5 w6 := by rw [hw6]; exact al2
    have b12 : Blk w6 g12 25 #[.int .i64 lo.1, .int .i64 lo.2.1, .int .i64 lo.2.2] := by rw [hw6, hg12]; exact (Blk.new w5 _ _).alloc _
    have b13 : Blk w6 (g12 + 1) 25 #[.int .i64 hi.1, .int .i64 hi.2.1, .int .i64 hi.2.2] := by
      rw [hw6, hg12]
      have := Blk.new (w5.alloc (.cells #[.int .i64 lo.1, .int .i64 lo.2.1, .int .i64 lo.2.2] 25)) 25 #[.int .i64 hi.1, .int .i64 hi.2.1, .int .i64 hi.2.2]
      simpa using this
    have k0' := k0.same (ab.block _ k0.lt)
    have k1' := k1.same (ab.block _ k1.lt)
    have b9' := b9.same (ab.block _ b9.lt)
    have b10' := b10.same (ab.block _ b10.lt)
    have t6 : RowKit.Below w.heap.size w w6 := by rw [hw6]; exact (t5.alloc t5.size _).alloc (by have := t5.size; simp; omega) _
    clear k0 k1 t5 b9 b10 ab
    have y0 := k0'.cell 0
    have y1 := k0'.cell 1
    have y2 := k0'.cell 2
    have y3 := k0'.cell 3
    have y4 := k0'.cell 4
    have y5 := k0'.cell 5
    have y6 := k0'.cell 6
    have x0 := k1'.cell 0
    have x1 := k1'.cell 1
    have x2 := k1'.cell 2
    have x3 := k1'.cell 3
    have K0' := Lib.hid k0'; clear k0'
    have K1' := Lib.hid k1'; clear k1'
    have T6 := Lib.hid t6; clear t6
    have B9' := Lib.hid b9'; clear b9'
    have B10' := Lib.hid b10'; clear b10'
    have B12 := Lib.hid b12; clear b12
    have B13 := Lib.hid b13; clear b13
    go_upto_region 7 with fail
    rw [← hw6, ← hg12]
    clear hw6 hg12
    go_wp2_with fail
    refine (F5.out _ T6.out).mono ?_
    rintro e w7 ⟨A1, c1, B1, d1, rfl, s1, s2, d7⟩
    have k0 := K0'.out.same (d7.block _ K0'.out.lt)
    have k1 := K1'.out.same (d7.block _ K1'.out.lt)
    have b9 := B9'.out.same (d7.block _ B9'.out.lt)
    have b10 := B10'.out.same (d7.block _ B10'.out.lt)
    have b12 := B12.out.same (d7.block _ B12.out.lt)
    have b13 := B13.out.same (d7.block _ B13.out.lt)
    have t7 := T6.out.trans (d7.mono T6.out.size)
    clear y0 y1 y2 y3 y4 y5 y6 x0 x1 x2 x3 d7 K0' K1' B9' B10' B12 B13
    obtain ⟨w8, hw8⟩ : ∃ W, W = w7.alloc (.cells #[.slice A1 u.lines.length c1, .slice B1 u.marks.length d1, .int .u8 u.fr.1, .int .i64 u.fr.2.1, .int .i64 u.fr.2.2.1, .int .i64 u.fr.2.2.2, .int .i64 u.drawn] 31) := ⟨_, rfl⟩
    obtain ⟨g15, hg15⟩ : ∃ g, g = w7.heap.size := ⟨_, rfl⟩
    have b15 : Blk w8 g15 31 #[.slice A1 u.lines.length c1, .slice B1 u.marks.length d1, .int .u8 u.fr.1, .int .i64 u.fr.2.1, .int .i64 u.fr.2.2.1, .int .i64 u.fr.2.2.2, .int .i64 u.drawn] := by rw [hw8, hg15]; exact Blk.new w7 _ _
    have ab : RowKit.Below w7.heap.size w7 w8 := by rw [hw8]; exact al1
    have s1' := s1.later ab
    have s2' := s2.later ab
    have k0' := k0.same (ab.block _ k0.lt)
    have k1' := k1.same (ab.block _ k1.lt)
    have b9' := b9.same (ab.block _ b9.lt)
    have b10' := b10.same (ab.block _ b10.lt)
    have b12' := b12.same (ab.block _ b12.lt)
    have b13' := b13.same (ab.block _ b13.lt)
    have t8 : RowKit.Below w.heap.size w w8 := by rw [hw8]; exact t7.alloc t7.size _
    clear k0 k1 t7 b9 b10 b12 b13 s1 s2 ab
    have y0 := k0'.cell 0
    have y1 := k0'.cell 1
    have y2 := k0'.cell 2
    have y3 := k0'.cell 3
    have y4 := k0'.cell 4
    have y5 := k0'.cell 5
    have y6 := k0'.cell 6
    have x0 := k1'.cell 0
    have x1 := k1'.cell 1
    have x2 := k1'.cell 2
    have x3 := k1'.cell 3
    have K0' := Lib.hid k0'; clear k0'
    have K1' := Lib.hid k1'; clear k1'
    have T8 := Lib.hid t8; clear t8
    have B9' := Lib.hid b9'; clear b9'
    have B10' := Lib.hid b10'; clear b10'
    have B12' := Lib.hid b12'; clear b12'
    have B13' := Lib.hid b13'; clear b13'
    have B15 := Lib.hid b15; clear b15
    have S1' := Lib.hid s1'; clear s1'
    have S2' := Lib.hid s2'; clear s2'
    go_upto_region 8 with fail
    rw [← hw8, ← hg15]
    clear hw8 hg15
    go_wp2_with fail
    refine (F6.out _ T8.out).mono ?_
    rintro e w9 ⟨A2, c2, B2, d2, rfl, s3, s4, d9⟩
    have b9 := B9'.out.same (d9.block _ B9'.out.lt)
    have b10 := B10'.out.same (d9.block _ B10'.out.lt)
    have b12 := B12'.out.same (d9.block _ B12'.out.lt)
    have b13 := B13'.out.same (d9.block _ B13'.out.lt)
    have b15 := B15.out.same (d9.block _ B15.out.lt)
    have s1 := S1'.out.later d9
    have s2 := S2'.out.later d9
    have t9 := T8.out.trans (d9.mono T8.out.size)
    clear y0 y1 y2 y3 y4 y5 y6 x0 x1 x2 x3 d9 K0' K1' B9' B10' B12' B13' B15
    obtain ⟨w10, hw10⟩ : ∃ W, W = w9.alloc (.cells #[.slice A2 u.lines.length c2, .slice B2 u.marks.length d2, .int .u8 u.fr.1, .int .i64 u.fr.2.1, .int .i64 u.fr.2.2.1, .int .i64 u.fr.2.2.2, .int .i64 u.drawn] 31) := ⟨_, rfl⟩
    obtain ⟨g17, hg17⟩ : ∃ g, g = w9.heap.size := ⟨_, rfl⟩
    have b17 : Blk w10 g17 31 #[.slice A2 u.lines.length c2, .slice B2 u.marks.length d2, .int .u8 u.fr.1, .int .i64 u.fr.2.1, .int .i64 u.fr.2.2.1, .int .i64 u.fr.2.2.2, .int .i64 u.drawn] := by rw [hw10, hg17]; exact Blk.new w9 _ _
    have ab : RowKit.Below w9.heap.size w9 w10 := by rw [hw10]; exact al1
    have ps := rTSame_calls A1 c1 B1 d1 u A2 c2 B2 d2 u w10 (s1.later ab) (s2.later ab) (s3.later ab) (s4.later ab)
    rw [decide_eq_true rfl] at ps
    have b9' := b9.same (ab.block _ b9.lt)
    have b10' := b10.same (ab.block _ b10.lt)
    have b12' := b12.same (ab.block _ b12.lt)
    have b13' := b13.same (ab.block _ b13.lt)
    have b15' := b15.same (ab.block _ b15.lt)
    have t10 : RowKit.Below w.heap.size w w10 := by rw [hw10]; exact t9.alloc t9.size _
    clear t9 b9 b10 b12 b13 b15 s1 s2 s3 s4 ab
    have Ps := Lib.hid ps; clear ps
    have T10 := Lib.hid t10; clear t10
    have B9' := Lib.hid b9'; clear b9'
    have B10' := Lib.hid b10'; clear b10'
    have B12' := Lib.hid b12'; clear b12'
    have B13' := Lib.hid b13'; clear b13'
    have B15' := Lib.hid b15'; clear b15'
    have B17 := Lib.hid b17; clear b17
    go_upto_region 9 with fail
    rw [← hw10, ← hg17]
    clear hw10 hg17
    have y0 := B9'.out.cell 0
    have y1 := B9'.out.cell 1
    have y2 := B9'.out.cell 2
    have y3 := B10'.out.cell 0
    have y4 := B10'.out.cell 1
    have y5 := B10'.out.cell 2
    have x0 := B12'.out.cell 0
    have x1 := B12'.out.cell 1
    have x2 := B12'.out.cell 2
    have x3 := B13'.out.cell 0
    have x4 := B13'.out.cell 1
    have x5 := B13'.out.cell 2
    have z0 := B15'.out.cell 0
    have z1 := B15'.out.cell 1
    have z2 := B15'.out.cell 2
    have z3 := B15'.out.cell 3
    have z4 := B15'.out.cell 4
    have z5 := B15'.out.cell 5
    have z6 := B15'.out.cell 6
    have v0 := B17.out.cell 0
    have v1 := B17.out.cell 1
    have v2 := B17.out.cell 2
    have v3 := B17.out.cell 3
    have v4 := B17.out.cell 4
    have v5 := B17.out.cell 5
    have v6 := B17.out.cell 6
    have hv1 := Hv1.out
    have hv2 := Hv2.out
    go_wp2_with fail
    refine Ps.out.mono ?_
    rintro e w11 ⟨rfl, d11⟩
    have t11 := T10.out.trans (d11.mono T10.out.size)
    clear y0 y1 y2 y3 y4 y5 x0 x1 x2 x3 x4 x5 z0 z1 z2 z3 z4 z5 z6 v0 v1 v2 v3 v4 v5 v6 hv1 hv2
    have T11 := Lib.hid t11; clear t11
    clear d11
    go_wp2
    go_ret
    exact ⟨rfl, T11.out⟩
end Go.Proofs.Ytldccpmnboebmaa
