/-
  TurtlePlaces, the walk of the law: it returns true.
-/
import Derived.Test.YtldccpmnboebmaaDoorBb
import Derived.Test.YtldccpmnboebmaaDoorAc
import Derived.Test.YtldccpmnboebmaaDoorVw
import Derived.Test.YtldccpmnboebmaaDoorVm
import Derived.Test.YtldccpmnboebmaaDoorVy
namespace Go.Proofs.YtldccpmnboebmaaDoor
open Go.RowKit Go.Sort
set_option linter.unusedVariables false

/-- the law, told of the values -/
theorem place_cases {ms : List Mod} {t : Tur} {f : Fr} (hw : checkF ms = 0) (h : FitT t (0, 0)) (ht0 : 0 ≤ t.1.1) (hf : checkFr f = 0) (hf0 : 0 ≤ f.1) {x : Trk} {e : Int} (h1 : runT ms t (0, 0) = (x, e)) {g : Fr} {k : Int} (h2 : withinF t.1 f = (g, k)) {y : Trk} {i : Int} (h3 : runT ms (g, t.2) (0, 0) = (y, i)) {z : Trk} {j : Int} (h4 : placeT x f = (z, j)) :
    (e = 16 ∧ (k = 0 ∨ k = 16)) ∨ (e = 0 ∧ k = 16) ∨ (e = 0 ∧ k = 0 ∧ Fits .u8 g.1 ∧ Fits .u8 x.fr.1 ∧ ((i = 16 ∧ (j = 0 ∨ j = 16)) ∨ (i = 0 ∧ j = 16) ∨ (i = 0 ∧ j = 0 ∧ Hid (z = y) ∧ ∃ L : Int, Hid (lengthT x = (L, 0)) ∧ Hid (lengthT z = (L, 0))))) := by
  have ke : k = 0 ∨ k = 16 := by
    have h5 : checkFr t.1 = 0 := h.1
    unfold withinF at h2
    rw [if_pos h5, if_pos hf] at h2
    split at h2
    · exact .inl (Prod.mk.inj h2).2.symm
    · exact .inr (Prod.mk.inj h2).2.symm
  by_cases he : e = 0
  · rcases ke with hk | hk
    · have h0 : (runT ms t (0, 0)).2 = 0 := by rw [h1]; exact he
      have hg : (withinF t.1 f).2 = 0 := by rw [h2]; exact hk
      obtain ⟨p1, p2, p3, p4⟩ := place_law hw h ht0 hf hf0 h0 hg
      simp only [h1, h2, h4, h3] at p1 p2 p3 p4
      have hgu : Fits .u8 g.1 := fits_u8 ⟨p2, by have := (checkFr_ok p1.1).1; simp only at this; omega⟩
      obtain ⟨s, hr, es⟩ := run_some (b := (0, 0)) hw h (by rw [h1]; exact he)
      have hxu : Fits .u8 x.fr.1 := by
        have g := (runF_ok ⟨by decide, by decide⟩ (fit_good (b := (0, 0)) h ht0).ok hr).cur
        have := (Prod.mk.inj (h1.symm.trans es)).1
        rw [this]
        exact fits_u8 ⟨g.lo, by have := (checkFr_ok g.ck).1; show s.cur.1.1 ≤ 255; omega⟩
      refine .inr (.inr ⟨he, hk, hgu, hxu, ?_⟩)
      have ie := runT_err (b := (0, 0)) hw p1
      rw [h3] at ie
      by_cases hi : i = 0
      · rcases p3 with hj | hj
        · obtain ⟨q1, q2, q3⟩ := p4 hi hj
          exact .inr (.inr ⟨hi, hj, q1, _, q2, q3⟩)
        · exact .inr (.inl ⟨hi, hj⟩)
      · exact .inl ⟨ie.resolve_left hi, p3⟩
    · exact .inr (.inl ⟨he, hk⟩)
  · have := runT_err (b := (0, 0)) hw h
    rw [h1] at this
    exact .inl ⟨this.resolve_left he, ke⟩

set_option maxRecDepth 100000 in
set_option maxHeartbeats 8000000 in
theorem turtlePlaces_walk (A : Option Addr) (c : Nat) (ms : List Mod) (t : Tur) (f : Fr) (w : World) (h : SlAt pMod (Old w) w A c ms) (ht0 : Fits .u8 t.1.1) (hf0 : 0 ≤ f.1) (hL : LibAt w) : Calls Tryd.prog 7 #[.slice A ms.length c, .agg #[.int .u8 t.1.1, .int .i64 t.1.2.1, .int .i64 t.1.2.2.1, .int .i64 t.1.2.2.2, .int .i64 t.2], .agg #[.int .u8 f.1, .int .i64 f.2.1, .int .i64 f.2.2.1, .int .i64 f.2.2.2]] w (OkPost w) := by
  have q1 := h.lenle
  obtain ⟨W, hW⟩ : ∃ W, W = (w.alloc (.cells #[.int .u8 t.1.1, .int .i64 t.1.2.1, .int .i64 t.1.2.2.1, .int .i64 t.1.2.2.2, .int .i64 t.2] 28)).alloc (.cells #[.int .u8 f.1, .int .i64 f.2.1, .int .i64 f.2.2.1, .int .i64 f.2.2.2] 26) := ⟨_, rfl⟩
  have b0 : Blk W w.heap.size 28 #[.int .u8 t.1.1, .int .i64 t.1.2.1, .int .i64 t.1.2.2.1, .int .i64 t.1.2.2.2, .int .i64 t.2] := by rw [hW]; exact (Blk.new w _ _).alloc _
  have b1 : Blk W (w.heap.size + 1) 26 #[.int .u8 f.1, .int .i64 f.2.1, .int .i64 f.2.2.1, .int .i64 f.2.2.2] := by
    rw [hW]
    have := Blk.new (w.alloc (.cells #[.int .u8 t.1.1, .int .i64 t.1.2.1, .int .i64 t.1.2.2.1, .int .i64 t.1.2.2.2, .int .i64 t.2] 28)) 26 #[.int .u8 f.1, .int .i64 f.2.1, .int .i64 f.2.2.1, .int .i64 f.2.2.2]
    simpa using this
  have t0 : RowKit.Below w.heap.size w W := by rw [hW]; exact al2
  have al := alive_calls W (hL.later t0)
  have B0 := Lib.hid b0; clear b0
  have B1 := Lib.hid b1; clear b1
  have T0 := Lib.hid t0; clear t0
  have H := Lib.hid h; clear h
  have Al := Lib.hid al; clear al
  have HL := Lib.hid hL; clear hL
  go_enter Tryd.func7, Tryd.ntmps7
  go_wp2_with fail
  (try rw [← hW])
  clear hW
  refine Al.out.mono ?_
  rintro e w1 ⟨rfl, d1⟩
  have k0 := B0.out.same (d1.block _ B0.out.lt)
  have k1 := B1.out.same (d1.block _ B1.out.lt)
  have tB := T0.out.trans (d1.mono T0.out.size)
  clear d1
  have y0 := k0.cell 0
  have y1 := k0.cell 1
  have y2 := k0.cell 2
  have y3 := k0.cell 3
  have y4 := k0.cell 4
  have x0 := k1.cell 0
  have x1 := k1.cell 1
  have x2 := k1.cell 2
  have x3 := k1.cell 3

  have cf := fit_calls A c ms t (0, 0) w1 (H.out.later tB)
  obtain ⟨z1, hz1⟩ : ∃ z, fitB ms t (0, 0) = z := ⟨_, rfl⟩
  rw [hz1] at cf
  have K0 := Lib.hid k0; clear k0
  have K1 := Lib.hid k1; clear k1
  have TB := Lib.hid tB; clear tB
  have Cf := Lib.hid cf; clear cf
  have Hz1 := Lib.hid hz1; clear hz1
  go_wp2_with fail
  refine Cf.out.mono ?_
  rintro e w2 ⟨rfl, d1⟩
  have k0 := K0.out.same (d1.block _ K0.out.lt)
  have k1 := K1.out.same (d1.block _ K1.out.lt)
  have tB := TB.out.trans (d1.mono TB.out.size)
  clear d1 y0 y1 y2 y3 y4 x0 x1 x2 x3
  cases z1
  case false =>
    have TB := Lib.hid tB; clear tB
    go_wp2
    go_ret
    exact ⟨rfl, TB.out⟩
  case true =>
  have y0 := k0.cell 0
  have y1 := k0.cell 1
  have y2 := k0.cell 2
  have y3 := k0.cell 3
  have y4 := k0.cell 4
  have x0 := k1.cell 0
  have x1 := k1.cell 1
  have x2 := k1.cell 2
  have x3 := k1.cell 3

  have cf := rFCheck_calls f w2
  unfold IntPost at cf
  by_cases hcf : checkFr f = 0
  case neg =>
    have e2 : (checkFr f != 0) = true := by simpa using hcf
    have K0 := Lib.hid k0; clear k0
    have K1 := Lib.hid k1; clear k1
    have TB := Lib.hid tB; clear tB
    have Cf := Lib.hid cf; clear cf
    have Hcf := Lib.hid hcf; clear hcf
    go_wp2_with fail
    refine Cf.out.mono ?_
    rintro e w3 ⟨rfl, d1⟩
    have tB := TB.out.trans (d1.mono TB.out.size)
    clear d1 y0 y1 y2 y3 y4 x0 x1 x2 x3
    have TB := Lib.hid tB; clear tB
    go_wp2
    go_ret
    exact ⟨rfl, TB.out⟩
  case pos =>
  rw [hcf] at cf
  obtain ⟨lv, cv, fv⟩ := fitB_yes Hz1.out
  obtain ⟨⟨x, e1⟩, hx⟩ : ∃ r, runT ms t (0, 0) = r := ⟨_, rfl⟩
  obtain ⟨⟨g, k⟩, hg⟩ : ∃ r, withinF t.1 f = r := ⟨_, rfl⟩
  obtain ⟨⟨y, i⟩, hy⟩ : ∃ r, runT ms (g, t.2) (0, 0) = r := ⟨_, rfl⟩
  obtain ⟨⟨z, j⟩, hz⟩ : ∃ r, placeT x f = r := ⟨_, rfl⟩
  have law := place_cases cv fv ht0.u8.1 hcf hf0 hx hg hy hz
  have K0 := Lib.hid k0; clear k0
  have K1 := Lib.hid k1; clear k1
  have TB := Lib.hid tB; clear tB
  have Cf := Lib.hid cf; clear cf
  have Hx := Lib.hid hx; clear hx
  have Hg := Lib.hid hg; clear hg
  have Hy := Lib.hid hy; clear hy
  have Hz := Lib.hid hz; clear hz
  have Law := Lib.hid law; clear law
  have Cv := Lib.hid cv; clear cv
  have Fv := Lib.hid fv; clear fv
  have Hcf := Lib.hid hcf; clear hcf
  go_wp2_with fail
  refine Cf.out.mono ?_
  rintro e w3 ⟨rfl, d1⟩
  have k0 := K0.out.same (d1.block _ K0.out.lt)
  have k1 := K1.out.same (d1.block _ K1.out.lt)
  have tB := TB.out.trans (d1.mono TB.out.size)
  clear d1 y0 y1 y2 y3 y4 x0 x1 x2 x3
  have y0 := k0.cell 0
  have y1 := k0.cell 1
  have y2 := k0.cell 2
  have y3 := k0.cell 3
  have y4 := k0.cell 4
  have x0 := k1.cell 0
  have x1 := k1.cell 1
  have x2 := k1.cell 2
  have x3 := k1.cell 3
  have cr := run_fresh A c ms t (0, 0) w3 (H.out.later tB) ht0 (by decide)
  unfold FreshPost at cr
  rw [Hx.out] at cr
  simp only at cr
  have K0 := Lib.hid k0; clear k0
  have K1 := Lib.hid k1; clear k1
  have TB := Lib.hid tB; clear tB
  have Cr := Lib.hid cr; clear cr
  go_wp2_with fail
  refine Cr.out.mono ?_
  rintro e w4 ⟨A3, c3, B3, p3, rfl, sl, sm, dd⟩
  obtain ⟨w5, hw⟩ : ∃ W, W = w4.alloc (.cells #[.slice A3 x.lines.length c3, .slice B3 x.marks.length p3, .int .u8 x.fr.1, .int .i64 x.fr.2.1, .int .i64 x.fr.2.2.1, .int .i64 x.fr.2.2.2, .int .i64 x.drawn] 36) := ⟨_, rfl⟩
  obtain ⟨g8, hg⟩ : ∃ k, k = w4.heap.size := ⟨_, rfl⟩
  have ng8 : Blk w5 g8 36 #[.slice A3 x.lines.length c3, .slice B3 x.marks.length p3, .int .u8 x.fr.1, .int .i64 x.fr.2.1, .int .i64 x.fr.2.2.1, .int .i64 x.fr.2.2.2, .int .i64 x.drawn] := by rw [hw, hg]; exact Blk.new w4 _ _
  have d2 : RowKit.Below w4.heap.size w4 w5 := by rw [hw]; exact al1
  have d3 := dd.trans (d2.mono dd.size)
  have k0 := K0.out.same (d3.block _ K0.out.lt)
  have k1 := K1.out.same (d3.block _ K1.out.lt)
  have tB := TB.out.trans (d3.mono TB.out.size)
  have slg8 := (sl.wide (F' := Old w4) fun k hk => hk.2).later d2
  have smg8 := (sm.wide (F' := Old w4) fun k hk => hk.2).later d2
  clear y0 y1 y2 y3 y4 x0 x1 x2 x3 sl sm dd d2 d3
  have Ng8 := Lib.hid ng8; clear ng8
  have Slg8 := Lib.hid slg8; clear slg8
  have Smg8 := Lib.hid smg8; clear smg8
  have y0 := k0.cell 0
  have y1 := k0.cell 1
  have y2 := k0.cell 2
  have y3 := k0.cell 3
  have y4 := k0.cell 4
  have x0 := k1.cell 0
  have x1 := k1.cell 1
  have x2 := k1.cell 2
  have x3 := k1.cell 3
  have K0 := Lib.hid k0; clear k0
  have K1 := Lib.hid k1; clear k1
  have TB := Lib.hid tB; clear tB

  go_upto_region 5 with fail
  (try rw [← hw, ← hg])
  clear hw hg
  have cw := withinE_calls t.1 f w5 ht0.u8.1 hf0
  unfold FrErr at cw
  rw [Hg.out] at cw
  simp only at cw
  have Cw := Lib.hid cw; clear cw
  go_wp2_with fail
  refine Cw.out.mono ?_
  rintro e w6 ⟨rfl, d1⟩
  obtain ⟨w7, hw⟩ : ∃ W, W = w6.alloc (.cells #[.int .u8 g.1, .int .i64 g.2.1, .int .i64 g.2.2.1, .int .i64 g.2.2.2] 26) := ⟨_, rfl⟩
  obtain ⟨g10, hg10⟩ : ∃ k, k = w6.heap.size := ⟨_, rfl⟩
  have n10 : Blk w7 g10 26 #[.int .u8 g.1, .int .i64 g.2.1, .int .i64 g.2.2.1, .int .i64 g.2.2.2] := by rw [hw, hg10]; exact Blk.new w6 _ _
  have d2 : RowKit.Below w6.heap.size w6 w7 := by rw [hw]; exact al1
  have d3 := d1.trans (d2.mono d1.size)
  have k0 := K0.out.same (d3.block _ K0.out.lt)
  have k1 := K1.out.same (d3.block _ K1.out.lt)
  have tB := TB.out.trans (d3.mono TB.out.size)
  have slg8 := Slg8.out.later d3
  have smg8 := Smg8.out.later d3
  have ng8 := Ng8.out.same (d3.block _ Ng8.out.lt)
  clear y0 y1 y2 y3 y4 x0 x1 x2 x3 d1 d2 d3
  have y0 := k0.cell 0
  have y1 := k0.cell 1
  have y2 := k0.cell 2
  have y3 := k0.cell 3
  have y4 := k0.cell 4
  have x0 := k1.cell 0
  have x1 := k1.cell 1
  have x2 := k1.cell 2
  have x3 := k1.cell 3
  have N10 := Lib.hid n10; clear n10
  have Slg8 := Lib.hid slg8; clear slg8
  have Smg8 := Lib.hid smg8; clear smg8
  have Ng8 := Lib.hid ng8; clear ng8
  have K0 := Lib.hid k0; clear k0
  have K1 := Lib.hid k1; clear k1
  have TB := Lib.hid tB; clear tB
  go_upto_region 6 with fail
  (try rw [← hw, ← hg10])
  clear hw hg10
  rcases Law.out with ⟨rfl, rfl | rfl⟩ | ⟨rfl, rfl⟩ | ⟨rfl, rfl, hgu, hxu, law2⟩
  · go_wp2
    go_ret
    exact ⟨rfl, TB.out⟩
  · go_wp2
    go_ret
    exact ⟨rfl, TB.out⟩
  · go_wp2
    go_ret
    exact ⟨rfl, TB.out⟩
  have f0 := N10.out.cell 0
  have f1 := N10.out.cell 1
  have f2 := N10.out.cell 2
  have f3 := N10.out.cell 3
  have k0 := K0.out
  have k1 := K1.out
  have tB := TB.out
  have Law2 := Lib.hid law2; clear law2
  have cr := run_fresh A c ms (g, t.2) (0, 0) w7 (H.out.later tB) hgu (by decide)
  unfold FreshPost at cr
  rw [Hy.out] at cr
  simp only at cr
  have K0 := Lib.hid k0; clear k0
  have K1 := Lib.hid k1; clear k1
  have TB := Lib.hid tB; clear tB
  have Cr := Lib.hid cr; clear cr
  go_wp2_with fail
  refine Cr.out.mono ?_
  rintro e w8 ⟨A7, c7, B7, p7, rfl, sl, sm, dd⟩
  obtain ⟨w9, hw⟩ : ∃ W, W = w8.alloc (.cells #[.slice A7 y.lines.length c7, .slice B7 y.marks.length p7, .int .u8 y.fr.1, .int .i64 y.fr.2.1, .int .i64 y.fr.2.2.1, .int .i64 y.fr.2.2.2, .int .i64 y.drawn] 36) := ⟨_, rfl⟩
  obtain ⟨g12, hg⟩ : ∃ k, k = w8.heap.size := ⟨_, rfl⟩
  have ng12 : Blk w9 g12 36 #[.slice A7 y.lines.length c7, .slice B7 y.marks.length p7, .int .u8 y.fr.1, .int .i64 y.fr.2.1, .int .i64 y.fr.2.2.1, .int .i64 y.fr.2.2.2, .int .i64 y.drawn] := by rw [hw, hg]; exact Blk.new w8 _ _
  have d2 : RowKit.Below w8.heap.size w8 w9 := by rw [hw]; exact al1
  have d3 := dd.trans (d2.mono dd.size)
  have k0 := K0.out.same (d3.block _ K0.out.lt)
  have k1 := K1.out.same (d3.block _ K1.out.lt)
  have tB := TB.out.trans (d3.mono TB.out.size)
  have slg12 := (sl.wide (F' := Old w8) fun k hk => hk.2).later d2
  have smg12 := (sm.wide (F' := Old w8) fun k hk => hk.2).later d2
  have ng8 := Ng8.out.same (d3.block _ Ng8.out.lt)
  have slg8 := Slg8.out.later d3
  have smg8 := Smg8.out.later d3
  clear y0 y1 y2 y3 y4 x0 x1 x2 x3 f0 f1 f2 f3 sl sm dd d2 d3
  have Ng12 := Lib.hid ng12; clear ng12
  have Slg12 := Lib.hid slg12; clear slg12
  have Smg12 := Lib.hid smg12; clear smg12
  have Ng8 := Lib.hid ng8; clear ng8
  have Slg8 := Lib.hid slg8; clear slg8
  have Smg8 := Lib.hid smg8; clear smg8
  have y0 := k0.cell 0
  have y1 := k0.cell 1
  have y2 := k0.cell 2
  have y3 := k0.cell 3
  have y4 := k0.cell 4
  have x0 := k1.cell 0
  have x1 := k1.cell 1
  have x2 := k1.cell 2
  have x3 := k1.cell 3
  have K0 := Lib.hid k0; clear k0
  have K1 := Lib.hid k1; clear k1
  have TB := Lib.hid tB; clear tB

  go_upto_region 9 with fail
  (try rw [← hw, ← hg])
  clear hw hg y0 y1 y2 y3 y4
  have a0 := Ng8.out.cell 0
  have a1 := Ng8.out.cell 1
  have a2 := Ng8.out.cell 2
  have a3 := Ng8.out.cell 3
  have a4 := Ng8.out.cell 4
  have a5 := Ng8.out.cell 5
  have a6 := Ng8.out.cell 6
  have cp := place_calls A3 c3 B3 p3 x f w9 Slg8.out Smg8.out hxu hf0
  unfold PlacePost at cp
  rw [Hz.out] at cp
  simp only at cp
  have Cp := Lib.hid cp; clear cp
  go_wp2_with fail
  refine Cp.out.mono ?_
  rintro e w10 ⟨A10, c10, B10, p10, rfl, sl, sm, dd⟩
  obtain ⟨w11, hw⟩ : ∃ W, W = w10.alloc (.cells #[.slice A10 z.lines.length c10, .slice B10 z.marks.length p10, .int .u8 z.fr.1, .int .i64 z.fr.2.1, .int .i64 z.fr.2.2.1, .int .i64 z.fr.2.2.2, .int .i64 z.drawn] 36) := ⟨_, rfl⟩
  obtain ⟨g14, hg⟩ : ∃ k, k = w10.heap.size := ⟨_, rfl⟩
  have n14 : Blk w11 g14 36 #[.slice A10 z.lines.length c10, .slice B10 z.marks.length p10, .int .u8 z.fr.1, .int .i64 z.fr.2.1, .int .i64 z.fr.2.2.1, .int .i64 z.fr.2.2.2, .int .i64 z.drawn] := by rw [hw, hg]; exact Blk.new w10 _ _
  have d2 : RowKit.Below w10.heap.size w10 w11 := by rw [hw]; exact al1
  have d3 := dd.trans (d2.mono dd.size)
  have tB := TB.out.trans (d3.mono TB.out.size)
  have sl14 := sl.later d2
  have sm14 := sm.later d2
  have n8 := Ng8.out.same (d3.block _ Ng8.out.lt)
  have n12 := Ng12.out.same (d3.block _ Ng12.out.lt)
  have sl8 := Slg8.out.later d3
  have sm8 := Smg8.out.later d3
  have sl12 := Slg12.out.later d3
  have sm12 := Smg12.out.later d3
  clear a0 a1 a2 a3 a4 a5 a6 x0 x1 x2 x3 sl sm dd d2 d3
  have N8 := Lib.hid n8; clear n8
  have N12 := Lib.hid n12; clear n12
  have N14 := Lib.hid n14; clear n14
  have Sl8 := Lib.hid sl8; clear sl8
  have Sm8 := Lib.hid sm8; clear sm8
  have Sl12 := Lib.hid sl12; clear sl12
  have Sm12 := Lib.hid sm12; clear sm12
  have Sl14 := Lib.hid sl14; clear sl14
  have Sm14 := Lib.hid sm14; clear sm14
  have TB := Lib.hid tB; clear tB
  go_upto_region 10 with fail
  (try rw [← hw, ← hg])
  clear hw hg
  rcases Law2.out with ⟨rfl, rfl | rfl⟩ | ⟨rfl, rfl⟩ | ⟨rfl, rfl, hzy, L, hL1, hL2⟩
  · go_wp2
    go_ret
    exact ⟨rfl, TB.out⟩
  · go_wp2
    go_ret
    exact ⟨rfl, TB.out⟩
  · go_wp2
    go_ret
    exact ⟨rfl, TB.out⟩
  have a0 := N8.out.cell 0
  have a1 := N8.out.cell 1
  have a2 := N8.out.cell 2
  have a3 := N8.out.cell 3
  have a4 := N8.out.cell 4
  have a5 := N8.out.cell 5
  have a6 := N8.out.cell 6
  have cl := length_calls A3 c3 B3 p3 x w11 Sl8.out Sm8.out
  unfold IntErr at cl
  rw [hL1.out] at cl
  simp only at cl
  have Cl := Lib.hid cl; clear cl
  go_wp2_with fail
  refine Cl.out.mono ?_
  rintro e w12 ⟨rfl, d1⟩
  have n14 := N14.out.same (d1.block _ N14.out.lt)
  have n12 := N12.out.same (d1.block _ N12.out.lt)
  have tB := TB.out.trans (d1.mono TB.out.size)
  have sl12 := Sl12.out.later d1
  have sm12 := Sm12.out.later d1
  have sl14 := Sl14.out.later d1
  have sm14 := Sm14.out.later d1
  clear a0 a1 a2 a3 a4 a5 a6 d1
  have a0 := n14.cell 0
  have a1 := n14.cell 1
  have a2 := n14.cell 2
  have a3 := n14.cell 3
  have a4 := n14.cell 4
  have a5 := n14.cell 5
  have a6 := n14.cell 6
  have cl := length_calls A10 c10 B10 p10 z w12 sl14 sm14
  unfold IntErr at cl
  rw [hL2.out] at cl
  simp only at cl
  have Cl := Lib.hid cl; clear cl
  have N12 := Lib.hid n12; clear n12
  have N14 := Lib.hid n14; clear n14
  have Sl12 := Lib.hid sl12; clear sl12
  have Sm12 := Lib.hid sm12; clear sm12
  have Sl14 := Lib.hid sl14; clear sl14
  have Sm14 := Lib.hid sm14; clear sm14
  have TB := Lib.hid tB; clear tB
  go_wp2_with fail
  refine Cl.out.mono ?_
  rintro e w13 ⟨rfl, d1⟩
  have n14 := N14.out.same (d1.block _ N14.out.lt)
  have n12 := N12.out.same (d1.block _ N12.out.lt)
  have tB := TB.out.trans (d1.mono TB.out.size)
  have cs := rTSame_calls A7 c7 B7 p7 y A10 c10 B10 p10 z w13 (Sl12.out.later d1) (Sm12.out.later d1) (Sl14.out.later d1) (Sm14.out.later d1)
  rw [decide_eq_true hzy.out.symm] at cs
  clear a0 a1 a2 a3 a4 a5 a6 d1
  have a0 := n12.cell 0
  have a1 := n12.cell 1
  have a2 := n12.cell 2
  have a3 := n12.cell 3
  have a4 := n12.cell 4
  have a5 := n12.cell 5
  have a6 := n12.cell 6
  have b0 := n14.cell 0
  have b1 := n14.cell 1
  have b2 := n14.cell 2
  have b3 := n14.cell 3
  have b4 := n14.cell 4
  have b5 := n14.cell 5
  have b6 := n14.cell 6
  have Cs := Lib.hid cs; clear cs
  have N12 := Lib.hid n12; clear n12
  have N14 := Lib.hid n14; clear n14
  have TB := Lib.hid tB; clear tB
  clear hL1 hL2 hzy
  go_wp2_with fail
  refine Cs.out.mono ?_
  rintro e w14 ⟨rfl, d7⟩
  have tB := TB.out.trans (d7.mono TB.out.size)
  clear a0 a1 a2 a3 a4 a5 a6 b0 b1 b2 b3 b4 b5 b6 d7
  have TB := Lib.hid tB; clear tB
  go_wp2
  go_ret
  exact ⟨by simp, TB.out⟩
end Go.Proofs.YtldccpmnboebmaaDoor
