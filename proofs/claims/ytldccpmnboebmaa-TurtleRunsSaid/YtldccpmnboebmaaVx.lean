/-
  Layer 17: the walk of the reference's Place.
-/
import Derived.Test.YtldccpmnboebmaaVv
import Derived.Test.YtldccpmnboebmaaLs
import Derived.Test.YtldccpmnboebmaaLp
namespace Go.Proofs.Ytldccpmnboebmaa
open Go.RowKit Go.Sort
set_option linter.unusedVariables false

theorem rImage_at (f : Fr) (hf0 : 0 ≤ f.1) (hck : checkFr f = 0) (v : V3) (w : World) (hv : inV (-1000000) v = true) : Calls Try.prog 25 #[.agg #[.int .u8 f.1, .int .i64 f.2.1, .int .i64 f.2.2.1, .int .i64 f.2.2.2], .agg #[.int .i64 v.1, .int .i64 v.2.1, .int .i64 v.2.2]] w (VecPost (imageF f v) w) := by
  obtain ⟨h1, h2⟩ := checkFr_ok hck
  obtain ⟨t, a⟩ := f
  simp only at hf0 h1 h2
  obtain ⟨n, rfl⟩ := Int.eq_ofNat_of_zero_le hf0
  exact rImage_calls n (by omega) a v w (in_small h2) (in_small hv)
theorem alloc_lines (l : List Al) (h : ∀ x ∈ l, x.ty = 58 ∧ x.cs = #[.int .i64 0, .int .i64 0, .int .i64 0, .int .i64 0, .int .i64 0, .int .i64 0, .int .i64 0]) : FltRun Try.prog l := by
  intro x hx ev o ho w
  obtain ⟨h1, h2⟩ := h x hx
  rw [h1] at ho ⊢
  rw [h2]
  obtain ⟨dst, op, tt, ps, af, gd⟩ := o
  simp only at ho
  subst ho
  show (execOp ev _).run Try.prog w = _
  kernel_rfl
theorem alloc_frs (l : List Al) (h : ∀ x ∈ l, x.ty = 27 ∧ x.cs = #[.int .u8 0, .int .i64 0, .int .i64 0, .int .i64 0]) : FltRun Try.prog l := by
  intro x hx ev o ho w
  obtain ⟨h1, h2⟩ := h x hx
  rw [h1] at ho ⊢
  rw [h2]
  obtain ⟨dst, op, tt, ps, af, gd⟩ := o
  simp only at ho
  subst ho
  show (execOp ev _).run Try.prog w = _
  kernel_rfl

set_option maxRecDepth 100000 in
set_option maxHeartbeats 16000000 in
theorem rPlace_calls (A : Option Addr) (c : Nat) (B : Option Addr) (d : Nat) (t : Trk) (f : Fr) (w : World) (hl : SlAt pLn (Old w) w A c t.lines) (hm : SlAt pMk (Old w) w B d t.marks) (ht0 : Fits .u8 t.fr.1) (hf0 : 0 ≤ f.1) : Calls Try.prog 10 #[.agg #[.slice A t.lines.length c, .slice B t.marks.length d, .int .u8 t.fr.1, .int .i64 t.fr.2.1, .int .i64 t.fr.2.2.1, .int .i64 t.fr.2.2.2, .int .i64 t.drawn], .agg #[.int .u8 f.1, .int .i64 f.2.1, .int .i64 f.2.2.1, .int .i64 f.2.2.2]] w (PlacePost (placeT t f) w) := by
  have q1 := hl.lenle
  have q2 := hm.lenle
  obtain ⟨W, hW⟩ : ∃ W, W = ((w.alloc (.cells #[.slice A t.lines.length c, .slice B t.marks.length d, .int .u8 t.fr.1, .int .i64 t.fr.2.1, .int .i64 t.fr.2.2.1, .int .i64 t.fr.2.2.2, .int .i64 t.drawn] 31)).alloc (.cells #[.int .u8 f.1, .int .i64 f.2.1, .int .i64 f.2.2.1, .int .i64 f.2.2.2] 27)).alloc (.cells #[.slice none 0 0, .slice none 0 0, .int .u8 0, .int .i64 0, .int .i64 0, .int .i64 0, .int .i64 0] 31) := ⟨_, rfl⟩
  have b0 : Blk W w.heap.size 31 #[.slice A t.lines.length c, .slice B t.marks.length d, .int .u8 t.fr.1, .int .i64 t.fr.2.1, .int .i64 t.fr.2.2.1, .int .i64 t.fr.2.2.2, .int .i64 t.drawn] := by rw [hW]; exact ((Blk.new w _ _).alloc _).alloc _
  have b1 : Blk W (w.heap.size + 1) 27 #[.int .u8 f.1, .int .i64 f.2.1, .int .i64 f.2.2.1, .int .i64 f.2.2.2] := by
    rw [hW]
    have := (Blk.new (w.alloc (.cells #[.slice A t.lines.length c, .slice B t.marks.length d, .int .u8 t.fr.1, .int .i64 t.fr.2.1, .int .i64 t.fr.2.2.1, .int .i64 t.fr.2.2.2, .int .i64 t.drawn] 31)) 27 #[.int .u8 f.1, .int .i64 f.2.1, .int .i64 f.2.2.1, .int .i64 f.2.2.2]).alloc (.cells #[.slice none 0 0, .slice none 0 0, .int .u8 0, .int .i64 0, .int .i64 0, .int .i64 0, .int .i64 0] 31)
    simpa using this
  have b2 : Blk W (w.heap.size + 1 + 1) 31 #[.slice none 0 0, .slice none 0 0, .int .u8 0, .int .i64 0, .int .i64 0, .int .i64 0, .int .i64 0] := by
    rw [hW]
    have := Blk.new ((w.alloc (.cells #[.slice A t.lines.length c, .slice B t.marks.length d, .int .u8 t.fr.1, .int .i64 t.fr.2.1, .int .i64 t.fr.2.2.1, .int .i64 t.fr.2.2.2, .int .i64 t.drawn] 31)).alloc (.cells #[.int .u8 f.1, .int .i64 f.2.1, .int .i64 f.2.2.1, .int .i64 f.2.2.2] 27)) 31 #[.slice none 0 0, .slice none 0 0, .int .u8 0, .int .i64 0, .int .i64 0, .int .i64 0, .int .i64 0]
    simpa using this
  have t0 : RowKit.Below w.heap.size w W := by rw [hW]; exact al3
  have zW : W.heap.size = w.heap.size + 3 := by rw [hW]; simp
  have f1 := fun W' (h : RowKit.Below w.heap.size w W') => rTCheck_calls A c B d t W' (hl.later h) (hm.later h)
  have f2 := fun W' => rFCheck_calls f W'
  have hp0 : checkT t ≠ 0 → placeT t f = (zeroT, checkT t) := fun h => if_neg h
  have hp1 : checkT t = 0 → checkFr f ≠ 0 → placeT t f = (zeroT, checkFr f) := fun h h' => by unfold placeT; rw [if_pos h, if_neg h']
  have hp2 := @placeT_bad t f
  have hp3 := @placeT_good t f
  have hg := @checkT_ok t
  obtain ⟨z, hz⟩ : ∃ z, checkT t = z := ⟨_, rfl⟩
  rw [hz] at f1 hp0 hp1 hp2 hp3 hg
  have hfz := hf0
  have B0 := Lib.hid b0; clear b0
  have B1 := Lib.hid b1; clear b1
  have B2 := Lib.hid b2; clear b2
  have T0 := Lib.hid t0; clear t0
  have Hl := Lib.hid hl; clear hl
  have Hm := Lib.hid hm; clear hm
  have F1 := Lib.hid f1; clear f1
  have F2 := Lib.hid f2; clear f2
  have Hp0 := Lib.hid hp0; clear hp0
  have Hp1 := Lib.hid hp1; clear hp1
  have Hp2 := Lib.hid hp2; clear hp2
  have Hp3 := Lib.hid hp3; clear hp3
  have Hg := Lib.hid hg; clear hg
  have Hz := Lib.hid hz; clear hz
  have y0 := B0.out.cell 0
  have y1 := B0.out.cell 1
  have y2 := B0.out.cell 2
  have y3 := B0.out.cell 3
  have y4 := B0.out.cell 4
  have y5 := B0.out.cell 5
  have y6 := B0.out.cell 6
  go_enter Try.func10, Try.ntmps10
  go_wp2_with fail
  (try rw [← hW])
  have HW := Lib.hid hW; clear hW
  refine (F1.out _ T0.out).mono ?_
  rintro e w1 ⟨rfl, d1⟩
  have k0 := B0.out.same (d1.block _ B0.out.lt)
  have k1 := B1.out.same (d1.block _ B1.out.lt)
  have k2 := B2.out.same (d1.block _ B2.out.lt)
  have t1 := T0.out.trans (d1.mono T0.out.size)
  have zw1 := d1.size
  clear y0 y1 y2 y3 y4 y5 y6 d1
  by_cases h0 : z = 0
  case neg =>
    have h0' : (z != 0) = true := by simpa using h0
    have hr1 := Hp0.out h0
    have y0 := k0.cell 0
    have y1 := k0.cell 1
    have y2 := k0.cell 2
    have y3 := k0.cell 3
    have y4 := k0.cell 4
    have y5 := k0.cell 5
    have y6 := k0.cell 6
    have T1 := Lib.hid t1; clear t1
    have K0 := Lib.hid k0; clear k0
    have K1 := Lib.hid k1; clear k1
    have K2 := Lib.hid k2; clear k2
    go_wp2_with fail
    refine (F1.out _ T1.out).mono ?_
    rintro e w9 ⟨rfl, d9⟩
    have k2 := K2.out.same (d9.block _ K2.out.lt)
    have t9 := T1.out.trans (d9.mono T1.out.size)
    clear y0 y1 y2 y3 y4 y5 y6 d9
    have k2z := k2
    have ztz := t9.size
    have k2y := blk_row (cs := #[.slice none 0 0, .slice none 0 0, .int .u8 0, .int .i64 0, .int .i64 0, .int .i64 0, .int .i64 0]) k2z
    have t2y := row_below (g := w.heap.size + 1 + 1) t9 (by omega) #[.slice none 0 0, .slice none 0 0, .int .u8 0, .int .i64 0, .int .i64 0, .int .i64 0, .int .i64 0]
    have Hr1 := Lib.hid hr1; clear hr1
    have K2y := Lib.hid k2y; clear k2y
    have T2y := Lib.hid t2y; clear t2y
    go_wp2_with ((with_reducible show wpList _ _ _ (Oper.mk none _ _ _ _ _ :: _) _ _); refine wpList_storeG 31 (.tmp 4) (.tmp 17) _ #[.slice none 0 0, .slice none 0 0, .int .u8 0, .int .i64 0, .int .i64 0, .int .i64 0, .int .i64 0] rfl rfl rfl rfl k2z (by kernel_rfl) rfl (by simp [Value.oneCell']) rfl ?_)
    refine bodyPost_ret (results_vec_tmp rfl _ _ _ (w.heap.size + 1 + 1) 31 _ rfl K2y.out Try.underlying31 (by kernel_rfl)) rfl ?_
    exact placePost_zero Hr1.out T2y.out
  case pos =>
  subst h0
  obtain ⟨hbl, hbm, hcf, _, _⟩ := Hg.out rfl
  have hq1 := Hp1.out rfl
  have hq2 := Hp2.out rfl
  have hq3 := Hp3.out rfl
  obtain ⟨zf, hzf⟩ : ∃ z, checkFr f = z := ⟨_, rfl⟩
  have f2b := F2.out
  rw [hzf] at hq1 hq2 hq3 f2b
  have y0 := k1.cell 0
  have y1 := k1.cell 1
  have y2 := k1.cell 2
  have y3 := k1.cell 3
  have K0 := Lib.hid k0; clear k0
  have K1 := Lib.hid k1; clear k1
  have K2 := Lib.hid k2; clear k2
  have T1 := Lib.hid t1; clear t1
  have Hq1 := Lib.hid hq1; clear hq1
  have Hq2 := Lib.hid hq2; clear hq2
  have Hq3 := Lib.hid hq3; clear hq3
  have Hbl := Lib.hid hbl; clear hbl
  have Hbm := Lib.hid hbm; clear hbm
  have Hcf := Lib.hid hcf; clear hcf
  have Hzf := Lib.hid hzf; clear hzf
  have F2b := Lib.hid f2b; clear f2b
  go_wp2_with fail
  refine (F2b.out _).mono ?_
  rintro e w2 ⟨rfl, d2⟩
  have k0 := K0.out.same (d2.block _ K0.out.lt)
  have k1 := K1.out.same (d2.block _ K1.out.lt)
  have k2 := K2.out.same (d2.block _ K2.out.lt)
  have t2 := T1.out.trans (d2.mono T1.out.size)
  have zw2 := d2.size
  clear y0 y1 y2 y3 d2
  by_cases h1 : zf = 0
  case neg =>
    have h1' : (zf != 0) = true := by simpa using h1
    have hr1 := Hq1.out h1
    have y0 := k1.cell 0
    have y1 := k1.cell 1
    have y2 := k1.cell 2
    have y3 := k1.cell 3
    have K0 := Lib.hid k0; clear k0
    have K1 := Lib.hid k1; clear k1
    have K2 := Lib.hid k2; clear k2
    have T2 := Lib.hid t2; clear t2
    go_wp2_with fail
    refine (F2b.out _).mono ?_
    rintro e w9 ⟨rfl, d9⟩
    have k2 := K2.out.same (d9.block _ K2.out.lt)
    have t9 := T2.out.trans (d9.mono T2.out.size)
    clear y0 y1 y2 y3 d9
    have k2z := k2
    have ztz := t9.size
    have k2y := blk_row (cs := #[.slice none 0 0, .slice none 0 0, .int .u8 0, .int .i64 0, .int .i64 0, .int .i64 0, .int .i64 0]) k2z
    have t2y := row_below (g := w.heap.size + 1 + 1) t9 (by omega) #[.slice none 0 0, .slice none 0 0, .int .u8 0, .int .i64 0, .int .i64 0, .int .i64 0, .int .i64 0]
    have Hr1 := Lib.hid hr1; clear hr1
    have K2y := Lib.hid k2y; clear k2y
    have T2y := Lib.hid t2y; clear t2y
    go_wp2_with ((with_reducible show wpList _ _ _ (Oper.mk none _ _ _ _ _ :: _) _ _); refine wpList_storeG 31 (.tmp 4) (.tmp 23) _ #[.slice none 0 0, .slice none 0 0, .int .u8 0, .int .i64 0, .int .i64 0, .int .i64 0, .int .i64 0] rfl rfl rfl rfl k2z (by kernel_rfl) rfl (by simp [Value.oneCell']) rfl ?_)
    refine bodyPost_ret (results_vec_tmp rfl _ _ _ (w.heap.size + 1 + 1) 31 _ rfl K2y.out Try.underlying31 (by kernel_rfl)) rfl ?_
    exact placePost_zero Hr1.out T2y.out
  case pos =>
  subst h1
  have hbad := Hq2.out rfl
  have hgood := Hq3.out rfl
  obtain ⟨w3, hw3⟩ : ∃ W, W = w2.alloc (.cells #[.slice none 0 0, .slice none 0 0, .int .u8 0, .int .i64 0, .int .i64 0, .int .i64 0, .int .i64 0] 31) := ⟨_, rfl⟩
  obtain ⟨g8, hg8⟩ : ∃ g, g = w2.heap.size := ⟨_, rfl⟩
  have ps : PlSt w.heap.size g8 #[.slice A t.lines.length c, .slice B t.marks.length d, .int .u8 t.fr.1, .int .i64 t.fr.2.1, .int .i64 t.fr.2.2.1, .int .i64 t.fr.2.2.2, .int .i64 t.drawn] #[.int .u8 f.1, .int .i64 f.2.1, .int .i64 f.2.2.1, .int .i64 f.2.2.2] (.slice none 0 0) (.slice none 0 0) [] [] w3 := by
    rw [hw3, hg8]
    exact ⟨k0.alloc _, k1.alloc _, k2.alloc _, Blk.new _ _ _, Own.nil, Own.nil, (by intro k hk; cases hk), by omega⟩
  have t3 : RowKit.Below w.heap.size w w3 := by rw [hw3]; exact t2.alloc t2.size _
  have y0 : w3.cell? ⟨w.heap.size, 0, none⟩ = some (.slice A t.lines.length c) := ps.b0.cell 0
  clear k0 k1 k2 t2
  have Ps := Lib.hid ps; clear ps
  have T3 := Lib.hid t3; clear t3
  have Hbad := Lib.hid hbad; clear hbad
  have Hgood := Lib.hid hgood; clear hgood
  go_upto_region 6 with fail
  rw [← hw3, ← hg8]
  have hg8' : w.heap.size + 2 < g8 := by omega
  clear hw3 hg8
  go_wp2
  clear y0
  go_loopw [7] (fun i wr => ∃ (k : Nat) (A1 : Option Addr) (c1 : Nat), k ≤ t.lines.length ∧ i = .int .i64 k ∧ Hid (RowKit.Below w.heap.size w wr) ∧ Hid (PlSt w.heap.size g8 #[.slice A t.lines.length c, .slice B t.marks.length d, .int .u8 t.fr.1, .int .i64 t.fr.2.1, .int .i64 t.fr.2.2.1, .int .i64 t.fr.2.2.2, .int .i64 t.drawn] #[.int .u8 f.1, .int .i64 f.2.1, .int .i64 f.2.2.1, .int .i64 f.2.2.2] (.slice A1 k c1) (.slice none 0 0) ((t.lines.take k).map (plL f)) [] wr) ∧ Hid (t.lines.all (okL f) = (t.lines.drop k).all (okL f))) (fun i _ => t.lines.length - (intOf i).toNat)
  case atStart => exact ⟨0, none, 0, Nat.zero_le _, rfl, T3.out, Ps.out, rfl⟩
  case round =>
    obtain ⟨k, A1, c1, hk, rfl, hbw, hps, hall⟩ := hrel
    obtain ⟨wo, rfl⟩ : ∃ wo : World, wo = wr := ⟨_, rfl⟩
    have y0 : wo.cell? ⟨w.heap.size, 0, none⟩ = some (.slice A t.lines.length c) := hps.out.b0.cell 0
    by_cases hlt : k < t.lines.length
    case pos =>
      obtain ⟨b, o, l, hd, rfl, hob, c0, c1', c2, c3, c4, c5, c6, z1, z2, z3⟩ := (Hl.out.later hbw.out).getLn hlt
      have hok := badL_at Hbl.out hd.out
      obtain ⟨i1, i2⟩ := lnOk_in hok
      have hst := hall.out.trans (all_drop (p := okL f) hd.out)
      have hmt := map_take (p := plL f) hd.out
      have hpl : plL f l = ⟨imageF f l.fr, imageF f l.to, l.dep⟩ := rfl
      have hkl : okL f l = (inV (-1000000) (imageF f l.fr) && inV (-1000000) (imageF f l.to)) := rfl
      have ap1 := fun W' => rImage_at f hfz Hzf.out l.fr W' i1
      have ap2 := fun W' => rImage_at f hfz Hzf.out l.to W' i2
      obtain ⟨m1, e1⟩ : ∃ m, imageF f l.fr = m := ⟨_, rfl⟩
      obtain ⟨m2, e2⟩ : ∃ m, imageF f l.to = m := ⟨_, rfl⟩
      rw [e1] at hpl hkl ap1
      rw [e2] at hpl hkl ap2
      have in1 := fun W' => rIn_calls m1 W'
      have in2 := fun W' => rIn_calls m2 W'
      obtain ⟨n1, hn1⟩ : ∃ b, inV (-1000000) m1 = b := ⟨_, rfl⟩
      obtain ⟨n2, hn2⟩ : ∃ b, inV (-1000000) m2 = b := ⟨_, rfl⟩
      rw [hn1] at hkl in1
      rw [hn2] at hkl in2
      have x0 : wo.cell? ⟨w.heap.size + 1, 0, none⟩ = some (.int .u8 f.1) := hps.out.b1.cell 0
      have x1 : wo.cell? ⟨w.heap.size + 1, 1, none⟩ = some (.int .i64 f.2.1) := hps.out.b1.cell 1
      have x2 : wo.cell? ⟨w.heap.size + 1, 2, none⟩ = some (.int .i64 f.2.2.1) := hps.out.b1.cell 2
      have x3 : wo.cell? ⟨w.heap.size + 1, 3, none⟩ = some (.int .i64 f.2.2.2) := hps.out.b1.cell 3
      have zb0 := hps.out.b0.lt
      have zb1 := hps.out.b1.lt
      have hob' : b < wo.heap.size := hob
      have zwo := hbw.out.size
      have Ap1 := Lib.hid ap1; clear ap1
      have Ap2 := Lib.hid ap2; clear ap2
      have In1 := Lib.hid in1; clear in1
      have In2 := Lib.hid in2; clear in2
      have Hkl := Lib.hid hkl; clear hkl
      have Hst := Lib.hid hst; clear hst
      have Hmt := Lib.hid hmt; clear hmt
      have Hpl := Lib.hid hpl; clear hpl
      have Hok := Lib.hid hok; clear hok
      have I1 := Lib.hid i1; clear i1
      have I2 := Lib.hid i2; clear i2
      have E1 := Lib.hid e1; clear e1
      have E2 := Lib.hid e2; clear e2
      have Hn1 := Lib.hid hn1; clear hn1
      have Hn2 := Lib.hid hn2; clear hn2
      have Z1 := Lib.hid z1; clear z1
      have Z2 := Lib.hid z2; clear z2
      have Z3 := Lib.hid z3; clear z3
      clear hd
      go_upto_region 9 with fail
      refine wp_region_floatA 25 [⟨⟨23, 8, 58, #[.int .i64 0, .int .i64 0, .int .i64 0, .int .i64 0, .int .i64 0, .int .i64 0, .int .i64 0]⟩, some (24, 55, #[.int .i64 m1.1, .int .i64 m1.2.1, .int .i64 m1.2.2, .int .i64 m2.1, .int .i64 m2.2.1, .int .i64 m2.2.2, .int .i64 l.dep])⟩] (by kernel_rfl) (by kernel_rfl) rfl (by
          intro x hx
          refine alloc_lines _ fun y hy => ?_
          rw [List.mem_singleton] at hy hx
          subst hy hx
          exact ⟨rfl, rfl⟩) (by
          intro x hx j v row h
          rw [List.mem_singleton] at hx
          subst hx
          simp at h
          obtain ⟨-, -, rfl⟩ := h
          exact ⟨by kernel_rfl, rfl, by simp [Value.oneCell']⟩) ?_
      apply Exists.intro
      refine And.intro ?walk (And.intro ?vals ?tail)
      case walk =>
        intro W' hW'
        have e0 := cell_regrown ((cell_keep (hW'.block w.heap.size (by omega))).trans y0)
        have d0 := cell_regrown ((cell_keep (hW'.block (w.heap.size + 1) (by omega))).trans x0)
        have d1 := cell_regrown ((cell_keep (hW'.block (w.heap.size + 1) (by omega))).trans x1)
        have d2 := cell_regrown ((cell_keep (hW'.block (w.heap.size + 1) (by omega))).trans x2)
        have d3 := cell_regrown ((cell_keep (hW'.block (w.heap.size + 1) (by omega))).trans x3)
        have g0 := cell_regrown ((cell_keep (hW'.block b (by omega))).trans c0)
        have g1 := cell_regrown ((cell_keep (hW'.block b (by omega))).trans c1')
        have g2 := cell_regrown ((cell_keep (hW'.block b (by omega))).trans c2)
        have g3 := cell_regrown ((cell_keep (hW'.block b (by omega))).trans c3)
        have g4 := cell_regrown ((cell_keep (hW'.block b (by omega))).trans c4)
        have g5 := cell_regrown ((cell_keep (hW'.block b (by omega))).trans c5)
        have g6 := cell_regrown ((cell_keep (hW'.block b (by omega))).trans c6)
        have sa : ∀ q os, Calls Try.prog 25 #[.agg #[.int .u8 f.1, .int .i64 f.2.1, .int .i64 f.2.2.1, .int .i64 f.2.2.2], .agg #[.int .i64 l.fr.1, .int .i64 l.fr.2.1, .int .i64 l.fr.2.2]] (grow (redrawn W' q) os) fun e w'' => e = .returned (.agg #[.int .i64 m1.1, .int .i64 m1.2.1, .int .i64 m1.2.2]) ∧ ∃ p : Regrown, w'' = grow (redrawn W' p.d) p.os := fun q os => Calls.regrown_of (Ap1.out _)
        have sb : ∀ q os, Calls Try.prog 25 #[.agg #[.int .u8 f.1, .int .i64 f.2.1, .int .i64 f.2.2.1, .int .i64 f.2.2.2], .agg #[.int .i64 l.to.1, .int .i64 l.to.2.1, .int .i64 l.to.2.2]] (grow (redrawn W' q) os) fun e w'' => e = .returned (.agg #[.int .i64 m2.1, .int .i64 m2.2.1, .int .i64 m2.2.2]) ∧ ∃ p : Regrown, w'' = grow (redrawn W' p.d) p.os := fun q os => Calls.regrown_of (Ap2.out _)
        have Sa := Lib.hid sa; clear sa
        have Sb := Lib.hid sb; clear sb
        simp only [virtP, fltP, nopT, List.take_succ_cons, List.take_zero, List.drop_succ_cons, List.drop_zero, List.map_cons, List.map_nil, List.append_nil]
        iterate 8 (go_big_quiet_step (exact (Sa.out _ _).mono fun e w'' h => h))
        iterate 8 (go_big_quiet_step (exact (Sb.out _ _).mono fun e w'' h => h))
        iterate 9 (go_big_quiet_step (fail))
        exact wpQuiet_nil rfl
      case vals => exact ⟨rfl, by simp, trivial⟩
      case tail =>
        intro p w' hbw' hB' hD
        have hB8 := hB' _ (List.mem_cons_self)
        simp only [Fs.fin] at hB8
        simp only [putsF, ptrV, List.drop_succ_cons, List.drop_zero, List.map_cons, List.map_nil]
        obtain ⟨gl, hgl⟩ : ∃ g, p 23 = g := ⟨_, rfl⟩
        rw [hgl] at hB8 ⊢
        clear hB' hD
        obtain ⟨n4, z4⟩ := hB8
        have nt := hbw.out.trans (hbw'.mono hbw.out.size)
        have np := hps.out.later hbw'
        simp only [Act.put]
        clear y0 x0 x1 x2 x3 c0 c1' c2 c3 c4 c5 c6 hbw'
        have u0 := n4.cell 0
        have u1 := n4.cell 1
        have u2 := n4.cell 2
        have u3 := n4.cell 3
        have u4 := n4.cell 4
        have u5 := n4.cell 5
        have N4 := Lib.hid n4; clear n4
        have Nt := Lib.hid nt; clear nt
        have Np := Lib.hid np; clear np
        clear hbw hps
        go_wp2_with fail
        refine (In1.out _).mono ?_
        rintro e w6 ⟨rfl, d6⟩
        have j4 := N4.out.same (d6.block _ N4.out.lt)
        have jt := Nt.out.trans (d6.mono Nt.out.size)
        have jp := Np.out.later d6
        clear u0 u1 u2 u3 u4 u5 d6
        cases n1
        case false =>
          have hr1 := Hbad.out (.inl (by rw [Hst.out, Hkl.out]; rfl))
          have Jt := Lib.hid jt; clear jt
          have Jp := Lib.hid jp; clear jp
          have k2z := Jp.out.b2
          have ztz := Jt.out.size
          have k2y := blk_row (cs := #[.slice none 0 0, .slice none 0 0, .int .u8 0, .int .i64 0, .int .i64 0, .int .i64 0, .int .i64 0]) k2z
          have t2y := row_below (g := w.heap.size + 1 + 1) Jt.out (by omega) #[.slice none 0 0, .slice none 0 0, .int .u8 0, .int .i64 0, .int .i64 0, .int .i64 0, .int .i64 0]
          have Hr1 := Lib.hid hr1; clear hr1
          have K2y := Lib.hid k2y; clear k2y
          have T2y := Lib.hid t2y; clear t2y
          go_wp2_with ((with_reducible show wpList _ _ _ (Oper.mk none _ _ _ _ _ :: _) _ _); refine wpList_storeG 31 (.tmp 4) (.tmp 66) _ #[.slice none 0 0, .slice none 0 0, .int .u8 0, .int .i64 0, .int .i64 0, .int .i64 0, .int .i64 0] rfl rfl rfl rfl k2z (by kernel_rfl) rfl (by simp [Value.oneCell']) rfl ?_)
          refine bodyPost_ret (results_vec_tmp rfl _ _ _ (w.heap.size + 1 + 1) 31 _ rfl K2y.out Try.underlying31 (by kernel_rfl)) rfl ?_
          exact placePost_zero Hr1.out T2y.out
        case true =>
        have u3 := j4.cell 3
        have u4 := j4.cell 4
        have u5 := j4.cell 5
        have J4 := Lib.hid j4; clear j4
        have Jt := Lib.hid jt; clear jt
        have Jp := Lib.hid jp; clear jp
        go_wp2_with fail
        refine (In2.out _).mono ?_
        rintro e w7 ⟨rfl, d7⟩
        have m4 := J4.out.same (d7.block _ J4.out.lt)
        have mt := Jt.out.trans (d7.mono Jt.out.size)
        have mp := Jp.out.later d7
        clear u3 u4 u5 d7
        cases n2
        case false =>
          have hr1 := Hbad.out (.inl (by rw [Hst.out, Hkl.out]; rfl))
          have Mt := Lib.hid mt; clear mt
          have Mp := Lib.hid mp; clear mp
          have k2z := Mp.out.b2
          have ztz := Mt.out.size
          have k2y := blk_row (cs := #[.slice none 0 0, .slice none 0 0, .int .u8 0, .int .i64 0, .int .i64 0, .int .i64 0, .int .i64 0]) k2z
          have t2y := row_below (g := w.heap.size + 1 + 1) Mt.out (by omega) #[.slice none 0 0, .slice none 0 0, .int .u8 0, .int .i64 0, .int .i64 0, .int .i64 0, .int .i64 0]
          have Hr1 := Lib.hid hr1; clear hr1
          have K2y := Lib.hid k2y; clear k2y
          have T2y := Lib.hid t2y; clear t2y
          go_wp2_with ((with_reducible show wpList _ _ _ (Oper.mk none _ _ _ _ _ :: _) _ _); refine wpList_storeG 31 (.tmp 4) (.tmp 66) _ #[.slice none 0 0, .slice none 0 0, .int .u8 0, .int .i64 0, .int .i64 0, .int .i64 0, .int .i64 0] rfl rfl rfl rfl k2z (by kernel_rfl) rfl (by simp [Value.oneCell']) rfl ?_)
          refine bodyPost_ret (results_vec_tmp rfl _ _ _ (w.heap.size + 1 + 1) 31 _ rfl K2y.out Try.underlying31 (by kernel_rfl)) rfl ?_
          exact placePost_zero Hr1.out T2y.out
        case true =>
        have hst' : t.lines.all (okL f) = (t.lines.drop (k + 1)).all (okL f) := by rw [Hst.out, Hkl.out]; rfl
        have hR : pLn.R (fun _ => False) w7 (Value.agg #[.int .i64 m1.1, .int .i64 m1.2.1, .int .i64 m1.2.2, .int .i64 m2.1, .int .i64 m2.2.1, .int .i64 m2.2.2, .int .i64 l.dep]).cells.toList (plL f l) := by
          rw [Hpl.out]
          exact ⟨rfl, fitV_in Hn1.out, fitV_in Hn2.out, Z3.out⟩
        have hox := mp.ox
        have hln : ((t.lines.take k).map (plL f)).length + 1 = k + 1 := by rw [List.length_map, List.length_take]; omega
        have hrm : Room ((t.lines.take k).map (plL f)).length := room_of (by rw [List.length_map, List.length_take]; omega)
        have hba : g8 + 1 ≤ w7.heap.size := mp.b8.lt
        have hbm8 := mp.b8
        have v0 := hbm8.cell 0
        have u0 := m4.cell 0
        have u1 := m4.cell 1
        have u2 := m4.cell 2
        have u3 := m4.cell 3
        have u4 := m4.cell 4
        have u5 := m4.cell 5
        have u6 := m4.cell 6
        have hne : some g8 ≠ (Value.slice A1 k c1).ownBlock := fun he => by have := (hox.lt _ he.symm).1; omega
        have hlt8 := hbm8.lt
        have Hst' := Lib.hid hst'; clear hst'
        have HR := Lib.hid hR; clear hR
        have Hox := Lib.hid hox; clear hox
        have Hln := Lib.hid hln; clear hln
        have Hrm := Lib.hid hrm; clear hrm
        have Hne := Lib.hid hne; clear hne
        have Hbm8 := Lib.hid hbm8; clear hbm8
        have Mt := Lib.hid mt; clear mt
        have Mp := Lib.hid mp; clear mp
        have M4 := Lib.hid m4; clear m4
        go_wp2_with ((with_reducible show wpList _ _ _ (Oper.mk (some 70) _ _ _ _ _ :: _) _ _); refine wpList_pushG (E := pLn) (xs := (t.lines.take k).map (plL f)) (v := .slice A1 k c1) (base := g8 + 1) (G := fun _ => False) 22 58 (.agg #[.int .i64 0, .int .i64 0, .int .i64 0, .int .i64 0, .int .i64 0, .int .i64 0, .int .i64 0]) 56 70 (.tmp 68) (.tmp 69) rfl rfl rfl rfl rfl Try.underlying22 (by kernel_rfl) rfl (by decide) (fun _ => rfl) (fun _ => rfl) Hox.out (.agg #[.int .i64 m1.1, .int .i64 m1.2.1, .int .i64 m1.2.2, .int .i64 m2.1, .int .i64 m2.2.1, .int .i64 m2.2.2, .int .i64 l.dep]) rfl (plL f l) (fun _ => False) HR.out (fun _ h => h.elim) (k + 1) Hln.out Hrm.out ⟨by decide, by decide⟩ hba ?_; intro A10 c10 w8 hown7 hg7; have hbm7 := Hbm8.out.same (hg7.out.oth _ hlt8 Hne.out); have x7 := hbm7.cell 0; have f7 := hbm7.free 0; clear hbm7)
        go_roundw
        case rel =>
          have hps' := Mp.out.pushX hown7.out hg7.out
          have hz7 := hg7.out.bel.size
          refine ⟨k + 1, A10, c10, hlt, by go_num, ?_, ?_, Hst'.out⟩
          · exact (Mt.out.trans (hg7.out.bel.mono (by omega))).setCell (by show w.heap.size ≤ g8; omega) _
          · unfold Hid
            rw [Hmt.out]
            exact hps'
        case measure => simp [intOf]; omega
    case neg =>
      have hall' := hall.out.trans (all_end hlt)
      obtain rfl : k = t.lines.length := by omega
      have hpx := hps.out
      rw [List.take_length] at hpx
      have Hall' := Lib.hid hall'; clear hall'
      have Hpx := Lib.hid hpx; clear hpx
      clear hall hps
      go_wp2
      clear y0
      go_loopw [9] (fun i wr => ∃ (k : Nat) (B1 : Option Addr) (d1 : Nat), k ≤ t.marks.length ∧ i = .int .i64 k ∧ Hid (RowKit.Below w.heap.size w wr) ∧ Hid (PlSt w.heap.size g8 #[.slice A t.lines.length c, .slice B t.marks.length d, .int .u8 t.fr.1, .int .i64 t.fr.2.1, .int .i64 t.fr.2.2.1, .int .i64 t.fr.2.2.2, .int .i64 t.drawn] #[.int .u8 f.1, .int .i64 f.2.1, .int .i64 f.2.2.1, .int .i64 f.2.2.2] (.slice A1 t.lines.length c1) (.slice B1 k d1) (t.lines.map (plL f)) ((t.marks.take k).map (plM f)) wr) ∧ Hid (t.marks.all (okM f) = (t.marks.drop k).all (okM f))) (fun i _ => t.marks.length - (intOf i).toNat)
      case atStart => exact ⟨0, none, 0, Nat.zero_le _, rfl, hbw.out, Hpx.out, rfl⟩
      case round =>
        clear hbw
        obtain ⟨k, B1, d1, hk, rfl, hbw, hps, hall⟩ := hrel
        obtain ⟨wo, rfl⟩ : ∃ wo : World, wo = wr := ⟨_, rfl⟩
        have y0 : wo.cell? ⟨w.heap.size, 1, none⟩ = some (.slice B t.marks.length d) := hps.out.b0.cell 1
        by_cases hlt : k < t.marks.length
        case pos =>
          obtain ⟨b, o, m, hd, rfl, hob, c0, c1', c2, c3, c4, z1, z2, z3⟩ := (Hm.out.later hbw.out).getMk hlt
          have hck := badM_at Hbm.out hd.out
          have hst := hall.out.trans (all_drop (p := okM f) hd.out)
          have hmt := map_take (p := plM f) hd.out
          have hpl : plM f m = ⟨m.name, (withinF (m.turn, m.pl) f).1.1, (withinF (m.turn, m.pl) f).1.2⟩ := rfl
          have hkl : okM f m = ((withinF (m.turn, m.pl) f).2 == 0) := rfl
          have r1 := withinF_err hck Hzf.out
          have hft := @withinF_fit (m.turn, m.pl) f
          have ap1 := fun W' => rWithin_calls (m.turn, m.pl) f W' (by have := z2.u8; simp only; omega) hfz
          obtain ⟨s1, hs1⟩ : ∃ s, withinF (m.turn, m.pl) f = s := ⟨_, rfl⟩
          rw [hs1] at hpl hkl r1 hft ap1
          obtain ⟨n1, e1⟩ := s1
          simp only at hpl hkl r1 hft ap1
          have x0 : wo.cell? ⟨w.heap.size + 1, 0, none⟩ = some (.int .u8 f.1) := hps.out.b1.cell 0
          have x1 : wo.cell? ⟨w.heap.size + 1, 1, none⟩ = some (.int .i64 f.2.1) := hps.out.b1.cell 1
          have x2 : wo.cell? ⟨w.heap.size + 1, 2, none⟩ = some (.int .i64 f.2.2.1) := hps.out.b1.cell 2
          have x3 : wo.cell? ⟨w.heap.size + 1, 3, none⟩ = some (.int .i64 f.2.2.2) := hps.out.b1.cell 3
          have zb0 := hps.out.b0.lt
          have zb1 := hps.out.b1.lt
          have hob' : b < wo.heap.size := hob
          have zwo := hbw.out.size
          have hmk := hlt
          have Ap1 := Lib.hid ap1; clear ap1
          have R1 := Lib.hid r1; clear r1
          have Hkl := Lib.hid hkl; clear hkl
          have Hst := Lib.hid hst; clear hst
          have Hmt := Lib.hid hmt; clear hmt
          have Hpl := Lib.hid hpl; clear hpl
          have Hck := Lib.hid hck; clear hck
          have Hs1 := Lib.hid hs1; clear hs1
          have Hft := Lib.hid hft; clear hft
          have Z1 := Lib.hid z1; clear z1
          have Z2 := Lib.hid z2; clear z2
          have Z3 := Lib.hid z3; clear z3
          clear hd
          go_upto_region 16 with fail
          refine wp_region_floatA 14 [⟨⟨11, 10, 27, #[.int .u8 0, .int .i64 0, .int .i64 0, .int .i64 0]⟩, some (12, 89, #[.int .u8 n1.1, .int .i64 n1.2.1, .int .i64 n1.2.2.1, .int .i64 n1.2.2.2])⟩] (by kernel_rfl) (by kernel_rfl) rfl (by
              intro x hx
              refine alloc_frs _ fun y hy => ?_
              rw [List.mem_singleton] at hy hx
              subst hy hx
              exact ⟨rfl, rfl⟩) (by
              intro x hx j v row h
              rw [List.mem_singleton] at hx
              subst hx
              simp at h
              obtain ⟨-, -, rfl⟩ := h
              exact ⟨by kernel_rfl, rfl, by simp [Value.oneCell']⟩) ?_
          apply Exists.intro
          refine And.intro ?walk (And.intro ?vals ?tail)
          case walk =>
            intro W' hW'
            have e0 := cell_regrown ((cell_keep (hW'.block w.heap.size (by omega))).trans y0)
            have d0 := cell_regrown ((cell_keep (hW'.block (w.heap.size + 1) (by omega))).trans x0)
            have d1 := cell_regrown ((cell_keep (hW'.block (w.heap.size + 1) (by omega))).trans x1)
            have d2 := cell_regrown ((cell_keep (hW'.block (w.heap.size + 1) (by omega))).trans x2)
            have d3 := cell_regrown ((cell_keep (hW'.block (w.heap.size + 1) (by omega))).trans x3)
            have g0 := cell_regrown ((cell_keep (hW'.block b (by omega))).trans c0)
            have g1 := cell_regrown ((cell_keep (hW'.block b (by omega))).trans c1')
            have g2 := cell_regrown ((cell_keep (hW'.block b (by omega))).trans c2)
            have g3 := cell_regrown ((cell_keep (hW'.block b (by omega))).trans c3)
            have g4 := cell_regrown ((cell_keep (hW'.block b (by omega))).trans c4)
            have sa : ∀ q os, Calls Try.prog 27 #[.agg #[.int .u8 m.turn, .int .i64 m.pl.1, .int .i64 m.pl.2.1, .int .i64 m.pl.2.2], .agg #[.int .u8 f.1, .int .i64 f.2.1, .int .i64 f.2.2.1, .int .i64 f.2.2.2]] (grow (redrawn W' q) os) fun e w'' => e = .returned (.tuple #[.agg #[.int .u8 n1.1, .int .i64 n1.2.1, .int .i64 n1.2.2.1, .int .i64 n1.2.2.2], .int .i64 e1]) ∧ ∃ p : Regrown, w'' = grow (redrawn W' p.d) p.os := fun q os => Calls.regrown_of (Ap1.out _)
            have Sa := Lib.hid sa; clear sa
            simp only [virtP, fltP, nopT, List.take_succ_cons, List.take_zero, List.drop_succ_cons, List.drop_zero, List.map_cons, List.map_nil, List.append_nil]
            iterate 8 (go_big_quiet_step (exact (Sa.out _ _).mono fun e w'' h => h))
            iterate 6 (go_big_quiet_step (fail))
            exact wpQuiet_nil rfl
          case vals => exact ⟨rfl, by simp, trivial⟩
          case tail =>
            intro p w' hbw' hB' hD
            have hB8 := hB' _ (List.mem_cons_self)
            simp only [Fs.fin] at hB8
            simp only [putsF, ptrV, List.drop_succ_cons, List.drop_zero, List.map_cons, List.map_nil]
            obtain ⟨gl, hgl⟩ : ∃ g, p 11 = g := ⟨_, rfl⟩
            rw [hgl] at hB8 ⊢
            clear hB' hD
            obtain ⟨n4, z4⟩ := hB8
            have nt := hbw.out.trans (hbw'.mono hbw.out.size)
            have np := hps.out.later hbw'
            have nm := hbw'.block b hob'
            have zw9 := hbw'.size
            have s0 := (cell_keep nm).trans c0
            simp only [Act.put]
            clear y0 x0 x1 x2 x3 c0 c1' c2 c3 c4 hbw' nm
            have N4 := Lib.hid n4; clear n4
            have Nt := Lib.hid nt; clear nt
            have Np := Lib.hid np; clear np
            clear hbw hps
            rcases R1.out with h16 | h16
            case inr =>
              (try simp only at h16)
              subst h16
              have hr1 := Hbad.out (.inr (.inl (by rw [Hst.out, Hkl.out]; rfl)))
              have k2z := Np.out.b2
              have ztz := Nt.out.size
              have k2y := blk_row (cs := #[.slice none 0 0, .slice none 0 0, .int .u8 0, .int .i64 0, .int .i64 0, .int .i64 0, .int .i64 0]) k2z
              have t2y := row_below (g := w.heap.size + 1 + 1) Nt.out (by omega) #[.slice none 0 0, .slice none 0 0, .int .u8 0, .int .i64 0, .int .i64 0, .int .i64 0, .int .i64 0]
              have Hr1 := Lib.hid hr1; clear hr1
              have K2y := Lib.hid k2y; clear k2y
              have T2y := Lib.hid t2y; clear t2y
              go_wp2_with ((with_reducible show wpList _ _ _ (Oper.mk none _ _ _ _ _ :: _) _ _); refine wpList_storeG 31 (.tmp 4) (.tmp 93) _ #[.slice none 0 0, .slice none 0 0, .int .u8 0, .int .i64 0, .int .i64 0, .int .i64 0, .int .i64 0] rfl rfl rfl rfl k2z (by kernel_rfl) rfl (by simp [Value.oneCell']) rfl ?_)
              refine bodyPost_ret (results_vec_tmp rfl _ _ _ (w.heap.size + 1 + 1) 31 _ rfl K2y.out Try.underlying31 (by kernel_rfl)) rfl ?_
              exact placePost_zero Hr1.out T2y.out
            case inl =>
            (try simp only at h16)
            subst h16
            obtain ⟨ft1, ft2⟩ := Hft.out rfl
            have hst' : t.marks.all (okM f) = (t.marks.drop (k + 1)).all (okM f) := by rw [Hst.out, Hkl.out]; rfl
            have hR : ∀ wz : World, pMk.R (fun _ => False) wz (Value.agg #[.int .u8 m.name, .int .u8 n1.1, .int .i64 n1.2.1, .int .i64 n1.2.2.1, .int .i64 n1.2.2.2]).cells.toList (plM f m) := by
              intro wz
              rw [Hpl.out]
              exact ⟨rfl, Z1.out, ft1, ft2⟩
            have hln : ((t.marks.take k).map (plM f)).length + 1 = k + 1 := by rw [List.length_map, List.length_take]; omega
            have hrm : Room ((t.marks.take k).map (plM f)).length := room_of (by rw [List.length_map, List.length_take]; omega)
            have v1 : w'.cell? ⟨g8, 1, none⟩ = some (.slice B1 k d1) := Np.out.b8.cell 1
            have y0 : w'.cell? ⟨w.heap.size, 1, none⟩ = some (.slice (some ⟨b, o, none⟩) t.marks.length d) := Np.out.b0.cell 1
            have u0 := N4.out.cell 0
            have u1 := N4.out.cell 1
            have u2 := N4.out.cell 2
            have u3 := N4.out.cell 3
            have zg8 := Np.out.b8.lt
            have zgl := N4.out.lt
            have zb0 := Np.out.b0.lt
            have zbb : b < w'.heap.size := by omega
            clear ft1 ft2
            have Hst' := Lib.hid hst'; clear hst'
            have HR := Lib.hid hR; clear hR
            have Hln := Lib.hid hln; clear hln
            have Hrm := Lib.hid hrm; clear hrm
            go_upto_region 19 with fail
            refine wp_region_floatT 11 [⟨⟨10, 105, 67, #[.int .u8 m.name, .int .u8 n1.1, .int .i64 n1.2.1, .int .i64 n1.2.2.1, .int .i64 n1.2.2.2]⟩, none, some (104, .agg #[.int .u8 m.name, .int .u8 n1.1, .int .i64 n1.2.1, .int .i64 n1.2.2.1, .int .i64 n1.2.2.2])⟩] (by kernel_rfl) (by kernel_rfl) rfl (by
                intro x hx hn
                rw [List.mem_singleton] at hx
                subst hx
                cases hn) (by
                intro x hx v u h o ho ev hev w0
                rw [List.mem_singleton] at hx
                subst hx
                simp at h
                obtain ⟨rfl, rfl⟩ := h
                injection ho with ho
                subst ho
                exact run_build1 (E := pMk) (z := .agg #[.int .u8 0, .int .u8 0, .int .i64 0, .int .i64 0, .int .i64 0]) (bytes := 40) rfl Try.underlying23 (by kernel_rfl) rfl (by decide) (by decide) hev rfl w0) (by
                intro x hx j v row h
                rw [List.mem_singleton] at hx
                subst hx
                cases h) ?_
            apply Exists.intro
            refine And.intro ?walk (And.intro ?vals ?tail)
            case walk =>
              intro W' hW'
              have e0 := cell_regrown ((cell_keep (hW'.block w.heap.size (by omega))).trans y0)
              have e1 := cell_regrown ((cell_keep (hW'.block g8 (by omega))).trans v1)
              have e2 := cell_regrown ((cell_keep (hW'.block b (by omega))).trans s0)
              have d0 := cell_regrown ((cell_keep (hW'.block gl (by omega))).trans u0)
              have d1 := cell_regrown ((cell_keep (hW'.block gl (by omega))).trans u1)
              have d2 := cell_regrown ((cell_keep (hW'.block gl (by omega))).trans u2)
              have d3 := cell_regrown ((cell_keep (hW'.block gl (by omega))).trans u3)
              simp only [virtQ, fltQ, nopT, List.take_succ_cons, List.take_zero, List.drop_succ_cons, List.drop_zero, List.map_cons, List.map_nil, List.cons_append, List.nil_append]
              iterate 14 (go_big_quiet_step (fail))
              exact wpQuiet_nil rfl
            case vals => exact ⟨trivial, rfl, by simp, trivial⟩
            case tail =>
              intro p w2 hbw2 hB2 hD2
              have hB8 := hB2 _ (List.mem_cons_self)
              simp only [Fb.fin] at hB8
              simp only [putsB, Fb.mk', List.drop_succ_cons, List.drop_zero]
              obtain ⟨gn, hgn⟩ : ∃ g, p 10 = g := ⟨_, rfl⟩
              rw [hgn] at hB8 ⊢
              clear hB2 hD2
              obtain ⟨nb, nz⟩ := hB8
              have np := Np.out.later hbw2
              have nt := Nt.out.trans (hbw2.mono Nt.out.size)
              simp only [Act.put]
              have hoy := np.oy
              have hba : g8 + 1 ≤ w2.heap.size := np.b8.lt
              have hbm8 := np.b8
              have hne : some g8 ≠ (Value.slice B1 k d1).ownBlock := fun he => by have := (hoy.lt _ he.symm).1; omega
              have hgn' : some gn ≠ (Value.slice B1 k d1).ownBlock := fun he => by have := (Np.out.oy.lt _ he.symm).2; omega
              have hlt8 := hbm8.lt
              refine wpList_app1G (E := pMk) (xs := (t.marks.take k).map (plM f)) (v := .slice B1 k d1) (base := g8 + 1) (G := fun _ => False) 23 67 (.agg #[.int .u8 0, .int .u8 0, .int .i64 0, .int .i64 0, .int .i64 0]) 40 (.tmp 96) (.tmp 105) gn rfl rfl Try.underlying23 (by kernel_rfl) rfl (by decide) rfl rfl hoy (.agg #[.int .u8 m.name, .int .u8 n1.1, .int .i64 n1.2.1, .int .i64 n1.2.2.1, .int .i64 n1.2.2.2]) nb hgn' (plM f m) (fun _ => False) (HR.out _) (fun _ h => h.elim) (k + 1) Hln.out Hrm.out (by decide) hba ?_
              intro A10 c10 w7 hown7 hg7
              have hbm7 := hbm8.same (hg7.out.oth _ hlt8 hne)
              have x7 := hbm7.cell 1
              have f7 := hbm7.free 1
              have Np := Lib.hid np; clear np
              have Nt := Lib.hid nt; clear nt
              have Hne := Lib.hid hne; clear hne
              have Hbm8 := Lib.hid hbm8; clear hbm8
              have Hoy := Lib.hid hoy; clear hoy
              clear nb hbm7 hbw2 v1 y0 s0 u0 u1 u2 u3
              go_wp2
              go_roundw
              case rel =>
                have hps' := Np.out.pushY hown7.out hg7.out
                have hz7 := hg7.out.bel.size
                refine ⟨k + 1, A10, c10, hmk, by go_num, ?_, ?_, Hst'.out⟩
                · exact (Nt.out.trans (hg7.out.bel.mono (by omega))).setCell (by show w.heap.size ≤ g8; omega) _
                · unfold Hid
                  rw [Hmt.out]
                  exact hps'
              case measure => simp [intOf]; omega
        case neg =>
          have hallm := hall.out.trans (all_end hlt)
          obtain rfl : k = t.marks.length := by omega
          have pA := hps.out
          rw [List.take_length] at pA
          have r1 := withinF_err Hcf.out Hzf.out
          have ap1 := fun W' => rWithin_calls t.fr f W' (by have := ht0.u8; omega) hfz
          have hbad3 := Hbad.out
          have hgood3 := Hgood.out Hall'.out hallm
          obtain ⟨s1, hs1⟩ : ∃ s, withinF t.fr f = s := ⟨_, rfl⟩
          rw [hs1] at r1 ap1 hbad3 hgood3
          obtain ⟨n1, e1⟩ := s1
          simp only at r1 ap1 hbad3 hgood3
          have x2 : wo.cell? ⟨w.heap.size, 2, none⟩ = some (.int .u8 t.fr.1) := pA.b0.cell 2
          have x3 : wo.cell? ⟨w.heap.size, 3, none⟩ = some (.int .i64 t.fr.2.1) := pA.b0.cell 3
          have x4 : wo.cell? ⟨w.heap.size, 4, none⟩ = some (.int .i64 t.fr.2.2.1) := pA.b0.cell 4
          have x5 : wo.cell? ⟨w.heap.size, 5, none⟩ = some (.int .i64 t.fr.2.2.2) := pA.b0.cell 5
          have z0 : wo.cell? ⟨w.heap.size + 1, 0, none⟩ = some (.int .u8 f.1) := pA.b1.cell 0
          have z1 : wo.cell? ⟨w.heap.size + 1, 1, none⟩ = some (.int .i64 f.2.1) := pA.b1.cell 1
          have z2 : wo.cell? ⟨w.heap.size + 1, 2, none⟩ = some (.int .i64 f.2.2.1) := pA.b1.cell 2
          have z3 : wo.cell? ⟨w.heap.size + 1, 3, none⟩ = some (.int .i64 f.2.2.2) := pA.b1.cell 3
          have Ap1 := Lib.hid ap1; clear ap1
          have R1 := Lib.hid r1; clear r1
          have Hbad3 := Lib.hid hbad3; clear hbad3
          have Hgood3 := Lib.hid hgood3; clear hgood3
          have Hallm := Lib.hid hallm; clear hallm
          have PA := Lib.hid pA; clear pA
          have Hs1 := Lib.hid hs1; clear hs1
          clear hall hps
          go_wp2_with fail
          refine (Ap1.out _).mono ?_
          rintro e w4 ⟨rfl, d4⟩
          have tB := hbw.out.trans (d4.mono hbw.out.size)
          have pB := PA.out.later d4
          clear x2 x3 x4 x5 z0 z1 z2 z3 y0 d4
          obtain ⟨wB, hwB⟩ : ∃ W, W = w4.alloc (.cells #[.int .u8 n1.1, .int .i64 n1.2.1, .int .i64 n1.2.2.1, .int .i64 n1.2.2.2] 27) := ⟨_, rfl⟩
          obtain ⟨g11, hg11⟩ : ∃ g, g = w4.heap.size := ⟨_, rfl⟩
          have b11 : Blk wB g11 27 #[.int .u8 n1.1, .int .i64 n1.2.1, .int .i64 n1.2.2.1, .int .i64 n1.2.2.2] := by rw [hwB, hg11]; exact Blk.new _ _ _
          have tB' : RowKit.Below w.heap.size w wB := by rw [hwB]; exact tB.alloc tB.size _
          have pB' := pB.later (w' := wB) (by rw [hwB]; exact al1)
          clear tB pB
          have TB' := Lib.hid tB'; clear tB'
          have PB' := Lib.hid pB'; clear pB'
          have B11 := Lib.hid b11; clear b11
          go_upto_region 21 with fail
          rw [← hwB, ← hg11]
          clear hwB hg11
          rcases R1.out with h16 | h16
          case inr =>
            (try simp only at h16)
            subst h16
            have hr1 := Hbad3.out (.inr (.inr (by decide)))
            have k2z := PB'.out.b2
            have ztz := TB'.out.size
            have k2y := blk_row (cs := #[.slice none 0 0, .slice none 0 0, .int .u8 0, .int .i64 0, .int .i64 0, .int .i64 0, .int .i64 0]) k2z
            have t2y := row_below (g := w.heap.size + 1 + 1) TB'.out (by omega) #[.slice none 0 0, .slice none 0 0, .int .u8 0, .int .i64 0, .int .i64 0, .int .i64 0, .int .i64 0]
            have Hr1 := Lib.hid hr1; clear hr1
            have K2y := Lib.hid k2y; clear k2y
            have T2y := Lib.hid t2y; clear t2y
            go_wp2_with ((with_reducible show wpList _ _ _ (Oper.mk none _ _ _ _ _ :: _) _ _); refine wpList_storeG 31 (.tmp 4) (.tmp 118) _ #[.slice none 0 0, .slice none 0 0, .int .u8 0, .int .i64 0, .int .i64 0, .int .i64 0, .int .i64 0] rfl rfl rfl rfl k2z (by kernel_rfl) rfl (by simp [Value.oneCell']) rfl ?_)
            refine bodyPost_ret (results_vec_tmp rfl _ _ _ (w.heap.size + 1 + 1) 31 _ rfl K2y.out Try.underlying31 (by kernel_rfl)) rfl ?_
            exact placePost_zero Hr1.out T2y.out
          case inl =>
            (try simp only at h16)
            subst h16
            have hr1 := Hgood3.out rfl
            have u0 := B11.out.cell 0
            have u1 := B11.out.cell 1
            have u2 := B11.out.cell 2
            have u3 := B11.out.cell 3
            have u6 : wB.cell? ⟨w.heap.size, 6, none⟩ = some (.int .i64 t.drawn) := PB'.out.b0.cell 6
            have zt := TB'.out.size
            have b8 := PB'.out.b8
            have hz8 := b8.lt
            have n8 := blk_row (cs := #[.slice A1 t.lines.length c1, .slice B1 t.marks.length d1, .int .u8 n1.1, .int .i64 n1.2.1, .int .i64 n1.2.2.1, .int .i64 n1.2.2.2, .int .i64 t.drawn]) b8
            have n2 := PB'.out.b2.same (setRow_other wB g8 (w.heap.size + 1 + 1) #[.slice A1 t.lines.length c1, .slice B1 t.marks.length d1, .int .u8 n1.1, .int .i64 n1.2.1, .int .i64 n1.2.2.1, .int .i64 n1.2.2.2, .int .i64 t.drawn] (by omega))
            have nx := PB'.out.ox.keepG (w' := wB.setRow g8 #[.slice A1 t.lines.length c1, .slice B1 t.marks.length d1, .int .u8 n1.1, .int .i64 n1.2.1, .int .i64 n1.2.2.1, .int .i64 n1.2.2.2, .int .i64 t.drawn]) (fun i hi hG => setRow_other wB g8 i #[.slice A1 t.lines.length c1, .slice B1 t.marks.length d1, .int .u8 n1.1, .int .i64 n1.2.1, .int .i64 n1.2.2.1, .int .i64 n1.2.2.2, .int .i64 t.drawn] (by
              rcases hG with hG | hG
              · exact hG.elim
              · have := (PB'.out.ox.lt i hG).1
                omega)) (by simp)
            have ny := PB'.out.oy.keepG (w' := wB.setRow g8 #[.slice A1 t.lines.length c1, .slice B1 t.marks.length d1, .int .u8 n1.1, .int .i64 n1.2.1, .int .i64 n1.2.2.1, .int .i64 n1.2.2.2, .int .i64 t.drawn]) (fun i hi hG => setRow_other wB g8 i #[.slice A1 t.lines.length c1, .slice B1 t.marks.length d1, .int .u8 n1.1, .int .i64 n1.2.1, .int .i64 n1.2.2.1, .int .i64 n1.2.2.2, .int .i64 t.drawn] (by
              rcases hG with hG | hG
              · exact hG.elim
              · have := (PB'.out.oy.lt i hG).1
                omega)) (by simp)
            have nt := row_below (g := g8) TB'.out (by omega) #[.slice A1 t.lines.length c1, .slice B1 t.marks.length d1, .int .u8 n1.1, .int .i64 n1.2.1, .int .i64 n1.2.2.1, .int .i64 n1.2.2.2, .int .i64 t.drawn]
            obtain ⟨wD, hwD⟩ : ∃ W, W = wB.setRow g8 #[.slice A1 t.lines.length c1, .slice B1 t.marks.length d1, .int .u8 n1.1, .int .i64 n1.2.1, .int .i64 n1.2.2.1, .int .i64 n1.2.2.2, .int .i64 t.drawn] := ⟨_, rfl⟩
            rw [← hwD] at n8 n2 nx ny nt
            have zD : wD.heap.size = wB.heap.size := by rw [hwD]; simp
            have o2 := blk_row (cs := #[.slice A1 t.lines.length c1, .slice B1 t.marks.length d1, .int .u8 n1.1, .int .i64 n1.2.1, .int .i64 n1.2.2.1, .int .i64 n1.2.2.2, .int .i64 t.drawn]) n2
            have ot := row_below (g := w.heap.size + 1 + 1) nt (by omega) #[.slice A1 t.lines.length c1, .slice B1 t.marks.length d1, .int .u8 n1.1, .int .i64 n1.2.1, .int .i64 n1.2.2.1, .int .i64 n1.2.2.2, .int .i64 t.drawn]
            have ox := nx.keepG (w' := wD.setRow (w.heap.size + 1 + 1) #[.slice A1 t.lines.length c1, .slice B1 t.marks.length d1, .int .u8 n1.1, .int .i64 n1.2.1, .int .i64 n1.2.2.1, .int .i64 n1.2.2.2, .int .i64 t.drawn]) (fun i hi hG => setRow_other wD (w.heap.size + 1 + 1) i #[.slice A1 t.lines.length c1, .slice B1 t.marks.length d1, .int .u8 n1.1, .int .i64 n1.2.1, .int .i64 n1.2.2.1, .int .i64 n1.2.2.2, .int .i64 t.drawn] (by
              rcases hG with hG | hG
              · exact hG.elim
              · have := (nx.lt i hG).1
                omega)) (by simp)
            have oy := ny.keepG (w' := wD.setRow (w.heap.size + 1 + 1) #[.slice A1 t.lines.length c1, .slice B1 t.marks.length d1, .int .u8 n1.1, .int .i64 n1.2.1, .int .i64 n1.2.2.1, .int .i64 n1.2.2.2, .int .i64 t.drawn]) (fun i hi hG => setRow_other wD (w.heap.size + 1 + 1) i #[.slice A1 t.lines.length c1, .slice B1 t.marks.length d1, .int .u8 n1.1, .int .i64 n1.2.1, .int .i64 n1.2.2.1, .int .i64 n1.2.2.2, .int .i64 t.drawn] (by
              rcases hG with hG | hG
              · exact hG.elim
              · have := (ny.lt i hG).1
                omega)) (by simp)
            have N8 := Lib.hid n8; clear n8
            have Nx := Lib.hid nx; clear nx
            have Ny := Lib.hid ny; clear ny
            have Nt := Lib.hid nt; clear nt
            have Hr1 := Lib.hid hr1; clear hr1
            have O2 := Lib.hid o2; clear o2
            have Ot := Lib.hid ot; clear ot
            have Ox := Lib.hid ox; clear ox
            have Oy := Lib.hid oy; clear oy
            have HwD := Lib.hid hwD; clear hwD
            go_upto_region 24 with ((with_reducible show wpList _ _ _ (Oper.mk none _ _ _ _ _ :: _) _ _); refine wpList_storeAtG 29 (.tmp 125) (.tmp 124) 2 _ #[.int .u8 n1.1, .int .i64 n1.2.1, .int .i64 n1.2.2.1, .int .i64 n1.2.2.2, .int .i64 t.drawn] #[.slice A1 t.lines.length c1, .slice B1 t.marks.length d1, .int .u8 n1.1, .int .i64 n1.2.1, .int .i64 n1.2.2.1, .int .i64 n1.2.2.2, .int .i64 t.drawn] rfl rfl rfl rfl b8 (by kernel_rfl) (by simp) (by simp [Value.oneCell']) rfl rfl ?_)
            rw [← HwD.out]
            clear u0 u1 u2 u3 u6 b8
            have v0 := N8.out.cell 0
            have v1 := N8.out.cell 1
            have v2 := N8.out.cell 2
            have v3 := N8.out.cell 3
            have v4 := N8.out.cell 4
            have v5 := N8.out.cell 5
            have v6 := N8.out.cell 6
            go_wp2_with ((with_reducible show wpList _ _ _ (Oper.mk none _ _ _ _ _ :: _) _ _); refine wpList_storeG 31 (.tmp 4) (.tmp 126) _ #[.slice A1 t.lines.length c1, .slice B1 t.marks.length d1, .int .u8 n1.1, .int .i64 n1.2.1, .int .i64 n1.2.2.1, .int .i64 n1.2.2.2, .int .i64 t.drawn] rfl rfl rfl rfl n2 (by kernel_rfl) rfl (by simp [Value.oneCell']) rfl ?_)
            refine bodyPost_ret (results_vec_tmp rfl _ _ _ (w.heap.size + 1 + 1) 31 _ rfl O2.out Try.underlying31 (by kernel_rfl)) rfl ?_
            have sx := Ox.out.sl'
            have sy := Oy.out.sl'
            rw [Hr1.out]
            refine ⟨A1, c1, B1, d1, ?_, sx.2.wide fun k hk => hk.2, sy.2.wide fun k hk => hk.2, Ot.out⟩
            simp only [List.length_map]
            rfl
end Go.Proofs.Ytldccpmnboebmaa
