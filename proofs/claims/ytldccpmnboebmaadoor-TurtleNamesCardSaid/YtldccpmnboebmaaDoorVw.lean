/-
  Layer 17: the walk of the program's Place.
-/
import Derived.Test.YtldccpmnboebmaaDoorVv
namespace Go.Proofs.YtldccpmnboebmaaDoor
open Go.RowKit Go.Sort
set_option linter.unusedVariables false

set_option maxRecDepth 100000 in
set_option maxHeartbeats 16000000 in
theorem place_calls (A : Option Addr) (c : Nat) (B : Option Addr) (d : Nat) (t : Trk) (f : Fr) (w : World) (hl : SlAt pLn (Old w) w A c t.lines) (hm : SlAt pMk (Old w) w B d t.marks) (ht0 : Fits .u8 t.fr.1) (hf0 : 0 ≤ f.1) : Calls Tryd.prog 19 #[.agg #[.slice A t.lines.length c, .slice B t.marks.length d, .int .u8 t.fr.1, .int .i64 t.fr.2.1, .int .i64 t.fr.2.2.1, .int .i64 t.fr.2.2.2, .int .i64 t.drawn], .agg #[.int .u8 f.1, .int .i64 f.2.1, .int .i64 f.2.2.1, .int .i64 f.2.2.2]] w (PlacePost (placeT t f) w) := by
  have q1 := hl.lenle
  have q2 := hm.lenle
  obtain ⟨W, hW⟩ : ∃ W, W = ((w.alloc (.cells #[.slice A t.lines.length c, .slice B t.marks.length d, .int .u8 t.fr.1, .int .i64 t.fr.2.1, .int .i64 t.fr.2.2.1, .int .i64 t.fr.2.2.2, .int .i64 t.drawn] 36)).alloc (.cells #[.int .u8 f.1, .int .i64 f.2.1, .int .i64 f.2.2.1, .int .i64 f.2.2.2] 26)).alloc (.cells #[.slice none 0 0, .slice none 0 0, .int .u8 0, .int .i64 0, .int .i64 0, .int .i64 0, .int .i64 0] 36) := ⟨_, rfl⟩
  have b0 : Blk W w.heap.size 36 #[.slice A t.lines.length c, .slice B t.marks.length d, .int .u8 t.fr.1, .int .i64 t.fr.2.1, .int .i64 t.fr.2.2.1, .int .i64 t.fr.2.2.2, .int .i64 t.drawn] := by rw [hW]; exact ((Blk.new w _ _).alloc _).alloc _
  have b1 : Blk W (w.heap.size + 1) 26 #[.int .u8 f.1, .int .i64 f.2.1, .int .i64 f.2.2.1, .int .i64 f.2.2.2] := by
    rw [hW]
    have := (Blk.new (w.alloc (.cells #[.slice A t.lines.length c, .slice B t.marks.length d, .int .u8 t.fr.1, .int .i64 t.fr.2.1, .int .i64 t.fr.2.2.1, .int .i64 t.fr.2.2.2, .int .i64 t.drawn] 36)) 26 #[.int .u8 f.1, .int .i64 f.2.1, .int .i64 f.2.2.1, .int .i64 f.2.2.2]).alloc (.cells #[.slice none 0 0, .slice none 0 0, .int .u8 0, .int .i64 0, .int .i64 0, .int .i64 0, .int .i64 0] 36)
    simpa using this
  have b2 : Blk W (w.heap.size + 1 + 1) 36 #[.slice none 0 0, .slice none 0 0, .int .u8 0, .int .i64 0, .int .i64 0, .int .i64 0, .int .i64 0] := by
    rw [hW]
    have := Blk.new ((w.alloc (.cells #[.slice A t.lines.length c, .slice B t.marks.length d, .int .u8 t.fr.1, .int .i64 t.fr.2.1, .int .i64 t.fr.2.2.1, .int .i64 t.fr.2.2.2, .int .i64 t.drawn] 36)).alloc (.cells #[.int .u8 f.1, .int .i64 f.2.1, .int .i64 f.2.2.1, .int .i64 f.2.2.2] 26)) 36 #[.slice none 0 0, .slice none 0 0, .int .u8 0, .int .i64 0, .int .i64 0, .int .i64 0, .int .i64 0]
    simpa using this
  have t0 : RowKit.Below w.heap.size w W := by rw [hW]; exact al3
  have zW : W.heap.size = w.heap.size + 3 := by rw [hW]; simp
  have f1 := fun W' (h : RowKit.Below w.heap.size w W') => checked_calls A c B d t W' (hl.later h) (hm.later h)
  have f2 := fun W' => fCheck_calls f W'
  have hp0 : checkT t ≠ 0 → placeT t f = (zeroT, checkT t) := fun h => if_neg h
  have hp1 : checkT t = 0 → checkFr f ≠ 0 → placeT t f = (zeroT, checkFr f) := fun h h' => by unfold placeT; rw [if_pos h, if_neg h']
  have hp2 := @placeT_bad t f
  have hp3 := @placeT_good t f
  have hg := @checkT_ok t
  obtain ⟨z, hz⟩ : ∃ z, checkT t = z := ⟨_, rfl⟩
  rw [hz] at f1 hp0 hp1 hp2 hp3 hg
  have hfz := hf0
  have B0 := Lib.hid b0; clear b0
  have B1 := Lib.hid b1; clear b1
  have B2 := Lib.hid b2; clear b2
  have T0 := Lib.hid t0; clear t0
  have Hl := Lib.hid hl; clear hl
  have Hm := Lib.hid hm; clear hm
  have F1 := Lib.hid f1; clear f1
  have F2 := Lib.hid f2; clear f2
  have Hp0 := Lib.hid hp0; clear hp0
  have Hp1 := Lib.hid hp1; clear hp1
  have Hp2 := Lib.hid hp2; clear hp2
  have Hp3 := Lib.hid hp3; clear hp3
  have Hg := Lib.hid hg; clear hg
  have Hz := Lib.hid hz; clear hz
  have y0 := B0.out.cell 0
  have y1 := B0.out.cell 1
  have y2 := B0.out.cell 2
  have y3 := B0.out.cell 3
  have y4 := B0.out.cell 4
  have y5 := B0.out.cell 5
  have y6 := B0.out.cell 6
  go_enter Tryd.func19, Tryd.ntmps19
  go_wp2_with fail
  (try rw [← hW])
  have HW := Lib.hid hW; clear hW
  refine (F1.out _ T0.out).mono ?_
  rintro e w1 ⟨rfl, d1⟩
  have k0 := B0.out.same (d1.block _ B0.out.lt)
  have k1 := B1.out.same (d1.block _ B1.out.lt)
  have k2 := B2.out.same (d1.block _ B2.out.lt)
  have t1 := T0.out.trans (d1.mono T0.out.size)
  have zw1 := d1.size
  clear y0 y1 y2 y3 y4 y5 y6 d1
  by_cases h0 : z = 0
  case neg =>
    have h0' : (z != 0) = true := by simpa using h0
    have hr1 := Hp0.out h0
    have k2' := blk_row (cs := #[.slice none 0 0, .slice none 0 0, .int .u8 0, .int .i64 0, .int .i64 0, .int .i64 0, .int .i64 0]) k2
    have t1' := row_below (g := w.heap.size + 1 + 1) t1 (by omega) #[.slice none 0 0, .slice none 0 0, .int .u8 0, .int .i64 0, .int .i64 0, .int .i64 0, .int .i64 0]
    have Hr1 := Lib.hid hr1; clear hr1
    have K2' := Lib.hid k2'; clear k2'
    have T1' := Lib.hid t1'; clear t1'
    have T1 := Lib.hid t1; clear t1
    have K0 := Lib.hid k0; clear k0
    have K1 := Lib.hid k1; clear k1
    go_wp2_with ((with_reducible show wpList _ _ _ (Oper.mk none _ _ _ _ _ :: _) _ _); refine wpList_storeG 36 (.tmp 4) (.tmp 25) _ #[.slice none 0 0, .slice none 0 0, .int .u8 0, .int .i64 0, .int .i64 0, .int .i64 0, .int .i64 0] rfl rfl rfl rfl k2 (by kernel_rfl) rfl (by simp [Value.oneCell']) rfl ?_)
    refine bodyPost_ret (results_vec_tmp rfl _ _ _ (w.heap.size + 1 + 1) 36 _ rfl K2'.out Tryd.underlying36 (by kernel_rfl)) rfl ?_
    exact placePost_zero Hr1.out T1'.out
  case pos =>
  subst h0
  obtain ⟨hbl, hbm, hcf, _, _⟩ := Hg.out rfl
  have hq1 := Hp1.out rfl
  have hq2 := Hp2.out rfl
  have hq3 := Hp3.out rfl
  obtain ⟨zf, hzf⟩ : ∃ z, checkFr f = z := ⟨_, rfl⟩
  have f2b := F2.out
  rw [hzf] at hq1 hq2 hq3 f2b
  have y0 := k1.cell 0
  have y1 := k1.cell 1
  have y2 := k1.cell 2
  have y3 := k1.cell 3
  have K0 := Lib.hid k0; clear k0
  have K1 := Lib.hid k1; clear k1
  have K2 := Lib.hid k2; clear k2
  have T1 := Lib.hid t1; clear t1
  have Hq1 := Lib.hid hq1; clear hq1
  have Hq2 := Lib.hid hq2; clear hq2
  have Hq3 := Lib.hid hq3; clear hq3
  have Hbl := Lib.hid hbl; clear hbl
  have Hbm := Lib.hid hbm; clear hbm
  have Hcf := Lib.hid hcf; clear hcf
  have Hzf := Lib.hid hzf; clear hzf
  have F2b := Lib.hid f2b; clear f2b
  go_wp2_with fail
  refine (F2b.out _).mono ?_
  rintro e w2 ⟨rfl, d2⟩
  have k0 := K0.out.same (d2.block _ K0.out.lt)
  have k1 := K1.out.same (d2.block _ K1.out.lt)
  have k2 := K2.out.same (d2.block _ K2.out.lt)
  have t2 := T1.out.trans (d2.mono T1.out.size)
  have zw2 := d2.size
  clear y0 y1 y2 y3 d2
  by_cases h1 : zf = 0
  case neg =>
    have h1' : (zf != 0) = true := by simpa using h1
    have hr1 := Hq1.out h1
    have k2' := blk_row (cs := #[.slice none 0 0, .slice none 0 0, .int .u8 0, .int .i64 0, .int .i64 0, .int .i64 0, .int .i64 0]) k2
    have t2' := row_below (g := w.heap.size + 1 + 1) t2 (by omega) #[.slice none 0 0, .slice none 0 0, .int .u8 0, .int .i64 0, .int .i64 0, .int .i64 0, .int .i64 0]
    have Hr1 := Lib.hid hr1; clear hr1
    have K2' := Lib.hid k2'; clear k2'
    have T2' := Lib.hid t2'; clear t2'
    have T2 := Lib.hid t2; clear t2
    have K0 := Lib.hid k0; clear k0
    have K1 := Lib.hid k1; clear k1
    go_wp2_with ((with_reducible show wpList _ _ _ (Oper.mk none _ _ _ _ _ :: _) _ _); refine wpList_storeG 36 (.tmp 4) (.tmp 31) _ #[.slice none 0 0, .slice none 0 0, .int .u8 0, .int .i64 0, .int .i64 0, .int .i64 0, .int .i64 0] rfl rfl rfl rfl k2 (by kernel_rfl) rfl (by simp [Value.oneCell']) rfl ?_)
    refine bodyPost_ret (results_vec_tmp rfl _ _ _ (w.heap.size + 1 + 1) 36 _ rfl K2'.out Tryd.underlying36 (by kernel_rfl)) rfl ?_
    exact placePost_zero Hr1.out T2'.out
  case pos =>
  subst h1
  have hbad := Hq2.out rfl
  have hgood := Hq3.out rfl
  obtain ⟨w3, hw3⟩ : ∃ W, W = w2.alloc (.cells #[.slice none 0 0, .slice none 0 0, .int .u8 0, .int .i64 0, .int .i64 0, .int .i64 0, .int .i64 0] 36) := ⟨_, rfl⟩
  obtain ⟨g8, hg8⟩ : ∃ g, g = w2.heap.size := ⟨_, rfl⟩
  have ps : PlSt w.heap.size g8 #[.slice A t.lines.length c, .slice B t.marks.length d, .int .u8 t.fr.1, .int .i64 t.fr.2.1, .int .i64 t.fr.2.2.1, .int .i64 t.fr.2.2.2, .int .i64 t.drawn] #[.int .u8 f.1, .int .i64 f.2.1, .int .i64 f.2.2.1, .int .i64 f.2.2.2] (.slice none 0 0) (.slice none 0 0) [] [] w3 := by
    rw [hw3, hg8]
    exact ⟨k0.alloc _, k1.alloc _, k2.alloc _, Blk.new _ _ _, Own.nil, Own.nil, (by intro k hk; cases hk), by omega⟩
  have t3 : RowKit.Below w.heap.size w w3 := by rw [hw3]; exact t2.alloc t2.size _
  have y0 : w3.cell? ⟨w.heap.size, 0, none⟩ = some (.slice A t.lines.length c) := ps.b0.cell 0
  clear k0 k1 k2 t2
  have Ps := Lib.hid ps; clear ps
  have T3 := Lib.hid t3; clear t3
  have Hbad := Lib.hid hbad; clear hbad
  have Hgood := Lib.hid hgood; clear hgood
  go_upto_region 8 with fail
  rw [← hw3, ← hg8]
  have hg8' : w.heap.size + 2 < g8 := by omega
  clear hw3 hg8
  go_wp2
  clear y0
  go_loopw [36] (fun i wr => ∃ (k : Nat) (A1 : Option Addr) (c1 : Nat), k ≤ t.lines.length ∧ i = .int .i64 k ∧ Hid (RowKit.Below w.heap.size w wr) ∧ Hid (PlSt w.heap.size g8 #[.slice A t.lines.length c, .slice B t.marks.length d, .int .u8 t.fr.1, .int .i64 t.fr.2.1, .int .i64 t.fr.2.2.1, .int .i64 t.fr.2.2.2, .int .i64 t.drawn] #[.int .u8 f.1, .int .i64 f.2.1, .int .i64 f.2.2.1, .int .i64 f.2.2.2] (.slice A1 k c1) (.slice none 0 0) ((t.lines.take k).map (plL f)) [] wr) ∧ Hid (t.lines.all (okL f) = (t.lines.drop k).all (okL f))) (fun i _ => t.lines.length - (intOf i).toNat)
  case atStart => exact ⟨0, none, 0, Nat.zero_le _, rfl, T3.out, Ps.out, rfl⟩
  case round =>
    obtain ⟨k, A1, c1, hk, rfl, hbw, hps, hall⟩ := hrel
    by_cases hlt : k < t.lines.length
    case pos =>
      obtain ⟨b, o, l, hd, rfl, hob, c0, c1', c2, c3, c4, c5, c6, z1, z2, z3⟩ := (Hl.out.later hbw.out).getLn hlt
      have hok := badL_at Hbl.out hd.out
      obtain ⟨i1, i2⟩ := lnOk_in hok
      have hst := hall.out.trans (all_drop (p := okL f) hd.out)
      have hmt := map_take (p := plL f) hd.out
      have hpl : plL f l = ⟨imageF f l.fr, imageF f l.to, l.dep⟩ := rfl
      have hkl : okL f l = (inV (-1000000) (imageF f l.fr) && inV (-1000000) (imageF f l.to)) := rfl
      have r1 := applyF_ok Hzf.out i1
      have r2 := applyF_ok Hzf.out i2
      have ap1 := fun W' => apply_calls f l.fr W' hfz
      have ap2 := fun W' => apply_calls f l.to W' hfz
      obtain ⟨m1, e1⟩ : ∃ m, imageF f l.fr = m := ⟨_, rfl⟩
      obtain ⟨m2, e2⟩ : ∃ m, imageF f l.to = m := ⟨_, rfl⟩
      rw [e1] at hpl hkl r1
      rw [e2] at hpl hkl r2
      obtain ⟨n1, hn1⟩ : ∃ b, inV (-1000000) m1 = b := ⟨_, rfl⟩
      obtain ⟨n2, hn2⟩ : ∃ b, inV (-1000000) m2 = b := ⟨_, rfl⟩
      rw [hn1] at hkl r1
      rw [hn2] at hkl r2
      obtain ⟨s1, hs1⟩ : ∃ s, applyF f l.fr = s := ⟨_, rfl⟩
      obtain ⟨s2, hs2⟩ : ∃ s, applyF f l.to = s := ⟨_, rfl⟩
      rw [hs1] at r1 ap1
      rw [hs2] at r2 ap2
      obtain ⟨wA, hwA⟩ : ∃ W, W = wr.alloc (.cells #[.int .i64 l.fr.1, .int .i64 l.fr.2.1, .int .i64 l.fr.2.2, .int .i64 l.to.1, .int .i64 l.to.2.1, .int .i64 l.to.2.2, .int .i64 l.dep] 46) := ⟨_, rfl⟩
      have bl : Blk wA wr.heap.size 46 #[.int .i64 l.fr.1, .int .i64 l.fr.2.1, .int .i64 l.fr.2.2, .int .i64 l.to.1, .int .i64 l.to.2.1, .int .i64 l.to.2.2, .int .i64 l.dep] := by rw [hwA]; exact Blk.new _ _ _
      have tA : RowKit.Below w.heap.size w wA := by rw [hwA]; exact hbw.out.alloc hbw.out.size _
      have pA := hps.out.later (w' := wA) (by rw [hwA]; exact al1)
      obtain ⟨gl, hgl⟩ : ∃ g, g = wr.heap.size := ⟨_, rfl⟩
      rw [← hgl] at bl
      have x0 := bl.cell 0
      have x1 := bl.cell 1
      have x2 := bl.cell 2
      have y0 : wA.cell? ⟨w.heap.size + 1, 0, none⟩ = some (.int .u8 f.1) := pA.b1.cell 0
      have y1 : wA.cell? ⟨w.heap.size + 1, 1, none⟩ = some (.int .i64 f.2.1) := pA.b1.cell 1
      have y2 : wA.cell? ⟨w.heap.size + 1, 2, none⟩ = some (.int .i64 f.2.2.1) := pA.b1.cell 2
      have y3 : wA.cell? ⟨w.heap.size + 1, 3, none⟩ = some (.int .i64 f.2.2.2) := pA.b1.cell 3
      have Ap1 := Lib.hid ap1; clear ap1
      have Ap2 := Lib.hid ap2; clear ap2
      have R1 := Lib.hid r1; clear r1
      have R2 := Lib.hid r2; clear r2
      have Hkl := Lib.hid hkl; clear hkl
      have Hst := Lib.hid hst; clear hst
      have Hmt := Lib.hid hmt; clear hmt
      have Hpl := Lib.hid hpl; clear hpl
      have Hok := Lib.hid hok; clear hok
      have I1 := Lib.hid i1; clear i1
      have I2 := Lib.hid i2; clear i2
      have E1 := Lib.hid e1; clear e1
      have E2 := Lib.hid e2; clear e2
      have Hn1 := Lib.hid hn1; clear hn1
      have Hn2 := Lib.hid hn2; clear hn2
      have Hs1 := Lib.hid hs1; clear hs1
      have Hs2 := Lib.hid hs2; clear hs2
      have Bl := Lib.hid bl; clear bl
      have TA := Lib.hid tA; clear tA
      have PA := Lib.hid pA; clear pA
      have Z1 := Lib.hid z1; clear z1
      have Z2 := Lib.hid z2; clear z2
      have Z3 := Lib.hid z3; clear z3
      have Hps := Lib.hid hps; clear hps
      have Hall := Lib.hid hall; clear hall
      clear hbw
      go_upto_region 11 with fail
      rw [← hwA, ← hgl]
      clear hwA hgl c0 c1' c2 c3 c4 c5 c6
      go_wp2_with fail
      refine (Ap1.out _).mono ?_
      rintro e w4 ⟨rfl, d4⟩
      have bl := Bl.out.same (d4.block _ Bl.out.lt)
      have tB := TA.out.trans (d4.mono TA.out.size)
      have pB := PA.out.later d4
      clear x0 x1 x2 y0 y1 y2 y3 d4
      obtain ⟨wB, hwB⟩ : ∃ W, W = w4.alloc (.cells #[.int .i64 s1.1.1, .int .i64 s1.1.2.1, .int .i64 s1.1.2.2] 24) := ⟨_, rfl⟩
      obtain ⟨g11, hg11⟩ : ∃ g, g = w4.heap.size := ⟨_, rfl⟩
      have b11 : Blk wB g11 24 #[.int .i64 s1.1.1, .int .i64 s1.1.2.1, .int .i64 s1.1.2.2] := by rw [hwB, hg11]; exact Blk.new _ _ _
      have bl' : Blk wB gl 46 #[.int .i64 l.fr.1, .int .i64 l.fr.2.1, .int .i64 l.fr.2.2, .int .i64 l.to.1, .int .i64 l.to.2.1, .int .i64 l.to.2.2, .int .i64 l.dep] := by rw [hwB]; exact bl.alloc _
      have tB' : RowKit.Below w.heap.size w wB := by rw [hwB]; exact tB.alloc tB.size _
      have pB' := pB.later (w' := wB) (by rw [hwB]; exact al1)
      have x3 := bl'.cell 3
      have x4 := bl'.cell 4
      have x5 := bl'.cell 5
      have y0 : wB.cell? ⟨w.heap.size + 1, 0, none⟩ = some (.int .u8 f.1) := pB'.b1.cell 0
      have y1 : wB.cell? ⟨w.heap.size + 1, 1, none⟩ = some (.int .i64 f.2.1) := pB'.b1.cell 1
      have y2 : wB.cell? ⟨w.heap.size + 1, 2, none⟩ = some (.int .i64 f.2.2.1) := pB'.b1.cell 2
      have y3 : wB.cell? ⟨w.heap.size + 1, 3, none⟩ = some (.int .i64 f.2.2.2) := pB'.b1.cell 3
      clear bl tB pB
      have Bl' := Lib.hid bl'; clear bl'
      have TB' := Lib.hid tB'; clear tB'
      have PB' := Lib.hid pB'; clear pB'
      have B11 := Lib.hid b11; clear b11
      go_upto_region 12 with fail
      rw [← hwB, ← hg11]
      clear hwB hg11
      go_wp2_with fail
      refine (Ap2.out _).mono ?_
      rintro e w5 ⟨rfl, d5⟩
      have bl := Bl'.out.same (d5.block _ Bl'.out.lt)
      have bk := B11.out.same (d5.block _ B11.out.lt)
      have tC := TB'.out.trans (d5.mono TB'.out.size)
      have pC := PB'.out.later d5
      clear x3 x4 x5 y0 y1 y2 y3 d5
      obtain ⟨wC, hwC⟩ : ∃ W, W = w5.alloc (.cells #[.int .i64 s2.1.1, .int .i64 s2.1.2.1, .int .i64 s2.1.2.2] 24) := ⟨_, rfl⟩
      obtain ⟨g13, hg13⟩ : ∃ g, g = w5.heap.size := ⟨_, rfl⟩
      have b13 : Blk wC g13 24 #[.int .i64 s2.1.1, .int .i64 s2.1.2.1, .int .i64 s2.1.2.2] := by rw [hwC, hg13]; exact Blk.new _ _ _
      have bk' : Blk wC g11 24 #[.int .i64 s1.1.1, .int .i64 s1.1.2.1, .int .i64 s1.1.2.2] := by rw [hwC]; exact bk.alloc _
      have bl' : Blk wC gl 46 #[.int .i64 l.fr.1, .int .i64 l.fr.2.1, .int .i64 l.fr.2.2, .int .i64 l.to.1, .int .i64 l.to.2.1, .int .i64 l.to.2.2, .int .i64 l.dep] := by rw [hwC]; exact bl.alloc _
      have tC' : RowKit.Below w.heap.size w wC := by rw [hwC]; exact tC.alloc tC.size _
      have pC' := pC.later (w' := wC) (by rw [hwC]; exact al1)
      clear bl bk tC pC
      have B13 := Lib.hid b13; clear b13
      have Bk' := Lib.hid bk'; clear bk'
      have Bl' := Lib.hid bl'; clear bl'
      have TC' := Lib.hid tC'; clear tC'
      have PC' := Lib.hid pC'; clear pC'
      go_upto_region 13 with fail
      rw [← hwC, ← hg13]
      clear hwC hg13
      cases n1
      case false =>
        have hs1 := R1.out
        rw [if_neg (by decide)] at hs1
        subst hs1
        have hr1 := Hbad.out (.inl (by rw [Hst.out, Hkl.out]; rfl))
        have k2 := PC'.out.b2
        have zt := TC'.out.size
        have k2' := blk_row (cs := #[.slice none 0 0, .slice none 0 0, .int .u8 0, .int .i64 0, .int .i64 0, .int .i64 0, .int .i64 0]) k2
        have t2' := row_below (g := w.heap.size + 1 + 1) TC'.out (by omega) #[.slice none 0 0, .slice none 0 0, .int .u8 0, .int .i64 0, .int .i64 0, .int .i64 0, .int .i64 0]
        have Hr1 := Lib.hid hr1; clear hr1
        have K2' := Lib.hid k2'; clear k2'
        have T2' := Lib.hid t2'; clear t2'
        go_wp2_with ((with_reducible show wpList _ _ _ (Oper.mk none _ _ _ _ _ :: _) _ _); refine wpList_storeG 36 (.tmp 4) (.tmp 60) _ #[.slice none 0 0, .slice none 0 0, .int .u8 0, .int .i64 0, .int .i64 0, .int .i64 0, .int .i64 0] rfl rfl rfl rfl k2 (by kernel_rfl) rfl (by simp [Value.oneCell']) rfl ?_)
        refine bodyPost_ret (results_vec_tmp rfl _ _ _ (w.heap.size + 1 + 1) 36 _ rfl K2'.out Tryd.underlying36 (by kernel_rfl)) rfl ?_
        exact placePost_zero Hr1.out T2'.out
      case true =>
      have hs1 := R1.out
      rw [if_pos rfl] at hs1
      subst hs1
      cases n2
      case false =>
        have hs2 := R2.out
        rw [if_neg (by decide)] at hs2
        subst hs2
        have hr1 := Hbad.out (.inl (by rw [Hst.out, Hkl.out]; rfl))
        have k2 := PC'.out.b2
        have zt := TC'.out.size
        have k2' := blk_row (cs := #[.slice none 0 0, .slice none 0 0, .int .u8 0, .int .i64 0, .int .i64 0, .int .i64 0, .int .i64 0]) k2
        have t2' := row_below (g := w.heap.size + 1 + 1) TC'.out (by omega) #[.slice none 0 0, .slice none 0 0, .int .u8 0, .int .i64 0, .int .i64 0, .int .i64 0, .int .i64 0]
        have Hr1 := Lib.hid hr1; clear hr1
        have K2' := Lib.hid k2'; clear k2'
        have T2' := Lib.hid t2'; clear t2'
        go_wp2_with ((with_reducible show wpList _ _ _ (Oper.mk none _ _ _ _ _ :: _) _ _); refine wpList_storeG 36 (.tmp 4) (.tmp 60) _ #[.slice none 0 0, .slice none 0 0, .int .u8 0, .int .i64 0, .int .i64 0, .int .i64 0, .int .i64 0] rfl rfl rfl rfl k2 (by kernel_rfl) rfl (by simp [Value.oneCell']) rfl ?_)
        refine bodyPost_ret (results_vec_tmp rfl _ _ _ (w.heap.size + 1 + 1) 36 _ rfl K2'.out Tryd.underlying36 (by kernel_rfl)) rfl ?_
        exact placePost_zero Hr1.out T2'.out
      case true =>
        have hs2 := R2.out
        rw [if_pos rfl] at hs2
        subst hs2
        have hst' : t.lines.all (okL f) = (t.lines.drop (k + 1)).all (okL f) := by rw [Hst.out, Hkl.out]; rfl
        have hR : pLn.R (fun _ => False) wC (Value.agg #[.int .i64 m1.1, .int .i64 m1.2.1, .int .i64 m1.2.2, .int .i64 m2.1, .int .i64 m2.2.1, .int .i64 m2.2.2, .int .i64 l.dep]).cells.toList (plL f l) := by
          rw [Hpl.out]
          exact ⟨rfl, fitV_in Hn1.out, fitV_in Hn2.out, Z3.out⟩
        have hox := PC'.out.ox
        have hln : ((t.lines.take k).map (plL f)).length + 1 = k + 1 := by rw [List.length_map, List.length_take]; omega
        have hrm : Room ((t.lines.take k).map (plL f)).length := room_of (by rw [List.length_map, List.length_take]; omega)
        have hba : g8 + 1 ≤ wC.heap.size := PC'.out.b8.lt
        have hbm8 := PC'.out.b8
        have v0 := hbm8.cell 0
        have u0 := Bk'.out.cell 0
        have u1 := Bk'.out.cell 1
        have u2 := Bk'.out.cell 2
        have u3 := B13.out.cell 0
        have u4 := B13.out.cell 1
        have u5 := B13.out.cell 2
        have u6 := Bl'.out.cell 6
        have hne : some g8 ≠ (Value.slice A1 k c1).ownBlock := fun he => by have := (hox.lt _ he.symm).1; omega
        have hlt8 := hbm8.lt
        have Hst' := Lib.hid hst'; clear hst'
        have HR := Lib.hid hR; clear hR
        have Hox := Lib.hid hox; clear hox
        have Hln := Lib.hid hln; clear hln
        have Hrm := Lib.hid hrm; clear hrm
        have Hne := Lib.hid hne; clear hne
        have Hbm8 := Lib.hid hbm8; clear hbm8
        go_wp2_with ((with_reducible show wpList _ _ _ (Oper.mk (some 68) _ _ _ _ _ :: _) _ _); refine wpList_pushG (E := pLn) (xs := (t.lines.take k).map (plL f)) (v := .slice A1 k c1) (base := g8 + 1) (G := fun _ => False) 33 46 (.agg #[.int .i64 0, .int .i64 0, .int .i64 0, .int .i64 0, .int .i64 0, .int .i64 0, .int .i64 0]) 56 68 (.tmp 62) (.tmp 67) rfl rfl rfl rfl rfl Tryd.underlying33 (by kernel_rfl) rfl (by decide) (fun _ => rfl) (fun _ => rfl) Hox.out (.agg #[.int .i64 m1.1, .int .i64 m1.2.1, .int .i64 m1.2.2, .int .i64 m2.1, .int .i64 m2.2.1, .int .i64 m2.2.2, .int .i64 l.dep]) rfl (plL f l) (fun _ => False) HR.out (fun _ h => h.elim) (k + 1) Hln.out Hrm.out ⟨by decide, by decide⟩ hba ?_; intro A10 c10 w7 hown7 hg7; have hbm7 := Hbm8.out.same (hg7.out.oth _ hlt8 Hne.out); have x7 := hbm7.cell 0; have f7 := hbm7.free 0; clear hbm7)
        go_roundw
        case rel =>
          have hps' := PC'.out.pushX hown7.out hg7.out
          have hz7 := hg7.out.bel.size
          refine ⟨k + 1, A10, c10, hlt, by go_num, ?_, ?_, Hst'.out⟩
          · exact (TC'.out.trans (hg7.out.bel.mono (by omega))).setCell (by show w.heap.size ≤ g8; omega) _
          · unfold Hid
            rw [Hmt.out]
            exact hps'
        case measure => simp [intOf]; omega
    case neg =>
    have hall' := hall.out.trans (all_end hlt)
    obtain rfl : k = t.lines.length := by omega
    have hps' := hps.out
    rw [List.take_length] at hps'
    have y1 : wr.cell? ⟨w.heap.size, 1, none⟩ = some (.slice B t.marks.length d) := hps'.b0.cell 1
    have Hall' := Lib.hid hall'; clear hall'
    have Hps' := Lib.hid hps'; clear hps'
    clear hall hps
    go_wp2
    clear y1
    go_loopw [75] (fun i wr => ∃ (k : Nat) (B1 : Option Addr) (d1 : Nat), k ≤ t.marks.length ∧ i = .int .i64 k ∧ Hid (RowKit.Below w.heap.size w wr) ∧ Hid (PlSt w.heap.size g8 #[.slice A t.lines.length c, .slice B t.marks.length d, .int .u8 t.fr.1, .int .i64 t.fr.2.1, .int .i64 t.fr.2.2.1, .int .i64 t.fr.2.2.2, .int .i64 t.drawn] #[.int .u8 f.1, .int .i64 f.2.1, .int .i64 f.2.2.1, .int .i64 f.2.2.2] (.slice A1 t.lines.length c1) (.slice B1 k d1) (t.lines.map (plL f)) ((t.marks.take k).map (plM f)) wr) ∧ Hid (t.marks.all (okM f) = (t.marks.drop k).all (okM f))) (fun i _ => t.marks.length - (intOf i).toNat)
    case atStart => exact ⟨0, none, 0, Nat.zero_le _, rfl, hbw.out, Hps'.out, rfl⟩
    case round =>
      clear hbw
      obtain ⟨k, B1, d1, hk, rfl, hbw, hps, hall⟩ := hrel
      by_cases hlt : k < t.marks.length
      case pos =>
        obtain ⟨b, o, m, hd, rfl, hob, c0, c1', c2, c3, c4, z1, z2, z3⟩ := (Hm.out.later hbw.out).getMk hlt
        have hck := badM_at Hbm.out hd.out
        have hst := hall.out.trans (all_drop (p := okM f) hd.out)
        have hmt := map_take (p := plM f) hd.out
        have hpl : plM f m = ⟨m.name, (withinF (m.turn, m.pl) f).1.1, (withinF (m.turn, m.pl) f).1.2⟩ := rfl
        have hkl : okM f m = ((withinF (m.turn, m.pl) f).2 == 0) := rfl
        have r1 := withinF_err hck Hzf.out
        have ap1 := fun W' => withinE_calls (m.turn, m.pl) f W' (by have := z2.u8; simp only; omega) hfz
        have hft := @withinF_fit (m.turn, m.pl) f
        obtain ⟨s1, hs1⟩ : ∃ s, withinF (m.turn, m.pl) f = s := ⟨_, rfl⟩
        rw [hs1] at hpl hkl r1 ap1 hft
        obtain ⟨n1, e1⟩ := s1
        simp only at hpl hkl r1 ap1 hft
        obtain ⟨wA, hwA⟩ : ∃ W, W = wr.alloc (.cells #[.int .u8 m.name, .int .u8 m.turn, .int .i64 m.pl.1, .int .i64 m.pl.2.1, .int .i64 m.pl.2.2] 65) := ⟨_, rfl⟩
        have bl : Blk wA wr.heap.size 65 #[.int .u8 m.name, .int .u8 m.turn, .int .i64 m.pl.1, .int .i64 m.pl.2.1, .int .i64 m.pl.2.2] := by rw [hwA]; exact Blk.new _ _ _
        have tA : RowKit.Below w.heap.size w wA := by rw [hwA]; exact hbw.out.alloc hbw.out.size _
        have pA := hps.out.later (w' := wA) (by rw [hwA]; exact al1)
        obtain ⟨gl, hgl⟩ : ∃ g, g = wr.heap.size := ⟨_, rfl⟩
        rw [← hgl] at bl
        have x1 := bl.cell 1
        have x2 := bl.cell 2
        have x3 := bl.cell 3
        have x4 := bl.cell 4
        have y0 : wA.cell? ⟨w.heap.size + 1, 0, none⟩ = some (.int .u8 f.1) := pA.b1.cell 0
        have y1 : wA.cell? ⟨w.heap.size + 1, 1, none⟩ = some (.int .i64 f.2.1) := pA.b1.cell 1
        have y2 : wA.cell? ⟨w.heap.size + 1, 2, none⟩ = some (.int .i64 f.2.2.1) := pA.b1.cell 2
        have y3 : wA.cell? ⟨w.heap.size + 1, 3, none⟩ = some (.int .i64 f.2.2.2) := pA.b1.cell 3
        have Ap1 := Lib.hid ap1; clear ap1
        have R1 := Lib.hid r1; clear r1
        have Hkl := Lib.hid hkl; clear hkl
        have Hst := Lib.hid hst; clear hst
        have Hmt := Lib.hid hmt; clear hmt
        have Hpl := Lib.hid hpl; clear hpl
        have Hck := Lib.hid hck; clear hck
        have Hs1 := Lib.hid hs1; clear hs1
        have Bl := Lib.hid bl; clear bl
        have TA := Lib.hid tA; clear tA
        have PA := Lib.hid pA; clear pA
        have Z1 := Lib.hid z1; clear z1
        have Z2 := Lib.hid z2; clear z2
        have Z3 := Lib.hid z3; clear z3
        have Hps := Lib.hid hps; clear hps
        have Hall := Lib.hid hall; clear hall
        have Hft := Lib.hid hft; clear hft
        clear hbw
        go_upto_region 20 with fail
        rw [← hwA, ← hgl]
        clear hwA hgl c0 c1' c2 c3 c4
        go_wp2_with fail
        refine (Ap1.out _).mono ?_
        rintro e w4 ⟨rfl, d4⟩
        have bl := Bl.out.same (d4.block _ Bl.out.lt)
        have tB := TA.out.trans (d4.mono TA.out.size)
        have pB := PA.out.later d4
        clear x1 x2 x3 x4 y0 y1 y2 y3 d4
        obtain ⟨wB, hwB⟩ : ∃ W, W = w4.alloc (.cells #[.int .u8 n1.1, .int .i64 n1.2.1, .int .i64 n1.2.2.1, .int .i64 n1.2.2.2] 26) := ⟨_, rfl⟩
        obtain ⟨g11, hg11⟩ : ∃ g, g = w4.heap.size := ⟨_, rfl⟩
        have b11 : Blk wB g11 26 #[.int .u8 n1.1, .int .i64 n1.2.1, .int .i64 n1.2.2.1, .int .i64 n1.2.2.2] := by rw [hwB, hg11]; exact Blk.new _ _ _
        have bl' : Blk wB gl 65 #[.int .u8 m.name, .int .u8 m.turn, .int .i64 m.pl.1, .int .i64 m.pl.2.1, .int .i64 m.pl.2.2] := by rw [hwB]; exact bl.alloc _
        have tB' : RowKit.Below w.heap.size w wB := by rw [hwB]; exact tB.alloc tB.size _
        have pB' := pB.later (w' := wB) (by rw [hwB]; exact al1)
        clear bl tB pB
        have Bl' := Lib.hid bl'; clear bl'
        have TB' := Lib.hid tB'; clear tB'
        have PB' := Lib.hid pB'; clear pB'
        have B11 := Lib.hid b11; clear b11
        go_upto_region 21 with fail
        rw [← hwB, ← hg11]
        clear hwB hg11
        rcases R1.out with h16 | h16
        case inr =>
          (try simp only at h16)
          subst h16
          have hr1 := Hbad.out (.inr (.inl (by rw [Hst.out, Hkl.out]; rfl)))
          have k2 := PB'.out.b2
          have zt := TB'.out.size
          have k2' := blk_row (cs := #[.slice none 0 0, .slice none 0 0, .int .u8 0, .int .i64 0, .int .i64 0, .int .i64 0, .int .i64 0]) k2
          have t2' := row_below (g := w.heap.size + 1 + 1) TB'.out (by omega) #[.slice none 0 0, .slice none 0 0, .int .u8 0, .int .i64 0, .int .i64 0, .int .i64 0, .int .i64 0]
          have Hr1 := Lib.hid hr1; clear hr1
          have K2' := Lib.hid k2'; clear k2'
          have T2' := Lib.hid t2'; clear t2'
          go_wp2_with ((with_reducible show wpList _ _ _ (Oper.mk none _ _ _ _ _ :: _) _ _); refine wpList_storeG 36 (.tmp 4) (.tmp 88) _ #[.slice none 0 0, .slice none 0 0, .int .u8 0, .int .i64 0, .int .i64 0, .int .i64 0, .int .i64 0] rfl rfl rfl rfl k2 (by kernel_rfl) rfl (by simp [Value.oneCell']) rfl ?_)
          refine bodyPost_ret (results_vec_tmp rfl _ _ _ (w.heap.size + 1 + 1) 36 _ rfl K2'.out Tryd.underlying36 (by kernel_rfl)) rfl ?_
          exact placePost_zero Hr1.out T2'.out
        case inl =>
          (try simp only at h16)
          subst h16
          obtain ⟨ft1, ft2⟩ := Hft.out rfl
          have hst' : t.marks.all (okM f) = (t.marks.drop (k + 1)).all (okM f) := by rw [Hst.out, Hkl.out]; rfl
          have hR : pMk.R (fun _ => False) wB (Value.agg #[.int .u8 m.name, .int .u8 n1.1, .int .i64 n1.2.1, .int .i64 n1.2.2.1, .int .i64 n1.2.2.2]).cells.toList (plM f m) := by
            rw [Hpl.out]
            exact ⟨rfl, Z1.out, ft1, ft2⟩
          have hoy := PB'.out.oy
          have hln : ((t.marks.take k).map (plM f)).length + 1 = k + 1 := by rw [List.length_map, List.length_take]; omega
          have hrm : Room ((t.marks.take k).map (plM f)).length := room_of (by rw [List.length_map, List.length_take]; omega)
          have hba : g8 + 1 ≤ wB.heap.size := PB'.out.b8.lt
          have hbm8 := PB'.out.b8
          have v1 := hbm8.cell 1
          have u0 := B11.out.cell 0
          have u1 := B11.out.cell 1
          have u2 := B11.out.cell 2
          have u3 := B11.out.cell 3
          have u4 := Bl'.out.cell 0
          have hne : some g8 ≠ (Value.slice B1 k d1).ownBlock := fun he => by have := (hoy.lt _ he.symm).1; omega
          have hlt8 := hbm8.lt
          clear ft1 ft2
          have Hst' := Lib.hid hst'; clear hst'
          have HR := Lib.hid hR; clear hR
          have Hoy := Lib.hid hoy; clear hoy
          have Hln := Lib.hid hln; clear hln
          have Hrm := Lib.hid hrm; clear hrm
          have Hne := Lib.hid hne; clear hne
          have Hbm8 := Lib.hid hbm8; clear hbm8
          go_wp2_with ((with_reducible show wpList _ _ _ (Oper.mk (some 96) _ _ _ _ _ :: _) _ _); refine wpList_pushG (E := pMk) (xs := (t.marks.take k).map (plM f)) (v := .slice B1 k d1) (base := g8 + 1) (G := fun _ => False) 34 65 (.agg #[.int .u8 0, .int .u8 0, .int .i64 0, .int .i64 0, .int .i64 0]) 40 96 (.tmp 91) (.tmp 95) rfl rfl rfl rfl rfl Tryd.underlying34 (by kernel_rfl) rfl (by decide) (fun _ => rfl) (fun _ => rfl) Hoy.out (.agg #[.int .u8 m.name, .int .u8 n1.1, .int .i64 n1.2.1, .int .i64 n1.2.2.1, .int .i64 n1.2.2.2]) rfl (plM f m) (fun _ => False) HR.out (fun _ h => h.elim) (k + 1) Hln.out Hrm.out ⟨by decide, by decide⟩ hba ?_; intro A10 c10 w7 hown7 hg7; have hbm7 := Hbm8.out.same (hg7.out.oth _ hlt8 Hne.out); have x7 := hbm7.cell 1; have f7 := hbm7.free 1; clear hbm7)
          go_roundw
          case rel =>
            have hps' := PB'.out.pushY hown7.out hg7.out
            have hz7 := hg7.out.bel.size
            refine ⟨k + 1, A10, c10, hlt, by go_num, ?_, ?_, Hst'.out⟩
            · exact (TB'.out.trans (hg7.out.bel.mono (by omega))).setCell (by show w.heap.size ≤ g8; omega) _
            · unfold Hid
              rw [Hmt.out]
              exact hps'
          case measure => simp [intOf]; omega
      case neg =>
        have hallm := hall.out.trans (all_end hlt)
        obtain rfl : k = t.marks.length := by omega
        have pA := hps.out
        rw [List.take_length] at pA
        have r1 := withinF_err Hcf.out Hzf.out
        have ap1 := fun W' => withinE_calls t.fr f W' (by have := ht0.u8; omega) hfz
        have hbad3 := Hbad.out
        have hgood3 := Hgood.out Hall'.out hallm
        obtain ⟨s1, hs1⟩ : ∃ s, withinF t.fr f = s := ⟨_, rfl⟩
        rw [hs1] at r1 ap1 hbad3 hgood3
        obtain ⟨n1, e1⟩ := s1
        simp only at r1 ap1 hbad3 hgood3
        have x2 : wr.cell? ⟨w.heap.size, 2, none⟩ = some (.int .u8 t.fr.1) := pA.b0.cell 2
        have x3 : wr.cell? ⟨w.heap.size, 3, none⟩ = some (.int .i64 t.fr.2.1) := pA.b0.cell 3
        have x4 : wr.cell? ⟨w.heap.size, 4, none⟩ = some (.int .i64 t.fr.2.2.1) := pA.b0.cell 4
        have x5 : wr.cell? ⟨w.heap.size, 5, none⟩ = some (.int .i64 t.fr.2.2.2) := pA.b0.cell 5
        have y0 : wr.cell? ⟨w.heap.size + 1, 0, none⟩ = some (.int .u8 f.1) := pA.b1.cell 0
        have y1 : wr.cell? ⟨w.heap.size + 1, 1, none⟩ = some (.int .i64 f.2.1) := pA.b1.cell 1
        have y2 : wr.cell? ⟨w.heap.size + 1, 2, none⟩ = some (.int .i64 f.2.2.1) := pA.b1.cell 2
        have y3 : wr.cell? ⟨w.heap.size + 1, 3, none⟩ = some (.int .i64 f.2.2.2) := pA.b1.cell 3
        have Ap1 := Lib.hid ap1; clear ap1
        have R1 := Lib.hid r1; clear r1
        have Hbad3 := Lib.hid hbad3; clear hbad3
        have Hgood3 := Lib.hid hgood3; clear hgood3
        have Hallm := Lib.hid hallm; clear hallm
        have PA := Lib.hid pA; clear pA
        have Hs1 := Lib.hid hs1; clear hs1
        clear hall hps
        go_wp2_with fail
        refine (Ap1.out _).mono ?_
        rintro e w4 ⟨rfl, d4⟩
        have tB := hbw.out.trans (d4.mono hbw.out.size)
        have pB := PA.out.later d4
        clear x2 x3 x4 x5 y0 y1 y2 y3 d4
        obtain ⟨wB, hwB⟩ : ∃ W, W = w4.alloc (.cells #[.int .u8 n1.1, .int .i64 n1.2.1, .int .i64 n1.2.2.1, .int .i64 n1.2.2.2] 26) := ⟨_, rfl⟩
        obtain ⟨g11, hg11⟩ : ∃ g, g = w4.heap.size := ⟨_, rfl⟩
        have b11 : Blk wB g11 26 #[.int .u8 n1.1, .int .i64 n1.2.1, .int .i64 n1.2.2.1, .int .i64 n1.2.2.2] := by rw [hwB, hg11]; exact Blk.new _ _ _
        have tB' : RowKit.Below w.heap.size w wB := by rw [hwB]; exact tB.alloc tB.size _
        have pB' := pB.later (w' := wB) (by rw [hwB]; exact al1)
        clear tB pB
        have TB' := Lib.hid tB'; clear tB'
        have PB' := Lib.hid pB'; clear pB'
        have B11 := Lib.hid b11; clear b11
        go_upto_region 26 with fail
        rw [← hwB, ← hg11]
        clear hwB hg11
        rcases R1.out with h16 | h16
        case inr =>
          (try simp only at h16)
          subst h16
          have hr1 := Hbad3.out (.inr (.inr (by decide)))
          have k2 := PB'.out.b2
          have zt := TB'.out.size
          have k2' := blk_row (cs := #[.slice none 0 0, .slice none 0 0, .int .u8 0, .int .i64 0, .int .i64 0, .int .i64 0, .int .i64 0]) k2
          have t2' := row_below (g := w.heap.size + 1 + 1) TB'.out (by omega) #[.slice none 0 0, .slice none 0 0, .int .u8 0, .int .i64 0, .int .i64 0, .int .i64 0, .int .i64 0]
          have Hr1 := Lib.hid hr1; clear hr1
          have K2' := Lib.hid k2'; clear k2'
          have T2' := Lib.hid t2'; clear t2'
          go_wp2_with ((with_reducible show wpList _ _ _ (Oper.mk none _ _ _ _ _ :: _) _ _); refine wpList_storeG 36 (.tmp 4) (.tmp 110) _ #[.slice none 0 0, .slice none 0 0, .int .u8 0, .int .i64 0, .int .i64 0, .int .i64 0, .int .i64 0] rfl rfl rfl rfl k2 (by kernel_rfl) rfl (by simp [Value.oneCell']) rfl ?_)
          refine bodyPost_ret (results_vec_tmp rfl _ _ _ (w.heap.size + 1 + 1) 36 _ rfl K2'.out Tryd.underlying36 (by kernel_rfl)) rfl ?_
          exact placePost_zero Hr1.out T2'.out
        case inl =>
          (try simp only at h16)
          subst h16
          have hr1 := Hgood3.out rfl
          have u0 := B11.out.cell 0
          have u1 := B11.out.cell 1
          have u2 := B11.out.cell 2
          have u3 := B11.out.cell 3
          have u6 : wB.cell? ⟨w.heap.size, 6, none⟩ = some (.int .i64 t.drawn) := PB'.out.b0.cell 6
          have zt := TB'.out.size
          have b8 := PB'.out.b8
          have hz8 := b8.lt
          have n8 := blk_row (cs := #[.slice A1 t.lines.length c1, .slice B1 t.marks.length d1, .int .u8 n1.1, .int .i64 n1.2.1, .int .i64 n1.2.2.1, .int .i64 n1.2.2.2, .int .i64 t.drawn]) b8
          have n2 := PB'.out.b2.same (setRow_other wB g8 (w.heap.size + 1 + 1) #[.slice A1 t.lines.length c1, .slice B1 t.marks.length d1, .int .u8 n1.1, .int .i64 n1.2.1, .int .i64 n1.2.2.1, .int .i64 n1.2.2.2, .int .i64 t.drawn] (by omega))
          have nx := PB'.out.ox.keepG (w' := wB.setRow g8 #[.slice A1 t.lines.length c1, .slice B1 t.marks.length d1, .int .u8 n1.1, .int .i64 n1.2.1, .int .i64 n1.2.2.1, .int .i64 n1.2.2.2, .int .i64 t.drawn]) (fun i hi hG => setRow_other wB g8 i #[.slice A1 t.lines.length c1, .slice B1 t.marks.length d1, .int .u8 n1.1, .int .i64 n1.2.1, .int .i64 n1.2.2.1, .int .i64 n1.2.2.2, .int .i64 t.drawn] (by
            rcases hG with hG | hG
            · exact hG.elim
            · have := (PB'.out.ox.lt i hG).1
              omega)) (by simp)
          have ny := PB'.out.oy.keepG (w' := wB.setRow g8 #[.slice A1 t.lines.length c1, .slice B1 t.marks.length d1, .int .u8 n1.1, .int .i64 n1.2.1, .int .i64 n1.2.2.1, .int .i64 n1.2.2.2, .int .i64 t.drawn]) (fun i hi hG => setRow_other wB g8 i #[.slice A1 t.lines.length c1, .slice B1 t.marks.length d1, .int .u8 n1.1, .int .i64 n1.2.1, .int .i64 n1.2.2.1, .int .i64 n1.2.2.2, .int .i64 t.drawn] (by
            rcases hG with hG | hG
            · exact hG.elim
            · have := (PB'.out.oy.lt i hG).1
              omega)) (by simp)
          have nt := row_below (g := g8) TB'.out (by omega) #[.slice A1 t.lines.length c1, .slice B1 t.marks.length d1, .int .u8 n1.1, .int .i64 n1.2.1, .int .i64 n1.2.2.1, .int .i64 n1.2.2.2, .int .i64 t.drawn]
          obtain ⟨wD, hwD⟩ : ∃ W, W = wB.setRow g8 #[.slice A1 t.lines.length c1, .slice B1 t.marks.length d1, .int .u8 n1.1, .int .i64 n1.2.1, .int .i64 n1.2.2.1, .int .i64 n1.2.2.2, .int .i64 t.drawn] := ⟨_, rfl⟩
          rw [← hwD] at n8 n2 nx ny nt
          have zD : wD.heap.size = wB.heap.size := by rw [hwD]; simp
          have o2 := blk_row (cs := #[.slice A1 t.lines.length c1, .slice B1 t.marks.length d1, .int .u8 n1.1, .int .i64 n1.2.1, .int .i64 n1.2.2.1, .int .i64 n1.2.2.2, .int .i64 t.drawn]) n2
          have ot := row_below (g := w.heap.size + 1 + 1) nt (by omega) #[.slice A1 t.lines.length c1, .slice B1 t.marks.length d1, .int .u8 n1.1, .int .i64 n1.2.1, .int .i64 n1.2.2.1, .int .i64 n1.2.2.2, .int .i64 t.drawn]
          have ox := nx.keepG (w' := wD.setRow (w.heap.size + 1 + 1) #[.slice A1 t.lines.length c1, .slice B1 t.marks.length d1, .int .u8 n1.1, .int .i64 n1.2.1, .int .i64 n1.2.2.1, .int .i64 n1.2.2.2, .int .i64 t.drawn]) (fun i hi hG => setRow_other wD (w.heap.size + 1 + 1) i #[.slice A1 t.lines.length c1, .slice B1 t.marks.length d1, .int .u8 n1.1, .int .i64 n1.2.1, .int .i64 n1.2.2.1, .int .i64 n1.2.2.2, .int .i64 t.drawn] (by
            rcases hG with hG | hG
            · exact hG.elim
            · have := (nx.lt i hG).1
              omega)) (by simp)
          have oy := ny.keepG (w' := wD.setRow (w.heap.size + 1 + 1) #[.slice A1 t.lines.length c1, .slice B1 t.marks.length d1, .int .u8 n1.1, .int .i64 n1.2.1, .int .i64 n1.2.2.1, .int .i64 n1.2.2.2, .int .i64 t.drawn]) (fun i hi hG => setRow_other wD (w.heap.size + 1 + 1) i #[.slice A1 t.lines.length c1, .slice B1 t.marks.length d1, .int .u8 n1.1, .int .i64 n1.2.1, .int .i64 n1.2.2.1, .int .i64 n1.2.2.2, .int .i64 t.drawn] (by
            rcases hG with hG | hG
            · exact hG.elim
            · have := (ny.lt i hG).1
              omega)) (by simp)
          have N8 := Lib.hid n8; clear n8
          have Nx := Lib.hid nx; clear nx
          have Ny := Lib.hid ny; clear ny
          have Nt := Lib.hid nt; clear nt
          have Hr1 := Lib.hid hr1; clear hr1
          have O2 := Lib.hid o2; clear o2
          have Ot := Lib.hid ot; clear ot
          have Ox := Lib.hid ox; clear ox
          have Oy := Lib.hid oy; clear oy
          have HwD := Lib.hid hwD; clear hwD
          go_upto_region 29 with ((with_reducible show wpList _ _ _ (Oper.mk none _ _ _ _ _ :: _) _ _); refine wpList_storeAtG 28 (.tmp 117) (.tmp 116) 2 _ #[.int .u8 n1.1, .int .i64 n1.2.1, .int .i64 n1.2.2.1, .int .i64 n1.2.2.2, .int .i64 t.drawn] #[.slice A1 t.lines.length c1, .slice B1 t.marks.length d1, .int .u8 n1.1, .int .i64 n1.2.1, .int .i64 n1.2.2.1, .int .i64 n1.2.2.2, .int .i64 t.drawn] rfl rfl rfl rfl b8 (by kernel_rfl) (by simp) (by simp [Value.oneCell']) rfl rfl ?_)
          rw [← HwD.out]
          clear u0 u1 u2 u3 u6 b8
          have v0 := N8.out.cell 0
          have v1 := N8.out.cell 1
          have v2 := N8.out.cell 2
          have v3 := N8.out.cell 3
          have v4 := N8.out.cell 4
          have v5 := N8.out.cell 5
          have v6 := N8.out.cell 6
          go_wp2_with ((with_reducible show wpList _ _ _ (Oper.mk none _ _ _ _ _ :: _) _ _); refine wpList_storeG 36 (.tmp 4) (.tmp 118) _ #[.slice A1 t.lines.length c1, .slice B1 t.marks.length d1, .int .u8 n1.1, .int .i64 n1.2.1, .int .i64 n1.2.2.1, .int .i64 n1.2.2.2, .int .i64 t.drawn] rfl rfl rfl rfl n2 (by kernel_rfl) rfl (by simp [Value.oneCell']) rfl ?_)
          refine bodyPost_ret (results_vec_tmp rfl _ _ _ (w.heap.size + 1 + 1) 36 _ rfl O2.out Tryd.underlying36 (by kernel_rfl)) rfl ?_
          have sx := Ox.out.sl'
          have sy := Oy.out.sl'
          rw [Hr1.out]
          refine ⟨A1, c1, B1, d1, ?_, sx.2.wide fun k hk => hk.2, sy.2.wide fun k hk => hk.2, Ot.out⟩
          simp only [List.length_map]
          rfl
end Go.Proofs.YtldccpmnboebmaaDoor
