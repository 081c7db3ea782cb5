/-
  Layer 17: the walk of the reference's Hull.
-/
import Derived.Test.YtldccpmnboebmaaVt
namespace Go.Proofs.Ytldccpmnboebmaa
open Go.RowKit Go.Sort
set_option linter.unusedVariables false

set_option maxRecDepth 100000 in
set_option maxHeartbeats 8000000 in
theorem rHull_calls (A : Option Addr) (c : Nat) (B : Option Addr) (d : Nat) (t : Trk) (w : World) (hl : SlAt pLn (Old w) w A c t.lines) (hm : SlAt pMk (Old w) w B d t.marks) : Calls Try.prog 8 #[.agg #[.slice A t.lines.length c, .slice B t.marks.length d, .int .u8 t.fr.1, .int .i64 t.fr.2.1, .int .i64 t.fr.2.2.1, .int .i64 t.fr.2.2.2, .int .i64 t.drawn]] w (HullErr (hullT t) w) := by
  have q1 := hl.lenle
  have q2 := hm.lenle
  obtain ⟨W, hW⟩ : ∃ W, W = ((w.alloc (.cells #[.slice A t.lines.length c, .slice B t.marks.length d, .int .u8 t.fr.1, .int .i64 t.fr.2.1, .int .i64 t.fr.2.2.1, .int .i64 t.fr.2.2.2, .int .i64 t.drawn] 31)).alloc (.cells #[.int .i64 0, .int .i64 0, .int .i64 0] 25)).alloc (.cells #[.int .i64 0, .int .i64 0, .int .i64 0] 25) := ⟨_, rfl⟩
  have b0 : Blk W w.heap.size 31 #[.slice A t.lines.length c, .slice B t.marks.length d, .int .u8 t.fr.1, .int .i64 t.fr.2.1, .int .i64 t.fr.2.2.1, .int .i64 t.fr.2.2.2, .int .i64 t.drawn] := by rw [hW]; exact ((Blk.new w _ _).alloc _).alloc _
  have b1 : Blk W (w.heap.size + 1) 25 #[.int .i64 0, .int .i64 0, .int .i64 0] := by
    rw [hW]
    have := (Blk.new (w.alloc (.cells #[.slice A t.lines.length c, .slice B t.marks.length d, .int .u8 t.fr.1, .int .i64 t.fr.2.1, .int .i64 t.fr.2.2.1, .int .i64 t.fr.2.2.2, .int .i64 t.drawn] 31)) 25 #[.int .i64 0, .int .i64 0, .int .i64 0]).alloc (.cells #[.int .i64 0, .int .i64 0, .int .i64 0] 25)
    simpa using this
  have b2 : Blk W (w.heap.size + 1 + 1) 25 #[.int .i64 0, .int .i64 0, .int .i64 0] := by
    rw [hW]
    have := Blk.new ((w.alloc (.cells #[.slice A t.lines.length c, .slice B t.marks.length d, .int .u8 t.fr.1, .int .i64 t.fr.2.1, .int .i64 t.fr.2.2.1, .int .i64 t.fr.2.2.2, .int .i64 t.drawn] 31)).alloc (.cells #[.int .i64 0, .int .i64 0, .int .i64 0] 25)) 25 #[.int .i64 0, .int .i64 0, .int .i64 0]
    simpa using this
  have t0 : RowKit.Below w.heap.size w W := by rw [hW]; exact al3
  have zW : W.heap.size = w.heap.size + 3 := by rw [hW]; simp
  have f1 := fun W' (h : RowKit.Below w.heap.size w W') => rTCheck_calls A c B d t W' (hl.later h) (hm.later h)
  have hr : hullT t = if checkT t = 0 then (match t.lines with | [] => (((0, 0, 0), (0, 0, 0)), 6) | l :: r => (hullF (l.fr, l.fr) (l :: r), 0)) else (((0, 0, 0), (0, 0, 0)), checkT t) := rfl
  obtain ⟨z, hz⟩ : ∃ z, checkT t = z := ⟨_, rfl⟩
  rw [hz] at f1 hr
  have B0 := Lib.hid b0; clear b0
  have B1 := Lib.hid b1; clear b1
  have B2 := Lib.hid b2; clear b2
  have T0 := Lib.hid t0; clear t0
  have Hl := Lib.hid hl; clear hl
  have Hm := Lib.hid hm; clear hm
  have F1 := Lib.hid f1; clear f1
  have Hr := Lib.hid hr; clear hr
  have Hz := Lib.hid hz; clear hz
  have y0 := B0.out.cell 0
  have y1 := B0.out.cell 1
  have y2 := B0.out.cell 2
  have y3 := B0.out.cell 3
  have y4 := B0.out.cell 4
  have y5 := B0.out.cell 5
  have y6 := B0.out.cell 6
  go_enter Try.func8, Try.ntmps8
  go_wp2_with fail
  (try rw [← hW])
  have HW := Lib.hid hW; clear hW
  refine (F1.out _ T0.out).mono ?_
  rintro e w1 ⟨rfl, d1⟩
  have k0 := B0.out.same (d1.block _ B0.out.lt)
  have k1 := B1.out.same (d1.block _ B1.out.lt)
  have k2 := B2.out.same (d1.block _ B2.out.lt)
  have t1 := T0.out.trans (d1.mono T0.out.size)
  have zw1 := d1.size
  clear y0 y1 y2 y3 y4 y5 y6 d1
  by_cases h0 : z = 0
  case neg =>
    have h0' : (z != 0) = true := by simpa using h0
    have hr1 := Hr.out
    rw [if_neg h0] at hr1
    have y0 := k0.cell 0
    have y1 := k0.cell 1
    have y2 := k0.cell 2
    have y3 := k0.cell 3
    have y4 := k0.cell 4
    have y5 := k0.cell 5
    have y6 := k0.cell 6
    have Hr1 := Lib.hid hr1; clear hr1
    have K0 := Lib.hid k0; clear k0
    have K1 := Lib.hid k1; clear k1
    have K2 := Lib.hid k2; clear k2
    have T1 := Lib.hid t1; clear t1
    go_wp2_with fail
    refine (F1.out _ T1.out).mono ?_
    rintro e w2 ⟨rfl, d2⟩
    have k1 := K1.out.same (d2.block _ K1.out.lt)
    have k2 := K2.out.same (d2.block _ K2.out.lt)
    have t2 := T1.out.trans (d2.mono T1.out.size)
    clear y0 y1 y2 y3 y4 y5 y6 d2
    have k1' := blk_row (cs := #[.int .i64 0, .int .i64 0, .int .i64 0]) k1
    have k2' := k2.same (setRow_other w2 (w.heap.size + 1) (w.heap.size + 1 + 1) #[.int .i64 0, .int .i64 0, .int .i64 0] (by omega))
    have t1' := row_below (g := w.heap.size + 1) t2 (by omega) #[.int .i64 0, .int .i64 0, .int .i64 0]
    have k1'' := k1'.same (setRow_other (w2.setRow (w.heap.size + 1) #[.int .i64 0, .int .i64 0, .int .i64 0]) (w.heap.size + 1 + 1) (w.heap.size + 1) #[.int .i64 0, .int .i64 0, .int .i64 0] (by omega))
    have k2'' := blk_row (cs := #[.int .i64 0, .int .i64 0, .int .i64 0]) k2'
    have t2' := row_below (g := w.heap.size + 1 + 1) t1' (by omega) #[.int .i64 0, .int .i64 0, .int .i64 0]
    have K1'' := Lib.hid k1''; clear k1''
    have K2'' := Lib.hid k2''; clear k2''
    have T2' := Lib.hid t2'; clear t2'
    have T2 := Lib.hid t2; clear t2
    have T1' := Lib.hid t1'; clear t1'
    have K1' := Lib.hid k1'; clear k1'
    go_wp2_with (first | ((with_reducible show wpList _ _ _ (Oper.mk none _ _ _ _ _ :: _) _ _); refine wpList_storeG 25 (.tmp 2) (.tmp 13) _ #[.int .i64 0, .int .i64 0, .int .i64 0] rfl rfl rfl rfl k1 (by kernel_rfl) rfl (by simp [Value.oneCell']) rfl ?_) | ((with_reducible show wpList _ _ _ (Oper.mk none _ _ _ _ _ :: _) _ _); refine wpList_storeG 25 (.tmp 3) (.tmp 14) _ #[.int .i64 0, .int .i64 0, .int .i64 0] rfl rfl rfl rfl k2' (by kernel_rfl) rfl (by simp [Value.oneCell']) rfl ?_))
    refine bodyPost_ret (results_vec2_tmp rfl _ _ _ (w.heap.size + 1) (w.heap.size + 1 + 1) 25 _ _ rfl rfl K1''.out K2''.out Try.underlying25 (by kernel_rfl) (by kernel_rfl)) rfl ?_
    exact ⟨by rw [Hr1.out]; rfl, T2'.out⟩
  case pos =>
    subst h0
    have hr1 := Hr.out
    rw [if_pos rfl] at hr1
    have y0 := k0.cell 0
    by_cases hn : t.lines.length = 0
    case pos =>
      have hnil : t.lines = [] := List.length_eq_zero_iff.1 hn
      rw [hnil] at hr1
      simp only at hr1
      have hn' : ((t.lines.length : Int) == 0) = true := by simp [hn]
      have k1' := blk_row (cs := #[.int .i64 0, .int .i64 0, .int .i64 0]) k1
      have k2' := k2.same (setRow_other w1 (w.heap.size + 1) (w.heap.size + 1 + 1) #[.int .i64 0, .int .i64 0, .int .i64 0] (by omega))
      have t1' := row_below (g := w.heap.size + 1) t1 (by omega) #[.int .i64 0, .int .i64 0, .int .i64 0]
      have k1'' := k1'.same (setRow_other (w1.setRow (w.heap.size + 1) #[.int .i64 0, .int .i64 0, .int .i64 0]) (w.heap.size + 1 + 1) (w.heap.size + 1) #[.int .i64 0, .int .i64 0, .int .i64 0] (by omega))
      have k2'' := blk_row (cs := #[.int .i64 0, .int .i64 0, .int .i64 0]) k2'
      have t2' := row_below (g := w.heap.size + 1 + 1) t1' (by omega) #[.int .i64 0, .int .i64 0, .int .i64 0]
      have Hr1 := Lib.hid hr1; clear hr1
      have K1'' := Lib.hid k1''; clear k1''
      have K2'' := Lib.hid k2''; clear k2''
      have T2' := Lib.hid t2'; clear t2'
      have T1 := Lib.hid t1; clear t1
      have T1' := Lib.hid t1'; clear t1'
      have K1' := Lib.hid k1'; clear k1'
      have Hnil := Lib.hid hnil; clear hnil
      clear hn
      go_wp2_with (first | ((with_reducible show wpList _ _ _ (Oper.mk none _ _ _ _ _ :: _) _ _); refine wpList_storeG 25 (.tmp 2) (.tmp 21) _ #[.int .i64 0, .int .i64 0, .int .i64 0] rfl rfl rfl rfl k1 (by kernel_rfl) rfl (by simp [Value.oneCell']) rfl ?_) | ((with_reducible show wpList _ _ _ (Oper.mk none _ _ _ _ _ :: _) _ _); refine wpList_storeG 25 (.tmp 3) (.tmp 22) _ #[.int .i64 0, .int .i64 0, .int .i64 0] rfl rfl rfl rfl k2' (by kernel_rfl) rfl (by simp [Value.oneCell']) rfl ?_))
      refine bodyPost_ret (results_vec2_tmp rfl _ _ _ (w.heap.size + 1) (w.heap.size + 1 + 1) 25 _ _ rfl rfl K1''.out K2''.out Try.underlying25 (by kernel_rfl) (by kernel_rfl)) rfl ?_
      exact ⟨by rw [Hr1.out]; rfl, T2'.out⟩
    case neg =>
      have hn' : ((t.lines.length : Int) == 0) = false := beq_eq_false_iff_ne.2 (by omega)
      have hn0 : 0 < t.lines.length := by omega
      obtain ⟨b, o, l, hd, rfl, hob, c0, c1, c2, c3, c4, c5, c6, z1, z2, z3⟩ := (Hl.out.later t1).getLn (i := 0) hn0
      have hls : t.lines = l :: t.lines.drop 1 := by have := hd.out; simpa using this
      rw [hls] at hr1
      simp only at hr1
      have hob' : b < w1.heap.size := hob
      simp only [Nat.zero_mul, Nat.add_zero] at c0 c1 c2 c3 c4 c5 c6
      have hsz0 := k0.lt
      have Hr1 := Lib.hid hr1; clear hr1
      have Hls := Lib.hid hls; clear hls
      have K0 := Lib.hid k0; clear k0
      have K1 := Lib.hid k1; clear k1
      have K2 := Lib.hid k2; clear k2
      have T1 := Lib.hid t1; clear t1
      have Z1 := Lib.hid z1; clear z1
      have Z2 := Lib.hid z2; clear z2
      have Z3 := Lib.hid z3; clear z3
      go_upto_region 5 with fail
      refine wp_region_floatA 14 [⟨⟨10, 5, 25, #[.int .i64 0, .int .i64 0, .int .i64 0]⟩, some (12, 27, #[.int .i64 l.to.1, .int .i64 l.to.2.1, .int .i64 l.to.2.2])⟩, ⟨⟨11, 6, 25, #[.int .i64 0, .int .i64 0, .int .i64 0]⟩, some (13, 32, #[.int .i64 l.to.1, .int .i64 l.to.2.1, .int .i64 l.to.2.2])⟩] (by kernel_rfl) (by kernel_rfl) rfl (by
          intro x hx
          refine alloc_vecs _ fun y hy => ?_
          rw [List.mem_singleton] at hy
          subst hy
          simp at hx
          rcases hx with rfl | rfl <;> exact ⟨rfl, rfl⟩) (by
          intro x hx j v row h
          simp at hx
          rcases hx with rfl | rfl
          all_goals
            simp at h
            obtain ⟨-, -, rfl⟩ := h
            exact ⟨by kernel_rfl, rfl, by simp [Value.oneCell']⟩) ?_
      apply Exists.intro
      refine And.intro ?walk (And.intro ?vals ?tail)
      case walk =>
        intro W' hW'
        have e0 := cell_regrown ((cell_keep (hW'.block w.heap.size (by omega))).trans y0)
        have g3 := cell_regrown ((cell_keep (hW'.block b (by omega))).trans c3)
        have g4 := cell_regrown ((cell_keep (hW'.block b (by omega))).trans c4)
        have g5 := cell_regrown ((cell_keep (hW'.block b (by omega))).trans c5)
        simp only [virtP, fltP, nopT, List.take_succ_cons, List.take_zero, List.drop_succ_cons, List.drop_zero, List.map_cons, List.map_nil, List.append_nil]
        iterate 14 (go_big_quiet_step (fail))
        exact wpQuiet_nil rfl
      case vals => exact ⟨rfl, by simp, rfl, by simp, trivial⟩
      case tail =>
        intro p w' hbw' hB' hD
        have hB5 := hB' _ (List.mem_cons_self)
        have hB6 := hB' _ (List.mem_cons_of_mem _ (List.mem_cons_self))
        have hD56 := hD _ (List.mem_cons_self) _ (List.mem_cons_of_mem _ (List.mem_cons_self)) (by simp)
        simp only [Fs.fin] at hB5 hB6 hD56
        simp only [putsF, ptrV, List.drop_succ_cons, List.drop_zero, List.map_cons, List.map_nil]
        obtain ⟨g5, hg5⟩ : ∃ g, p 10 = g := ⟨_, rfl⟩
        obtain ⟨g6, hg6⟩ : ∃ g, p 11 = g := ⟨_, rfl⟩
        rw [hg5] at hB5 hD56 ⊢
        rw [hg6] at hB6 hD56 ⊢
        clear hB' hD
        obtain ⟨n5, z5⟩ := hB5
        obtain ⟨n6, z6⟩ := hB6
        have zt1 := T1.out.size
        have n0 := K0.out.same (hbw'.block _ K0.out.lt)
        have n1 := K1.out.same (hbw'.block _ K1.out.lt)
        have n2 := K2.out.same (hbw'.block _ K2.out.lt)
        have nt := T1.out.trans (hbw'.mono T1.out.size)
        simp only [Act.put]
        have hfi : Hid (hullF (l.to, l.to) (t.lines.drop 0) = hullF (l.fr, l.fr) (l :: t.lines.drop 1)) := by
          have h := Hls.out
          show hullF (l.to, l.to) t.lines = _
          rw [← hullF_to, ← h]
        clear y0 c0 c1 c2 c3 c4 c5 c6 hbw'
        have z56 : g5 ≠ g6 := hD56
        have z5' : w.heap.size + 3 ≤ g5 := by omega
        have z6' : w.heap.size + 3 ≤ g6 := by omega
        clear hg5 hg6 hD56 z5 z6
        have N0 := Lib.hid n0; clear n0
        have N1 := Lib.hid n1; clear n1
        have N2 := Lib.hid n2; clear n2
        have N5 := Lib.hid n5; clear n5
        have N6 := Lib.hid n6; clear n6
        have Nt := Lib.hid nt; clear nt
        go_wp2
        go_loopw [7] (fun i wr => ∃ (k : Nat) (s : Box), k ≤ t.lines.length ∧ i = .int .i64 k ∧ Hid (hullF s (t.lines.drop k) = hullF (l.fr, l.fr) (l :: t.lines.drop 1)) ∧ Hid (RowKit.Below w.heap.size w wr) ∧ Hid (Blk wr w.heap.size 31 #[.slice (some ⟨b, o, none⟩) t.lines.length c, .slice B t.marks.length d, .int .u8 t.fr.1, .int .i64 t.fr.2.1, .int .i64 t.fr.2.2.1, .int .i64 t.fr.2.2.2, .int .i64 t.drawn]) ∧ Hid (Blk wr (w.heap.size + 1) 25 #[.int .i64 0, .int .i64 0, .int .i64 0]) ∧ Hid (Blk wr (w.heap.size + 1 + 1) 25 #[.int .i64 0, .int .i64 0, .int .i64 0]) ∧ Hid (Blk wr g5 25 #[.int .i64 s.1.1, .int .i64 s.1.2.1, .int .i64 s.1.2.2]) ∧ Hid (Blk wr g6 25 #[.int .i64 s.2.1, .int .i64 s.2.2.1, .int .i64 s.2.2.2])) (fun i _ => t.lines.length - (intOf i).toNat)
        case atStart => exact ⟨0, (l.to, l.to), Nat.zero_le _, rfl, hfi, Nt.out, N0.out, N1.out, N2.out, N5.out, N6.out⟩
        case round =>
          obtain ⟨k, s, hk, rfl, hs, hbw, hk0, hk1, hk2, hk5, hk6⟩ := hrel
          have y0 := hk0.out.cell 0
          have zs0 := hk2.out.lt
          have zs5 := hk5.out.lt
          have zs6 := hk6.out.lt
          by_cases hlt : k < t.lines.length
          case pos =>
            obtain ⟨b', o', l', hd', hAe, hob', c0, c1, c2, c3, c4, c5, c6, z1, z2, z3⟩ := (Hl.out.later hbw.out).getLn hlt
            cases hAe
            have hsn : hullF (boxV (boxV s l'.fr) l'.to) (t.lines.drop (k + 1)) = hullF (l.fr, l.fr) (l :: t.lines.drop 1) := by
              have := hs.out
              rw [hd'.out] at this
              exact this
            have hob'' : b < wr.heap.size := hob'
            have Hsn := Lib.hid hsn; clear hsn
            have Hd' := Lib.hid hd'; clear hd'
            have Z1 := Lib.hid z1; clear z1
            have Z2 := Lib.hid z2; clear z2
            have Z3 := Lib.hid z3; clear z3
            clear hs
            go_upto_region 9 with fail
            refine wp_region_floatA 16 [⟨⟨12, 8, 25, #[.int .i64 0, .int .i64 0, .int .i64 0]⟩, some (14, 45, #[.int .i64 l'.fr.1, .int .i64 l'.fr.2.1, .int .i64 l'.fr.2.2])⟩, ⟨⟨13, 9, 25, #[.int .i64 0, .int .i64 0, .int .i64 0]⟩, some (15, 51, #[.int .i64 l'.to.1, .int .i64 l'.to.2.1, .int .i64 l'.to.2.2])⟩] (by kernel_rfl) (by kernel_rfl) rfl (by
                intro x hx
                refine alloc_vecs _ fun y hy => ?_
                rw [List.mem_singleton] at hy
                subst hy
                simp at hx
                rcases hx with rfl | rfl <;> exact ⟨rfl, rfl⟩) (by
                intro x hx j v row h
                simp at hx
                rcases hx with rfl | rfl
                all_goals
                  simp at h
                  obtain ⟨-, -, rfl⟩ := h
                  exact ⟨by kernel_rfl, rfl, by simp [Value.oneCell']⟩) ?_
            apply Exists.intro
            refine And.intro ?walk (And.intro ?vals ?tail)
            case walk =>
              intro W' hW'
              have e0 := cell_regrown ((cell_keep (hW'.block w.heap.size (by omega))).trans y0)
              have g0 := cell_regrown ((cell_keep (hW'.block b (by omega))).trans c0)
              have g1 := cell_regrown ((cell_keep (hW'.block b (by omega))).trans c1)
              have g2 := cell_regrown ((cell_keep (hW'.block b (by omega))).trans c2)
              have g3 := cell_regrown ((cell_keep (hW'.block b (by omega))).trans c3)
              have g4 := cell_regrown ((cell_keep (hW'.block b (by omega))).trans c4)
              have g5 := cell_regrown ((cell_keep (hW'.block b (by omega))).trans c5)
              simp only [virtP, fltP, nopT, List.take_succ_cons, List.take_zero, List.drop_succ_cons, List.drop_zero, List.map_cons, List.map_nil, List.append_nil]
              iterate 16 (go_big_quiet_step (fail))
              exact wpQuiet_nil rfl
            case vals => exact ⟨rfl, by simp, rfl, by simp, trivial⟩
            case tail =>
              intro p wn hbw' hB' hD
              have hB8 := hB' _ (List.mem_cons_self)
              have hB9 := hB' _ (List.mem_cons_of_mem _ (List.mem_cons_self))
              have hD89 := hD _ (List.mem_cons_self) _ (List.mem_cons_of_mem _ (List.mem_cons_self)) (by simp)
              simp only [Fs.fin] at hB8 hB9 hD89
              simp only [putsF, ptrV, List.drop_succ_cons, List.drop_zero, List.map_cons, List.map_nil]
              obtain ⟨g8, hg8⟩ : ∃ g, p 12 = g := ⟨_, rfl⟩
              obtain ⟨g9, hg9⟩ : ∃ g, p 13 = g := ⟨_, rfl⟩
              rw [hg8] at hB8 hD89 ⊢
              rw [hg9] at hB9 hD89 ⊢
              clear hB' hD hg8 hg9
              obtain ⟨n8, z8⟩ := hB8
              obtain ⟨n9, z9⟩ := hB9
              have v0 := hk0.out.same (hbw'.block _ (by omega))
              have v1 := hk1.out.same (hbw'.block _ (by omega))
              have v2 := hk2.out.same (hbw'.block _ (by omega))
              have v5 := hk5.out.same (hbw'.block _ (by omega))
              have v6 := hk6.out.same (hbw'.block _ (by omega))
              have vt := hbw.out.trans (hbw'.mono hbw.out.size)
              simp only [Act.put]
              clear y0 c0 c1 c2 c3 c4 c5 c6 hbw' hk0 hk1 hk2 hk5 hk6
              have m0 := v0.same (setRow_other wn g5 w.heap.size #[.int .i64 (minI (minI s.1.1 l'.fr.1) l'.to.1), .int .i64 (minI (minI s.1.2.1 l'.fr.2.1) l'.to.2.1), .int .i64 (minI (minI s.1.2.2 l'.fr.2.2) l'.to.2.2)] (by omega))
              have m1 := v1.same (setRow_other wn g5 (w.heap.size + 1) #[.int .i64 (minI (minI s.1.1 l'.fr.1) l'.to.1), .int .i64 (minI (minI s.1.2.1 l'.fr.2.1) l'.to.2.1), .int .i64 (minI (minI s.1.2.2 l'.fr.2.2) l'.to.2.2)] (by omega))
              have m2 := v2.same (setRow_other wn g5 (w.heap.size + 1 + 1) #[.int .i64 (minI (minI s.1.1 l'.fr.1) l'.to.1), .int .i64 (minI (minI s.1.2.1 l'.fr.2.1) l'.to.2.1), .int .i64 (minI (minI s.1.2.2 l'.fr.2.2) l'.to.2.2)] (by omega))
              have m5 := blk_row (cs := #[.int .i64 (minI (minI s.1.1 l'.fr.1) l'.to.1), .int .i64 (minI (minI s.1.2.1 l'.fr.2.1) l'.to.2.1), .int .i64 (minI (minI s.1.2.2 l'.fr.2.2) l'.to.2.2)]) v5
              have m6 := v6.same (setRow_other wn g5 g6 #[.int .i64 (minI (minI s.1.1 l'.fr.1) l'.to.1), .int .i64 (minI (minI s.1.2.1 l'.fr.2.1) l'.to.2.1), .int .i64 (minI (minI s.1.2.2 l'.fr.2.2) l'.to.2.2)] (by omega))
              have m8 := n8.same (setRow_other wn g5 g8 #[.int .i64 (minI (minI s.1.1 l'.fr.1) l'.to.1), .int .i64 (minI (minI s.1.2.1 l'.fr.2.1) l'.to.2.1), .int .i64 (minI (minI s.1.2.2 l'.fr.2.2) l'.to.2.2)] (by omega))
              have m9 := n9.same (setRow_other wn g5 g9 #[.int .i64 (minI (minI s.1.1 l'.fr.1) l'.to.1), .int .i64 (minI (minI s.1.2.1 l'.fr.2.1) l'.to.2.1), .int .i64 (minI (minI s.1.2.2 l'.fr.2.2) l'.to.2.2)] (by omega))
              have mt := row_below (g := g5) vt (by omega) #[.int .i64 (minI (minI s.1.1 l'.fr.1) l'.to.1), .int .i64 (minI (minI s.1.2.1 l'.fr.2.1) l'.to.2.1), .int .i64 (minI (minI s.1.2.2 l'.fr.2.2) l'.to.2.2)]
              obtain ⟨wm, hwm⟩ : ∃ W, W = wn.setRow g5 #[.int .i64 (minI (minI s.1.1 l'.fr.1) l'.to.1), .int .i64 (minI (minI s.1.2.1 l'.fr.2.1) l'.to.2.1), .int .i64 (minI (minI s.1.2.2 l'.fr.2.2) l'.to.2.2)] := ⟨_, rfl⟩
              rw [← hwm] at m0 m1 m2 m5 m6 m8 m9 mt
              have o0 := m0.same (setRow_other wm g6 w.heap.size #[.int .i64 (maxI (maxI s.2.1 l'.fr.1) l'.to.1), .int .i64 (maxI (maxI s.2.2.1 l'.fr.2.1) l'.to.2.1), .int .i64 (maxI (maxI s.2.2.2 l'.fr.2.2) l'.to.2.2)] (by omega))
              have o1 := m1.same (setRow_other wm g6 (w.heap.size + 1) #[.int .i64 (maxI (maxI s.2.1 l'.fr.1) l'.to.1), .int .i64 (maxI (maxI s.2.2.1 l'.fr.2.1) l'.to.2.1), .int .i64 (maxI (maxI s.2.2.2 l'.fr.2.2) l'.to.2.2)] (by omega))
              have o2 := m2.same (setRow_other wm g6 (w.heap.size + 1 + 1) #[.int .i64 (maxI (maxI s.2.1 l'.fr.1) l'.to.1), .int .i64 (maxI (maxI s.2.2.1 l'.fr.2.1) l'.to.2.1), .int .i64 (maxI (maxI s.2.2.2 l'.fr.2.2) l'.to.2.2)] (by omega))
              have o5 := m5.same (setRow_other wm g6 g5 #[.int .i64 (maxI (maxI s.2.1 l'.fr.1) l'.to.1), .int .i64 (maxI (maxI s.2.2.1 l'.fr.2.1) l'.to.2.1), .int .i64 (maxI (maxI s.2.2.2 l'.fr.2.2) l'.to.2.2)] (by omega))
              have o6 := blk_row (cs := #[.int .i64 (maxI (maxI s.2.1 l'.fr.1) l'.to.1), .int .i64 (maxI (maxI s.2.2.1 l'.fr.2.1) l'.to.2.1), .int .i64 (maxI (maxI s.2.2.2 l'.fr.2.2) l'.to.2.2)]) m6
              have ot := row_below (g := g6) mt (by omega) #[.int .i64 (maxI (maxI s.2.1 l'.fr.1) l'.to.1), .int .i64 (maxI (maxI s.2.2.1 l'.fr.2.1) l'.to.2.1), .int .i64 (maxI (maxI s.2.2.2 l'.fr.2.2) l'.to.2.2)]
              obtain ⟨wx, hwx⟩ : ∃ W, W = wm.setRow g6 #[.int .i64 (maxI (maxI s.2.1 l'.fr.1) l'.to.1), .int .i64 (maxI (maxI s.2.2.1 l'.fr.2.1) l'.to.2.1), .int .i64 (maxI (maxI s.2.2.2 l'.fr.2.2) l'.to.2.2)] := ⟨_, rfl⟩
              rw [← hwx] at o0 o1 o2 o5 o6 ot
              have x0 := n8.cell 0
              have x1 := n8.cell 1
              have x2 := n8.cell 2
              have u0 := n9.cell 0
              have u1 := n9.cell 1
              have u2 := n9.cell 2
              have y0 := v5.cell 0
              have y1 := v5.cell 1
              have y2 := v5.cell 2
              have M0 := Lib.hid m0; clear m0
              have M1 := Lib.hid m1; clear m1
              have M2 := Lib.hid m2; clear m2
              have M5 := Lib.hid m5; clear m5
              have M8 := Lib.hid m8; clear m8
              have M9 := Lib.hid m9; clear m9
              have Mt := Lib.hid mt; clear mt
              have O0 := Lib.hid o0; clear o0
              have O1 := Lib.hid o1; clear o1
              have O2 := Lib.hid o2; clear o2
              have O5 := Lib.hid o5; clear o5
              have O6 := Lib.hid o6; clear o6
              have Ot := Lib.hid ot; clear ot
              have Vt := Lib.hid vt; clear vt
              have V0 := Lib.hid v0; clear v0
              have V1 := Lib.hid v1; clear v1
              have V2 := Lib.hid v2; clear v2
              have V6 := Lib.hid v6; clear v6
              have N8 := Lib.hid n8; clear n8
              have N9 := Lib.hid n9; clear n9
              have Hwm := Lib.hid hwm; clear hwm
              have Hwx := Lib.hid hwx; clear hwx
              go_upto_region 11 with (first | ((with_reducible show wpList _ _ _ (Oper.mk (some 58) _ _ _ _ _ :: _) _ _); refine wpList_value (v := .int .i64 (minI (minI s.1.1 l'.fr.1) l'.to.1)) rfl (run_min3 _ _ (.tmp 53) (.tmp 55) (.tmp 57) _ rfl rfl rfl rfl) ?_) | ((with_reducible show wpList _ _ _ (Oper.mk (some 65) _ _ _ _ _ :: _) _ _); refine wpList_value (v := .int .i64 (minI (minI s.1.2.1 l'.fr.2.1) l'.to.2.1)) rfl (run_min3 _ _ (.tmp 60) (.tmp 62) (.tmp 64) _ rfl rfl rfl rfl) ?_) | ((with_reducible show wpList _ _ _ (Oper.mk (some 72) _ _ _ _ _ :: _) _ _); refine wpList_value (v := .int .i64 (minI (minI s.1.2.2 l'.fr.2.2) l'.to.2.2)) rfl (run_min3 _ _ (.tmp 67) (.tmp 69) (.tmp 71) _ rfl rfl rfl rfl) ?_) | ((with_reducible show wpList _ _ _ (Oper.mk none _ _ _ _ _ :: _) _ _); refine wpList_storeG 25 (.tmp 5) (.tmp 73) _ #[.int .i64 (minI (minI s.1.1 l'.fr.1) l'.to.1), .int .i64 (minI (minI s.1.2.1 l'.fr.2.1) l'.to.2.1), .int .i64 (minI (minI s.1.2.2 l'.fr.2.2) l'.to.2.2)] rfl rfl rfl rfl v5 (by kernel_rfl) rfl (by simp [Value.oneCell']) rfl ?_))
              rw [← Hwm.out]
              clear x0 x1 x2 y0 y1 y2 u0 u1 u2 v5
              have x0 := M8.out.cell 0
              have x1 := M8.out.cell 1
              have x2 := M8.out.cell 2
              have u0 := M9.out.cell 0
              have u1 := M9.out.cell 1
              have u2 := M9.out.cell 2
              have y0 := m6.cell 0
              have y1 := m6.cell 1
              have y2 := m6.cell 2
              go_upto_region 8 with (first | ((with_reducible show wpList _ _ _ (Oper.mk (some 80) _ _ _ _ _ :: _) _ _); refine wpList_value (v := .int .i64 (maxI (maxI s.2.1 l'.fr.1) l'.to.1)) rfl (run_max3 _ _ (.tmp 75) (.tmp 77) (.tmp 79) _ rfl rfl rfl rfl) ?_) | ((with_reducible show wpList _ _ _ (Oper.mk (some 87) _ _ _ _ _ :: _) _ _); refine wpList_value (v := .int .i64 (maxI (maxI s.2.2.1 l'.fr.2.1) l'.to.2.1)) rfl (run_max3 _ _ (.tmp 82) (.tmp 84) (.tmp 86) _ rfl rfl rfl rfl) ?_) | ((with_reducible show wpList _ _ _ (Oper.mk (some 94) _ _ _ _ _ :: _) _ _); refine wpList_value (v := .int .i64 (maxI (maxI s.2.2.2 l'.fr.2.2) l'.to.2.2)) rfl (run_max3 _ _ (.tmp 89) (.tmp 91) (.tmp 93) _ rfl rfl rfl rfl) ?_) | ((with_reducible show wpList _ _ _ (Oper.mk none _ _ _ _ _ :: _) _ _); refine wpList_storeG 25 (.tmp 6) (.tmp 95) _ #[.int .i64 (maxI (maxI s.2.1 l'.fr.1) l'.to.1), .int .i64 (maxI (maxI s.2.2.1 l'.fr.2.1) l'.to.2.1), .int .i64 (maxI (maxI s.2.2.2 l'.fr.2.2) l'.to.2.2)] rfl rfl rfl rfl m6 (by kernel_rfl) rfl (by simp [Value.oneCell']) rfl ?_))
              rw [← Hwx.out]
              clear x0 x1 x2 y0 y1 y2 u0 u1 u2 m6
              go_wp2
              go_roundw
              case rel => exact ⟨k + 1, boxV (boxV s l'.fr) l'.to, by omega, by go_num, Hsn.out, Ot.out, O0.out, O1.out, O2.out, O5.out, O6.out⟩
              case measure => simp [intOf]; omega
          case neg =>
            have hfin : hullF s [] = hullF (l.fr, l.fr) (l :: t.lines.drop 1) := by
              have := hs.out
              rw [List.drop_eq_nil_of_le (by omega)] at this
              exact this
            have x0 := hk5.out.cell 0
            have x1 := hk5.out.cell 1
            have x2 := hk5.out.cell 2
            have x3 := hk6.out.cell 0
            have x4 := hk6.out.cell 1
            have x5 := hk6.out.cell 2
            have v0 := hk1.out.cell 0
            have v1 := hk1.out.cell 1
            have v2 := hk1.out.cell 2
            have v3 := hk2.out.cell 0
            have v4 := hk2.out.cell 1
            have v5 := hk2.out.cell 2
            have u0 := hk1.out.free 0
            have u1 := hk1.out.free 1
            have u2 := hk1.out.free 2
            have u3 := hk2.out.free 0
            have u4 := hk2.out.free 1
            have u5 := hk2.out.free 2
            have Hfin := Lib.hid hfin; clear hfin
            have Hk1 := Lib.hid hk1; clear hk1
            have Hk2 := Lib.hid hk2; clear hk2
            have Hbw := Lib.hid hbw; clear hbw
            go_wp2
            go_region
            all_goals
              (try simp only [Exit.then])
              have hend := two3 Hk1.out Hk2.out (by omega) Hbw.out (by omega) (by omega) (.int .i64 s.1.1) (.int .i64 s.1.2.1) (.int .i64 s.1.2.2) (.int .i64 s.2.1) (.int .i64 s.2.2.1) (.int .i64 s.2.2.2)
              have Hend := Lib.hid hend; clear hend
              go_wp2
              (try simp only [Exit.inBlock, Exit.then])
              refine bodyPost_ret (results_vec2_tmp rfl _ _ _ (w.heap.size + 1) (w.heap.size + 1 + 1) 25 _ _ rfl rfl Hend.out.1 Hend.out.2.1 Try.underlying25 (by kernel_rfl) (by kernel_rfl)) rfl ?_
              refine ⟨?_, Hend.out.2.2⟩
              have he := Hr1.out
              rw [← Hfin.out] at he
              rw [he]
              rfl
end Go.Proofs.Ytldccpmnboebmaa
