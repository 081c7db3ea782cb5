/-
  Layer 17: the walk of the reference's Check of a track.
-/
import Derived.Test.YtldccpmnboebmaaVq
import Derived.Test.YtldccpmnboebmaaLs
namespace Go.Proofs.Ytldccpmnboebmaa
open Go.RowKit Go.Sort
set_option linter.unusedVariables false

theorem alloc_vecs (l : List Al) (h : ∀ x ∈ l, x.ty = 25 ∧ x.cs = #[.int .i64 0, .int .i64 0, .int .i64 0]) : FltRun Try.prog l := by
  intro x hx ev o ho w
  obtain ⟨h1, h2⟩ := h x hx
  rw [h1] at ho ⊢
  rw [h2]
  obtain ⟨dst, op, tt, ps, af, gd⟩ := o
  simp only at ho
  subst ho
  show (execOp ev _).run Try.prog w = _
  kernel_rfl
theorem int_post {a b : Int} (h : b = a) : Ending.returned (.int .i64 a) = .returned (.int .i64 b) := by rw [h]
def trkB (w : World) (g : Nat) (A : Option Addr) (c : Nat) (B : Option Addr) (d : Nat) (t : Trk) : Prop := Blk w g 31 #[.slice A t.lines.length c, .slice B t.marks.length d, .int .u8 t.fr.1, .int .i64 t.fr.2.1, .int .i64 t.fr.2.2.1, .int .i64 t.fr.2.2.2, .int .i64 t.drawn]

set_option maxRecDepth 100000 in
set_option maxHeartbeats 8000000 in
theorem rTCheck_calls (A : Option Addr) (c : Nat) (B : Option Addr) (d : Nat) (t : Trk) (w : World) (hl : SlAt pLn (Old w) w A c t.lines) (hm : SlAt pMk (Old w) w B d t.marks) : Calls Try.prog 19 #[.agg #[.slice A t.lines.length c, .slice B t.marks.length d, .int .u8 t.fr.1, .int .i64 t.fr.2.1, .int .i64 t.fr.2.2.1, .int .i64 t.fr.2.2.2, .int .i64 t.drawn]] w (IntPost (checkT t) w) := by
  have q1 := hl.lenle
  have q2 := hm.lenle
  obtain ⟨W, hW⟩ : ∃ W, W = w.alloc (.cells #[.slice A t.lines.length c, .slice B t.marks.length d, .int .u8 t.fr.1, .int .i64 t.fr.2.1, .int .i64 t.fr.2.2.1, .int .i64 t.fr.2.2.2, .int .i64 t.drawn] 31) := ⟨_, rfl⟩
  have hb : Blk W w.heap.size 31 #[.slice A t.lines.length c, .slice B t.marks.length d, .int .u8 t.fr.1, .int .i64 t.fr.2.1, .int .i64 t.fr.2.2.1, .int .i64 t.fr.2.2.2, .int .i64 t.drawn] := by rw [hW]; exact Blk.new _ _ _
  have t0 : RowKit.Below w.heap.size w W := by rw [hW]; exact al1
  have f3 := fun W' => rFCheck_calls t.fr W'
  have hbad := @checkT_bad t
  have hgood : badL t = false → badM t = false → checkFr t.fr = 0 → t.lines.length ≤ 2000 → t.marks.length ≤ 2000 → checkT t = 0 := fun h1 h2 h3 h4 h5 => if_pos ⟨h1, h2, h3, h4, h5⟩
  obtain ⟨z, e3⟩ : ∃ z, checkFr t.fr = z := ⟨_, rfl⟩
  rw [e3] at hbad hgood f3
  have y0 := hb.cell 0
  have y1 := hb.cell 1
  have y2 := hb.cell 2
  have y3 := hb.cell 3
  have y4 := hb.cell 4
  have y5 := hb.cell 5
  by_cases h4 : 2000 < t.lines.length ∨ 2000 < t.marks.length
  case pos =>
    have hr := hbad (.inr (.inr (.inr h4)))
    have Hb := Lib.hid hb; clear hb
    have T0 := Lib.hid t0; clear t0
    have Hl := Lib.hid hl; clear hl
    have Hm := Lib.hid hm; clear hm
    have F3 := Lib.hid f3; clear f3
    have Hbad := Lib.hid hbad; clear hbad
    have Hgood := Lib.hid hgood; clear hgood
    have E3 := Lib.hid e3; clear e3
    have Hr := Lib.hid hr; clear hr
    rcases (show 2000 < t.lines.length ∨ (¬ 2000 < t.lines.length ∧ 2000 < t.marks.length) from by omega) with h5 | ⟨h5, h6⟩
    all_goals
      clear h4
      go_enter Try.func19, Try.ntmps19
      go_wp2
      rw [← hW]
      go_ret
      exact ⟨int_post Hr.out, T0.out⟩
  case neg =>
    have h5 : ¬ 2000 < t.lines.length := by omega
    have h6 : ¬ 2000 < t.marks.length := by omega
    clear h4
    have Hb := Lib.hid hb; clear hb
    have T0 := Lib.hid t0; clear t0
    have Hl := Lib.hid hl; clear hl
    have Hm := Lib.hid hm; clear hm
    have F3 := Lib.hid f3; clear f3
    have E3 := Lib.hid e3; clear e3
    go_enter Try.func19, Try.ntmps19
    go_wp2_with fail
    (try rw [← hW])
    have HW := Lib.hid hW; clear hW
    refine (F3.out _).mono ?_
    rintro e w3 ⟨rfl, d3⟩
    have k3 := Hb.out.same (d3.block _ Hb.out.lt)
    have t3 := T0.out.trans (d3.mono T0.out.size)
    clear y0 y1 y2 y3 y4 y5
    have K3 := Lib.hid k3; clear k3
    have T3 := Lib.hid t3; clear t3
    clear d3
    by_cases hz : z = 0
    case neg =>
      have hr := hbad (.inr (.inr (.inl hz)))
      have hz' : (z != 0) = true := by simpa using hz
      have Hr := Lib.hid hr; clear hr
      have Hbad := Lib.hid hbad; clear hbad
      have Hgood := Lib.hid hgood; clear hgood
      go_wp2
      go_ret
      exact ⟨int_post Hr.out, T3.out⟩
    case pos =>
    subst hz
    have hbl : badL t = true → checkT t = 8 := fun h => hbad (.inl h)
    have hbm : badM t = true → checkT t = 8 := fun h => hbad (.inr (.inl h))
    have hgd : badL t = false → badM t = false → checkT t = 0 := fun h h' => hgood h h' rfl (by omega) (by omega)
    clear hbad hgood
    have Hbl := Lib.hid hbl; clear hbl
    have Hbm := Lib.hid hbm; clear hbm
    have Hgd := Lib.hid hgd; clear hgd
    go_wp2
    go_loopw [3] (fun i wr => ∃ k : Nat, k ≤ t.lines.length ∧ i = .int .i64 k ∧ Hid (RowKit.Below w.heap.size w wr) ∧ Hid (trkB wr w.heap.size A c B d t) ∧ Hid (badL t = (t.lines.drop k).any fun l => !lnOk l)) (fun i _ => t.lines.length - (intOf i).toNat)
    case atStart => exact ⟨0, Nat.zero_le _, rfl, T3.out, K3.out, rfl⟩
    case round =>
      obtain ⟨k, hk, rfl, hbw, hbk, hs⟩ := hrel
      have hB : Blk wr w.heap.size 31 #[.slice A t.lines.length c, .slice B t.marks.length d, .int .u8 t.fr.1, .int .i64 t.fr.2.1, .int .i64 t.fr.2.2.1, .int .i64 t.fr.2.2.2, .int .i64 t.drawn] := hbk.out
      have y0 := hB.cell 0
      by_cases hlt : k < t.lines.length
      case pos =>
        obtain ⟨b, o, l, hd, rfl, hob, c0, c1, c2, c3, c4, c5, c6, z1, z2, z3⟩ := (Hl.out.later hbw.out).getLn hlt
        have hst := hs.out.trans (any_drop (p := fun l => !lnOk l) hd.out)
        obtain ⟨⟨x1, x2, x3⟩, ⟨v1, v2, v3⟩, dep⟩ := l
        simp only at c0 c1 c2 c3 c4 c5 c6
        have ha := fun W => rIn_calls (x1, x2, x3) W
        have hb2 := fun W => rIn_calls (v1, v2, v3) W
        have hok : lnOk ⟨(x1, x2, x3), (v1, v2, v3), dep⟩ = (inV (-1000000) (x1, x2, x3) && inV (-1000000) (v1, v2, v3) && decide (2 ≤ sameN ⟨(x1, x2, x3), (v1, v2, v3), dep⟩)) := rfl
        obtain ⟨ba, hba⟩ : ∃ b, inV (-1000000) (x1, x2, x3) = b := ⟨_, rfl⟩
        obtain ⟨bb, hbb⟩ : ∃ b, inV (-1000000) (v1, v2, v3) = b := ⟨_, rfl⟩
        rw [hba] at ha hok
        rw [hbb] at hb2 hok
        simp only at ha hb2
        have hob' : b < wr.heap.size := hob
        have hzw := hbw.out.size
        have hsz := hB.lt
        have Hst := Lib.hid hst; clear hst
        have Ha := Lib.hid ha; clear ha
        have Hb2 := Lib.hid hb2; clear hb2
        have Hok := Lib.hid hok; clear hok
        have Hba := Lib.hid hba; clear hba
        have Hbb := Lib.hid hbb; clear hbb
        have HB := Lib.hid hB; clear hB
        clear z1 z2 z3
        go_upto_region 6 with fail
        refine wp_region_floatA 16 [⟨⟨12, 4, 25, #[.int .i64 0, .int .i64 0, .int .i64 0]⟩, some (14, 37, #[.int .i64 x1, .int .i64 x2, .int .i64 x3])⟩, ⟨⟨13, 5, 25, #[.int .i64 0, .int .i64 0, .int .i64 0]⟩, some (15, 43, #[.int .i64 v1, .int .i64 v2, .int .i64 v3])⟩] (by kernel_rfl) (by kernel_rfl) rfl (by
            intro x hx
            refine alloc_vecs _ fun y hy => ?_
            rw [List.mem_singleton] at hy
            subst hy
            simp at hx
            rcases hx with rfl | rfl <;> exact ⟨rfl, rfl⟩) (by
            intro x hx j v row h
            simp at hx
            rcases hx with rfl | rfl
            all_goals
              simp at h
              obtain ⟨-, -, rfl⟩ := h
              exact ⟨by kernel_rfl, rfl, by simp [Value.oneCell']⟩) ?_
        apply Exists.intro
        refine And.intro ?walk (And.intro ?vals ?tail)
        case walk =>
          intro W' hW'
          have e0 := cell_regrown ((cell_keep (hW'.block w.heap.size (by omega))).trans y0)
          have g0 := cell_regrown ((cell_keep (hW'.block b (by omega))).trans c0)
          have g1 := cell_regrown ((cell_keep (hW'.block b (by omega))).trans c1)
          have g2 := cell_regrown ((cell_keep (hW'.block b (by omega))).trans c2)
          have g3 := cell_regrown ((cell_keep (hW'.block b (by omega))).trans c3)
          have g4 := cell_regrown ((cell_keep (hW'.block b (by omega))).trans c4)
          have g5 := cell_regrown ((cell_keep (hW'.block b (by omega))).trans c5)
          simp only [virtP, fltP, nopT, List.take_succ_cons, List.take_zero, List.drop_succ_cons, List.drop_zero, List.map_cons, List.map_nil, List.append_nil]
          iterate 16 (go_big_quiet_step (fail))
          exact wpQuiet_nil rfl
        case vals => exact ⟨rfl, by simp, rfl, by simp, trivial⟩
        case tail =>
          intro p w' hbw' hB' hD
          have hB4 := hB' _ (List.mem_cons_self)
          have hB5 := hB' _ (List.mem_cons_of_mem _ (List.mem_cons_self))
          have hD45 := hD _ (List.mem_cons_self) _ (List.mem_cons_of_mem _ (List.mem_cons_self)) (by simp)
          simp only [Fs.fin] at hB4 hB5 hD45
          simp only [putsF, ptrV, List.drop_succ_cons, List.drop_zero, List.map_cons, List.map_nil]
          obtain ⟨g4, hg4⟩ : ∃ g, p 12 = g := ⟨_, rfl⟩
          obtain ⟨g5, hg5⟩ : ∃ g, p 13 = g := ⟨_, rfl⟩
          rw [hg4] at hB4 hD45 ⊢
          rw [hg5] at hB5 hD45 ⊢
          clear hB' hD
          obtain ⟨n4, z4⟩ := hB4
          obtain ⟨n5, z5⟩ := hB5
          have n0 := HB.out.same (hbw'.block _ (by omega))
          have nt := hbw.out.trans (hbw'.mono hbw.out.size)
          simp only [Act.put]
          clear y0 c0 c1 c2 c3 c4 c5 c6 hbw'
          have u0 := n4.cell 0
          have u1 := n4.cell 1
          have u2 := n4.cell 2
          have s0 := n5.cell 0
          have s1 := n5.cell 1
          have s2 := n5.cell 2
          have zz : g4 ≠ g5 := hD45
          have N0 := Lib.hid n0; clear n0
          have N4 := Lib.hid n4; clear n4
          have N5 := Lib.hid n5; clear n5
          have Nt := Lib.hid nt; clear nt
          have HD45 := Lib.hid hD45; clear hD45
          have hlm : k + 1 ≤ t.lines.length := hlt
          clear hs hbk hd

          by_cases h1 : x1 = v1 <;> by_cases h2 : x2 = v2 <;> by_cases h3 : x3 = v3
          · have hn : decide (2 ≤ sameN ⟨(x1, x2, x3), (v1, v2, v3), dep⟩) = true := by
              unfold sameN
              simp only
              first
              | (refine decide_eq_true ?_; split <;> split <;> split <;> omega)
              | (refine decide_eq_false ?_; split <;> split <;> split <;> omega)
            have hok2 := Hok.out
            rw [hn] at hok2
            clear hn
            subst h1
            subst h2
            subst h3
            have Hok2 := Lib.hid hok2; clear hok2
            go_wp2_with fail
            refine (Ha.out _).mono ?_
            rintro e w6 ⟨rfl, d6⟩
            have j5 := N5.out.same (d6.block _ N5.out.lt)
            have j0 := N0.out.same (d6.block _ N0.out.lt)
            have j6 := Nt.out.trans (d6.mono Nt.out.size)
            clear u0 u1 u2 s0 s1 s2 d6
            have s0 := j5.cell 0
            have s1 := j5.cell 1
            have s2 := j5.cell 2
            have J0 := Lib.hid j0; clear j0
            have J5 := Lib.hid j5; clear j5
            have J6 := Lib.hid j6; clear j6
            cases ba
            · go_wp2
              go_ret
              exact ⟨int_post (Hbl.out (by rw [Hst.out, Hok2.out]; simp)), J6.out⟩
            · go_wp2_with fail
              refine (Hb2.out _).mono ?_
              rintro e w7 ⟨rfl, d7⟩
              have l0 := J0.out.same (d7.block _ J0.out.lt)
              have l6 := J6.out.trans (d7.mono J6.out.size)
              clear s0 s1 s2 d7
              have L0 := Lib.hid l0; clear l0
              have L6 := Lib.hid l6; clear l6
              cases bb
              · go_wp2
                go_ret
                exact ⟨int_post (Hbl.out (by rw [Hst.out, Hok2.out]; simp)), L6.out⟩
              · go_wp2
                go_roundw
                case rel => exact ⟨k + 1, hlm, by go_num, L6.out, L0.out, Hst.out.trans (by rw [Hok2.out]; simp)⟩
                case measure => simp [intOf]; omega
          · have hn : decide (2 ≤ sameN ⟨(x1, x2, x3), (v1, v2, v3), dep⟩) = true := by
              unfold sameN
              simp only
              first
              | (refine decide_eq_true ?_; split <;> split <;> split <;> omega)
              | (refine decide_eq_false ?_; split <;> split <;> split <;> omega)
            have hok2 := Hok.out
            rw [hn] at hok2
            clear hn
            subst h1
            subst h2
            have Hok2 := Lib.hid hok2; clear hok2
            go_wp2_with fail
            refine (Ha.out _).mono ?_
            rintro e w6 ⟨rfl, d6⟩
            have j5 := N5.out.same (d6.block _ N5.out.lt)
            have j0 := N0.out.same (d6.block _ N0.out.lt)
            have j6 := Nt.out.trans (d6.mono Nt.out.size)
            clear u0 u1 u2 s0 s1 s2 d6
            have s0 := j5.cell 0
            have s1 := j5.cell 1
            have s2 := j5.cell 2
            have J0 := Lib.hid j0; clear j0
            have J5 := Lib.hid j5; clear j5
            have J6 := Lib.hid j6; clear j6
            cases ba
            · go_wp2
              go_ret
              exact ⟨int_post (Hbl.out (by rw [Hst.out, Hok2.out]; simp)), J6.out⟩
            · go_wp2_with fail
              refine (Hb2.out _).mono ?_
              rintro e w7 ⟨rfl, d7⟩
              have l0 := J0.out.same (d7.block _ J0.out.lt)
              have l6 := J6.out.trans (d7.mono J6.out.size)
              clear s0 s1 s2 d7
              have L0 := Lib.hid l0; clear l0
              have L6 := Lib.hid l6; clear l6
              cases bb
              · go_wp2
                go_ret
                exact ⟨int_post (Hbl.out (by rw [Hst.out, Hok2.out]; simp)), L6.out⟩
              · go_wp2
                go_roundw
                case rel => exact ⟨k + 1, hlm, by go_num, L6.out, L0.out, Hst.out.trans (by rw [Hok2.out]; simp)⟩
                case measure => simp [intOf]; omega
          · have hn : decide (2 ≤ sameN ⟨(x1, x2, x3), (v1, v2, v3), dep⟩) = true := by
              unfold sameN
              simp only
              first
              | (refine decide_eq_true ?_; split <;> split <;> split <;> omega)
              | (refine decide_eq_false ?_; split <;> split <;> split <;> omega)
            have hok2 := Hok.out
            rw [hn] at hok2
            clear hn
            subst h1
            subst h3
            have Hok2 := Lib.hid hok2; clear hok2
            go_wp2_with fail
            refine (Ha.out _).mono ?_
            rintro e w6 ⟨rfl, d6⟩
            have j5 := N5.out.same (d6.block _ N5.out.lt)
            have j0 := N0.out.same (d6.block _ N0.out.lt)
            have j6 := Nt.out.trans (d6.mono Nt.out.size)
            clear u0 u1 u2 s0 s1 s2 d6
            have s0 := j5.cell 0
            have s1 := j5.cell 1
            have s2 := j5.cell 2
            have J0 := Lib.hid j0; clear j0
            have J5 := Lib.hid j5; clear j5
            have J6 := Lib.hid j6; clear j6
            cases ba
            · go_wp2
              go_ret
              exact ⟨int_post (Hbl.out (by rw [Hst.out, Hok2.out]; simp)), J6.out⟩
            · go_wp2_with fail
              refine (Hb2.out _).mono ?_
              rintro e w7 ⟨rfl, d7⟩
              have l0 := J0.out.same (d7.block _ J0.out.lt)
              have l6 := J6.out.trans (d7.mono J6.out.size)
              clear s0 s1 s2 d7
              have L0 := Lib.hid l0; clear l0
              have L6 := Lib.hid l6; clear l6
              cases bb
              · go_wp2
                go_ret
                exact ⟨int_post (Hbl.out (by rw [Hst.out, Hok2.out]; simp)), L6.out⟩
              · go_wp2
                go_roundw
                case rel => exact ⟨k + 1, hlm, by go_num, L6.out, L0.out, Hst.out.trans (by rw [Hok2.out]; simp)⟩
                case measure => simp [intOf]; omega
          · have hn : decide (2 ≤ sameN ⟨(x1, x2, x3), (v1, v2, v3), dep⟩) = false := by
              unfold sameN
              simp only
              first
              | (refine decide_eq_true ?_; split <;> split <;> split <;> omega)
              | (refine decide_eq_false ?_; split <;> split <;> split <;> omega)
            have hok2 := Hok.out
            rw [hn] at hok2
            clear hn
            subst h1
            have Hok2 := Lib.hid hok2; clear hok2
            go_wp2
            go_ret
            exact ⟨int_post (Hbl.out (by rw [Hst.out, Hok2.out]; simp)), Nt.out⟩
          · have hn : decide (2 ≤ sameN ⟨(x1, x2, x3), (v1, v2, v3), dep⟩) = true := by
              unfold sameN
              simp only
              first
              | (refine decide_eq_true ?_; split <;> split <;> split <;> omega)
              | (refine decide_eq_false ?_; split <;> split <;> split <;> omega)
            have hok2 := Hok.out
            rw [hn] at hok2
            clear hn
            subst h2
            subst h3
            have Hok2 := Lib.hid hok2; clear hok2
            go_wp2_with fail
            refine (Ha.out _).mono ?_
            rintro e w6 ⟨rfl, d6⟩
            have j5 := N5.out.same (d6.block _ N5.out.lt)
            have j0 := N0.out.same (d6.block _ N0.out.lt)
            have j6 := Nt.out.trans (d6.mono Nt.out.size)
            clear u0 u1 u2 s0 s1 s2 d6
            have s0 := j5.cell 0
            have s1 := j5.cell 1
            have s2 := j5.cell 2
            have J0 := Lib.hid j0; clear j0
            have J5 := Lib.hid j5; clear j5
            have J6 := Lib.hid j6; clear j6
            cases ba
            · go_wp2
              go_ret
              exact ⟨int_post (Hbl.out (by rw [Hst.out, Hok2.out]; simp)), J6.out⟩
            · go_wp2_with fail
              refine (Hb2.out _).mono ?_
              rintro e w7 ⟨rfl, d7⟩
              have l0 := J0.out.same (d7.block _ J0.out.lt)
              have l6 := J6.out.trans (d7.mono J6.out.size)
              clear s0 s1 s2 d7
              have L0 := Lib.hid l0; clear l0
              have L6 := Lib.hid l6; clear l6
              cases bb
              · go_wp2
                go_ret
                exact ⟨int_post (Hbl.out (by rw [Hst.out, Hok2.out]; simp)), L6.out⟩
              · go_wp2
                go_roundw
                case rel => exact ⟨k + 1, hlm, by go_num, L6.out, L0.out, Hst.out.trans (by rw [Hok2.out]; simp)⟩
                case measure => simp [intOf]; omega
          · have hn : decide (2 ≤ sameN ⟨(x1, x2, x3), (v1, v2, v3), dep⟩) = false := by
              unfold sameN
              simp only
              first
              | (refine decide_eq_true ?_; split <;> split <;> split <;> omega)
              | (refine decide_eq_false ?_; split <;> split <;> split <;> omega)
            have hok2 := Hok.out
            rw [hn] at hok2
            clear hn
            subst h2
            have Hok2 := Lib.hid hok2; clear hok2
            go_wp2
            go_ret
            exact ⟨int_post (Hbl.out (by rw [Hst.out, Hok2.out]; simp)), Nt.out⟩
          · have hn : decide (2 ≤ sameN ⟨(x1, x2, x3), (v1, v2, v3), dep⟩) = false := by
              unfold sameN
              simp only
              first
              | (refine decide_eq_true ?_; split <;> split <;> split <;> omega)
              | (refine decide_eq_false ?_; split <;> split <;> split <;> omega)
            have hok2 := Hok.out
            rw [hn] at hok2
            clear hn
            subst h3
            have Hok2 := Lib.hid hok2; clear hok2
            go_wp2
            go_ret
            exact ⟨int_post (Hbl.out (by rw [Hst.out, Hok2.out]; simp)), Nt.out⟩
          · have hn : decide (2 ≤ sameN ⟨(x1, x2, x3), (v1, v2, v3), dep⟩) = false := by
              unfold sameN
              simp only
              first
              | (refine decide_eq_true ?_; split <;> split <;> split <;> omega)
              | (refine decide_eq_false ?_; split <;> split <;> split <;> omega)
            have hok2 := Hok.out
            rw [hn] at hok2
            clear hn
            have Hok2 := Lib.hid hok2; clear hok2
            go_wp2
            go_ret
            exact ⟨int_post (Hbl.out (by rw [Hst.out, Hok2.out]; simp)), Nt.out⟩
      case neg =>
        have hst := hs.out.trans (any_end hlt)
        have Hst := Lib.hid hst; clear hst
        have HB := Lib.hid hB; clear hB
        clear hs hbk
        go_wp2
        clear y0
        go_loopw [7] (fun i wr => ∃ k : Nat, k ≤ t.marks.length ∧ i = .int .i64 k ∧ Hid (RowKit.Below w.heap.size w wr) ∧ Hid (trkB wr w.heap.size A c B d t) ∧ Hid (badM t = (t.marks.drop k).any fun l => !mkOk l)) (fun i _ => t.marks.length - (intOf i).toNat)
        case atStart => exact ⟨0, Nat.zero_le _, rfl, hbw.out, HB.out, rfl⟩
        case round =>
          obtain ⟨k, hk, rfl, hbw, hbk, hs⟩ := hrel
          have hB : Blk wr w.heap.size 31 #[.slice A t.lines.length c, .slice B t.marks.length d, .int .u8 t.fr.1, .int .i64 t.fr.2.1, .int .i64 t.fr.2.2.1, .int .i64 t.fr.2.2.2, .int .i64 t.drawn] := hbk.out
          have y1 := hB.cell 1
          by_cases hlt : k < t.marks.length
          case pos =>
            obtain ⟨b, o, m, hd, rfl, hob, c0, c1, c2, c3, c4, z1, z2, z3⟩ := (Hm.out.later hbw.out).getMk hlt
            have hms := hs.out.trans (any_drop (p := fun l => !mkOk l) hd.out)
            have hc := fun W => rFCheck_calls (m.turn, m.pl) W
            have hok : mkOk m = (checkFr (m.turn, m.pl) == 0) := rfl
            obtain ⟨c, hcc⟩ : ∃ c, checkFr (m.turn, m.pl) = c := ⟨_, rfl⟩
            rw [hcc] at hc hok
            simp only at hc
            have Hms := Lib.hid hms; clear hms
            have Hc := Lib.hid hc; clear hc
            have Hok := Lib.hid hok; clear hok
            have Hcc := Lib.hid hcc; clear hcc
            have HB := Lib.hid hB; clear hB
            clear z1 z2 z3
            go_wp2_with fail
            refine (Hc.out _).mono ?_
            rintro e w6 ⟨rfl, d6⟩
            have j0 := HB.out.same (d6.block _ HB.out.lt)
            have j6 := hbw.out.trans (d6.mono hbw.out.size)
            clear y1 c0 c1 c2 c3 c4 d6
            have J0 := Lib.hid j0; clear j0
            have J6 := Lib.hid j6; clear j6
            by_cases hz : c = 0
            · subst hz
              go_wp2
              go_roundw
              case rel => exact ⟨k + 1, by omega, by go_num, J6.out, J0.out, Hms.out.trans (by rw [Hok.out]; simp)⟩
              case measure => simp [intOf]; omega
            · have hz' : (c != 0) = true := by simpa using hz
              go_wp2
              go_ret
              exact ⟨int_post (Hbm.out (by rw [Hms.out, Hok.out]; simp [hz])), J6.out⟩
          case neg =>
            have hms := hs.out.trans (any_end hlt)
            have Hms := Lib.hid hms; clear hms
            have HB := Lib.hid hB; clear hB
            go_wp2
            go_ret
            exact ⟨int_post (Hgd.out Hst.out Hms.out), hbw.out⟩
end Go.Proofs.Ytldccpmnboebmaa
