/-
  TurtleLengths, the walk of the law: it returns true.
-/
import Derived.Test.YtldccpmnboebmaaDoorBb
import Derived.Test.YtldccpmnboebmaaDoorAc
namespace Go.Proofs.YtldccpmnboebmaaDoor
open Go.RowKit Go.Sort
set_option linter.unusedVariables false

theorem nF_cons (m : Mod) (r : List Mod) : nF (m :: r) = (if m.name = 70 then 1 else 0) + nF r := by
  unfold nF
  rw [List.filter_cons]
  by_cases h : m.name = 70
  · rw [if_pos (by simpa using h), if_pos h, List.length_cons]; omega
  · rw [if_neg (by simpa using h), if_neg h]; omega
theorem nM_cons (m : Mod) (r : List Mod) : nM (m :: r) = (if mkB m.name = true then 1 else 0) + nM r := by
  unfold nM
  rw [List.filter_cons]
  by_cases h : mkB m.name = true
  · rw [if_pos h, if_pos h, List.length_cons]; omega
  · rw [if_neg h, if_neg h]; omega
theorem stepN_rng {m : Mod} (h : fineF m = true) : -1000000000 ≤ stepN m ∧ stepN m ≤ 1000000000 := by
  unfold fineF at h
  simp only [Bool.and_eq_true] at h
  unfold stepN
  cases ha : m.args with
  | nil => simp
  | cons a r =>
    have := List.all_eq_true.1 h.1.2 a (by rw [ha]; simp)
    unfold argOk at this
    simp only [Bool.and_eq_true, decide_eq_true_eq] at this
    simpa using this
theorem len_cases {ms : List Mod} {t : Tur} {b : Trop} (hw : checkF ms = 0) (h : FitT t b) (ht0 : 0 ≤ t.1.1) (hb0 : 0 ≤ b.1) {x : Trk} {e : Int} (h1 : runT ms t b = (x, e)) :
    e = 16 ∨ (e = 0 ∧ Hid (lengthT x = (sumA ms, 0)) ∧ x.lines.length = nF ms ∧ x.marks.length = nM ms) := by
  by_cases h0 : e = 0
  · have := length_law hw h ht0 hb0 (by rw [h1]; exact h0)
    rw [h1] at this
    exact .inr ⟨h0, this.1, this.2.1, this.2.2.1⟩
  · have := runT_err hw h
    rw [h1] at this
    exact .inl (this.resolve_left h0)

set_option maxRecDepth 100000 in
set_option maxHeartbeats 8000000 in
theorem turtleLengths_walk (A : Option Addr) (c : Nat) (ms : List Mod) (t : Tur) (b : Trop) (w : World) (h : SlAt pMod (Old w) w A c ms) (ht0 : Fits .u8 t.1.1) (hb0 : 0 ≤ b.1) (hL : LibAt w) : Calls Tryd.prog 6 #[.slice A ms.length c, .agg #[.int .u8 t.1.1, .int .i64 t.1.2.1, .int .i64 t.1.2.2.1, .int .i64 t.1.2.2.2, .int .i64 t.2], .agg #[.int .u8 b.1, .int .i64 b.2]] w (OkPost w) := by
  have q1 := h.lenle
  obtain ⟨W, hW⟩ : ∃ W, W = (w.alloc (.cells #[.int .u8 t.1.1, .int .i64 t.1.2.1, .int .i64 t.1.2.2.1, .int .i64 t.1.2.2.2, .int .i64 t.2] 28)).alloc (.cells #[.int .u8 b.1, .int .i64 b.2] 30) := ⟨_, rfl⟩
  have b0 : Blk W w.heap.size 28 #[.int .u8 t.1.1, .int .i64 t.1.2.1, .int .i64 t.1.2.2.1, .int .i64 t.1.2.2.2, .int .i64 t.2] := by rw [hW]; exact (Blk.new w _ _).alloc _
  have b1 : Blk W (w.heap.size + 1) 30 #[.int .u8 b.1, .int .i64 b.2] := by
    rw [hW]
    have := Blk.new (w.alloc (.cells #[.int .u8 t.1.1, .int .i64 t.1.2.1, .int .i64 t.1.2.2.1, .int .i64 t.1.2.2.2, .int .i64 t.2] 28)) 30 #[.int .u8 b.1, .int .i64 b.2]
    simpa using this
  have t0 : RowKit.Below w.heap.size w W := by rw [hW]; exact al2
  have al := alive_calls W (hL.later t0)
  have B0 := Lib.hid b0; clear b0
  have B1 := Lib.hid b1; clear b1
  have T0 := Lib.hid t0; clear t0
  have H := Lib.hid h; clear h
  have Al := Lib.hid al; clear al
  have HL := Lib.hid hL; clear hL
  go_enter Tryd.func6, Tryd.ntmps6
  go_wp2_with fail
  (try rw [← hW])
  clear hW
  refine Al.out.mono ?_
  rintro e w1 ⟨rfl, d1⟩
  have k0 := B0.out.same (d1.block _ B0.out.lt)
  have k1 := B1.out.same (d1.block _ B1.out.lt)
  have tB := T0.out.trans (d1.mono T0.out.size)
  clear d1
  have y0 := k0.cell 0
  have y1 := k0.cell 1
  have y2 := k0.cell 2
  have y3 := k0.cell 3
  have y4 := k0.cell 4
  have x0 := k1.cell 0
  have x1 := k1.cell 1

  have cf := fit_calls A c ms t b w1 (H.out.later tB)
  obtain ⟨z1, hz1⟩ : ∃ z, fitB ms t b = z := ⟨_, rfl⟩
  rw [hz1] at cf
  have K0 := Lib.hid k0; clear k0
  have K1 := Lib.hid k1; clear k1
  have TB := Lib.hid tB; clear tB
  have Cf := Lib.hid cf; clear cf
  have Hz1 := Lib.hid hz1; clear hz1
  go_wp2_with fail
  refine Cf.out.mono ?_
  rintro e w2 ⟨rfl, d1⟩
  have k0 := K0.out.same (d1.block _ K0.out.lt)
  have k1 := K1.out.same (d1.block _ K1.out.lt)
  have tB := TB.out.trans (d1.mono TB.out.size)
  clear d1 y0 y1 y2 y3 y4 x0 x1
  cases z1
  case false =>
    have TB := Lib.hid tB; clear tB
    go_wp2
    go_ret
    exact ⟨rfl, TB.out⟩
  case true =>
  have y0 := k0.cell 0
  have y1 := k0.cell 1
  have y2 := k0.cell 2
  have y3 := k0.cell 3
  have y4 := k0.cell 4
  have x0 := k1.cell 0
  have x1 := k1.cell 1

  obtain ⟨lv, cv, fv⟩ := fitB_yes Hz1.out
  obtain ⟨⟨x, e1⟩, hx⟩ : ∃ r, runT ms t b = r := ⟨_, rfl⟩
  have law := len_cases cv fv ht0.u8.1 hb0 hx
  have fin := (checkI.1 cv).2.1
  have Hx := Lib.hid hx; clear hx
  have Law := Lib.hid law; clear law
  have Cv := Lib.hid cv; clear cv
  have Fv := Lib.hid fv; clear fv
  have Fin := Lib.hid fin; clear fin
  have cr := run_fresh A c ms t b w2 (H.out.later tB) ht0 hb0
  unfold FreshPost at cr
  rw [Hx.out] at cr
  simp only at cr
  have K0 := Lib.hid k0; clear k0
  have K1 := Lib.hid k1; clear k1
  have TB := Lib.hid tB; clear tB
  have Cr := Lib.hid cr; clear cr
  go_wp2_with fail
  refine Cr.out.mono ?_
  rintro e w3 ⟨A2, c2, B2, p2, rfl, sl, sm, dd⟩
  obtain ⟨w4, hw⟩ : ∃ W, W = w3.alloc (.cells #[.slice A2 x.lines.length c2, .slice B2 x.marks.length p2, .int .u8 x.fr.1, .int .i64 x.fr.2.1, .int .i64 x.fr.2.2.1, .int .i64 x.fr.2.2.2, .int .i64 x.drawn] 36) := ⟨_, rfl⟩
  obtain ⟨g8, hg⟩ : ∃ k, k = w3.heap.size := ⟨_, rfl⟩
  have ng8 : Blk w4 g8 36 #[.slice A2 x.lines.length c2, .slice B2 x.marks.length p2, .int .u8 x.fr.1, .int .i64 x.fr.2.1, .int .i64 x.fr.2.2.1, .int .i64 x.fr.2.2.2, .int .i64 x.drawn] := by rw [hw, hg]; exact Blk.new w3 _ _
  have d2 : RowKit.Below w3.heap.size w3 w4 := by rw [hw]; exact al1
  have d3 := dd.trans (d2.mono dd.size)
  have k0 := K0.out.same (d3.block _ K0.out.lt)
  have k1 := K1.out.same (d3.block _ K1.out.lt)
  have tB := TB.out.trans (d3.mono TB.out.size)
  have slg8 := (sl.wide (F' := Old w3) fun k hk => hk.2).later d2
  have smg8 := (sm.wide (F' := Old w3) fun k hk => hk.2).later d2
  clear y0 y1 y2 y3 y4 x0 x1 sl sm dd d2 d3
  have Ng8 := Lib.hid ng8; clear ng8
  have Slg8 := Lib.hid slg8; clear slg8
  have Smg8 := Lib.hid smg8; clear smg8
  have y0 := k0.cell 0
  have y1 := k0.cell 1
  have y2 := k0.cell 2
  have y3 := k0.cell 3
  have y4 := k0.cell 4
  have x0 := k1.cell 0
  have x1 := k1.cell 1
  have K0 := Lib.hid k0; clear k0
  have K1 := Lib.hid k1; clear k1
  have TB := Lib.hid tB; clear tB

  clear y0 y1 y2 y3 y4 x0 x1
  go_upto_region 5 with fail
  (try rw [← hw, ← hg])
  clear hw hg
  rcases Law.out with rfl | ⟨rfl, hlen, hl1, hl2⟩
  · go_wp2
    go_ret
    exact ⟨rfl, TB.out⟩
  have a0 := Ng8.out.cell 0
  have a1 := Ng8.out.cell 1
  have a2 := Ng8.out.cell 2
  have a3 := Ng8.out.cell 3
  have a4 := Ng8.out.cell 4
  have a5 := Ng8.out.cell 5
  have a6 := Ng8.out.cell 6
  have cl := length_calls A2 c2 B2 p2 x w4 Slg8.out Smg8.out
  unfold IntErr at cl
  rw [hlen.out] at cl
  simp only at cl
  obtain ⟨L, hL2⟩ : ∃ L, sumA ms = L := ⟨_, rfl⟩
  rw [hL2] at cl
  have Cl := Lib.hid cl; clear cl
  have HL2 := Lib.hid hL2; clear hL2
  have Hl1 := Lib.hid hl1; clear hl1
  have Hl2 := Lib.hid hl2; clear hl2
  go_wp2_with fail
  refine Cl.out.mono ?_
  rintro e w5 ⟨rfl, d1⟩
  have n8 := Ng8.out.same (d1.block _ Ng8.out.lt)
  have tB := TB.out.trans (d1.mono TB.out.size)
  clear a0 a1 a2 a3 a4 a5 a6 d1 hlen
  have hb := H.out.later tB
  have N8 := Lib.hid n8; clear n8
  have TB := Lib.hid tB; clear tB
  have Hb := Lib.hid hb; clear hb
  go_wp2
  go_loopw [12, 13, 14, 15] (fun s12 s13 s14 i wr => ∃ (k : Nat) (s : Int) (l q : Nat), k ≤ ms.length ∧ i = .int .i64 k ∧ s12 = .int .i64 s ∧ s13 = .int .i64 l ∧ s14 = .int .i64 q ∧ 0 ≤ s ∧ s ≤ 1000000000 * k ∧ l ≤ k ∧ q ≤ k ∧ Hid (s + sumA (ms.drop k) = sumA ms) ∧ Hid (l + nF (ms.drop k) = nF ms) ∧ Hid (q + nM (ms.drop k) = nM ms) ∧ Hid (w5 = wr)) (fun _ _ _ i _ => ms.length - (intOf i).toNat)
  case atStart => exact ⟨0, 0, 0, 0, Nat.zero_le _, rfl, rfl, rfl, rfl, by omega, by omega, Nat.le_refl _, Nat.le_refl _, Int.zero_add _, Nat.zero_add _, Nat.zero_add _, rfl⟩
  case round =>
    obtain ⟨k, s, l, q, hk, rfl, rfl, rfl, rfl, hs0, hs1, hlk, hqk, hsum, hnl, hnq, hww⟩ := hrel
    obtain rfl := hww.out
    clear hww
    by_cases hlt : k < ms.length
    case pos =>
      obtain ⟨bb, oo, A', c', m, hd, rfl, hob, m0, m1, hu8, hma, hml⟩ := Hb.out.getMod hlt
      have hfm := List.all_eq_true.1 Fin.out m (mem_of_drop hd.out)
      have hrg := stepN_rng hfm
      have f1 := hsum.out
      have f2 := hnl.out
      have f3 := hnq.out
      rw [hd.out] at f1 f2 f3
      rw [nF_cons] at f2
      rw [nM_cons] at f3
      simp only [sumA] at f1
      have hk1 : k + 1 ≤ ms.length := hlt
      clear hsum hnl hnq hfm hd
      by_cases h70 : m.name = 70
      case pos =>
        have e70 : (m.name == 70) = true := by simpa using h70
        have hmk : ¬ mkB m.name = true := by rw [h70]; decide
        rw [if_pos h70] at f1 f2
        rw [if_neg hmk] at f3
        have g2 : l + 1 + nF (ms.drop (k + 1)) = nF ms := by omega
        have g3 : q + nM (ms.drop (k + 1)) = nM ms := by omega
        clear f2 f3 hmk h70 hu8
        by_cases hargs : 0 < m.args.length
        case pos =>
          obtain ⟨b2, o2, a, hd2, rfl, hob2, ca, fa⟩ := hma.out.getI hargs
          have hst : stepN m = a := by
            have := get_of_drop hd2.out
            unfold stepN
            rw [List.head?_eq_getElem?, this]; rfl
          rw [hst] at f1 hrg
          rw [Nat.zero_add] at hd2
          have ca' : w5.cell? ⟨b2, o2, none⟩ = some (.int .i64 a) := by simpa using ca
          by_cases sg : a < 0
          · have ha : absI a = -a := by unfold absI; omega
            rw [ha] at f1
            have i1 : IntKind.i64.wrap (-a) = -a := IntWalk.i64_in _ (by omega)
            have i2 : IntKind.i64.wrap (s + -a) = s + -a := IntWalk.i64_in _ (by omega)
            have g1 : s + -a + sumA (ms.drop (k + 1)) = sumA ms := by omega
            have r1 : 0 ≤ s + -a := by omega
            have r2 : s + -a ≤ 1000000000 * ((k + 1 : Nat) : Int) := by omega
            have r3 : a < -a := by omega
            have r4 : max a (-a) = -a := by omega
            have G1 := Lib.hid g1; clear g1
            have G2 := Lib.hid g2; clear g2
            have G3 := Lib.hid g3; clear g3
            have Hst := Lib.hid hst; clear hst
            have Ha := Lib.hid ha; clear ha
            have R1 := Lib.hid r1; clear r1
            have R2 := Lib.hid r2; clear r2
            have Hma := Lib.hid hma; clear hma
            have Hd2 := Lib.hid hd2; clear hd2
            have Hrg := Lib.hid hrg; clear hrg
            have Hs0 := Lib.hid hs0; clear hs0
            have Hs1 := Lib.hid hs1; clear hs1
            clear f1
            go_wp2
            all_goals
              go_roundw
              case rel => exact ⟨k + 1, s + -a, l + 1, q, hk1, by go_num, rfl, rfl, rfl, R1.out, R2.out, by omega, by omega, G1, G2, G3, (by first | exact rfl | exact trivial)⟩
              case measure => simp [intOf]; omega
          · have ha : absI a = a := by unfold absI; omega
            rw [ha] at f1
            have i1 : IntKind.i64.wrap (-a) = -a := IntWalk.i64_in _ (by omega)
            have i2 : IntKind.i64.wrap (s + a) = s + a := IntWalk.i64_in _ (by omega)
            have g1 : s + a + sumA (ms.drop (k + 1)) = sumA ms := by omega
            have r1 : 0 ≤ s + a := by omega
            have r2 : s + a ≤ 1000000000 * ((k + 1 : Nat) : Int) := by omega
            have r3 : ¬ a < -a := by omega
            have r4 : max a (-a) = a := by omega
            have G1 := Lib.hid g1; clear g1
            have G2 := Lib.hid g2; clear g2
            have G3 := Lib.hid g3; clear g3
            have Hst := Lib.hid hst; clear hst
            have Ha := Lib.hid ha; clear ha
            have R1 := Lib.hid r1; clear r1
            have R2 := Lib.hid r2; clear r2
            have Hma := Lib.hid hma; clear hma
            have Hd2 := Lib.hid hd2; clear hd2
            have Hrg := Lib.hid hrg; clear hrg
            have Hs0 := Lib.hid hs0; clear hs0
            have Hs1 := Lib.hid hs1; clear hs1
            clear f1
            go_wp2
            all_goals
              go_roundw
              case rel => exact ⟨k + 1, s + a, l + 1, q, hk1, by go_num, rfl, rfl, rfl, R1.out, R2.out, by omega, by omega, G1, G2, G3, (by first | exact rfl | exact trivial)⟩
              case measure => simp [intOf]; omega
        case neg =>
          have hst : stepN m = 1 := by
            unfold stepN
            rw [List.eq_nil_of_length_eq_zero (by omega : m.args.length = 0)]; rfl
          rw [hst, show absI 1 = 1 from by decide] at f1
          have i2 : IntKind.i64.wrap (s + 1) = s + 1 := IntWalk.i64_in _ (by omega)
          have i3 : IntKind.i64.wrap (s + max 1 (-1)) = s + 1 := by rw [show max (1 : Int) (-1) = 1 from by decide]; exact i2
          have I3 := Lib.hid i3
          have g1 : s + 1 + sumA (ms.drop (k + 1)) = sumA ms := by omega
          have r1 : 0 ≤ s + 1 := by omega
          have r2 : s + 1 ≤ 1000000000 * ((k + 1 : Nat) : Int) := by omega
          have G1 := Lib.hid g1; clear g1
          have G2 := Lib.hid g2; clear g2
          have G3 := Lib.hid g3; clear g3
          have Hst := Lib.hid hst; clear hst
          have R1 := Lib.hid r1; clear r1
          have R2 := Lib.hid r2; clear r2
          have Hma := Lib.hid hma; clear hma
          have Hrg := Lib.hid hrg; clear hrg
          have Hs0 := Lib.hid hs0; clear hs0
          have Hs1 := Lib.hid hs1; clear hs1
          clear f1
          go_wp2
          all_goals
            go_roundw
            case rel => exact ⟨k + 1, s + 1, l + 1, q, hk1, by go_num, (by first | rfl | exact congrArg (Value.int .i64) I3.out), rfl, rfl, R1.out, R2.out, by omega, by omega, G1, G2, G3, (by first | exact rfl | exact trivial)⟩
            case measure => simp [intOf]; omega
      case neg =>
        have e70 : (m.name == 70) = false := by simpa using h70
        rw [if_neg h70] at f1 f2
        have g1 : s + sumA (ms.drop (k + 1)) = sumA ms := by omega
        have g2 : l + nF (ms.drop (k + 1)) = nF ms := by omega
        have r2 : s ≤ 1000000000 * ((k + 1 : Nat) : Int) := by omega
        have u8 := hu8.u8
        clear hu8 hma hrg
        rcases (show m.name = 102 ∨ (m.name ≠ 102 ∧ 65 ≤ m.name ∧ m.name ≤ 90) ∨ (m.name ≠ 102 ∧ 65 ≤ m.name ∧ ¬ m.name ≤ 90 ∧ 97 ≤ m.name ∧ m.name ≤ 122) ∨ (m.name ≠ 102 ∧ ¬ 65 ≤ m.name ∧ ¬ 97 ≤ m.name) ∨ (m.name ≠ 102 ∧ 65 ≤ m.name ∧ ¬ m.name ≤ 90 ∧ ¬ 97 ≤ m.name) ∨ (m.name ≠ 102 ∧ 65 ≤ m.name ∧ ¬ m.name ≤ 90 ∧ 97 ≤ m.name ∧ ¬ m.name ≤ 122) from by omega) with j0 | ⟨j0, j1, j2⟩ | ⟨j0, j1, j2, j3, j4⟩ | ⟨j0, j1, j3⟩ | ⟨j0, j1, j2, j3⟩ | ⟨j0, j1, j2, j3, j4⟩
        · have hmk : ¬ mkB m.name = true := by
            unfold mkB upB loB
            simp [j0]
          rw [if_neg hmk] at f3
          have g3 : q + nM (ms.drop (k + 1)) = nM ms := by omega
          have e102 : (m.name != 102) = false := by simp [j0]
          have G1 := Lib.hid g1; clear g1
          have G2 := Lib.hid g2; clear g2
          have G3 := Lib.hid g3; clear g3
          have R2 := Lib.hid r2; clear r2
          have Hmk := Lib.hid hmk; clear hmk
          have H70 := Lib.hid h70; clear h70
          have J0 := Lib.hid j0; clear j0
          have Hs1 := Lib.hid hs1; clear hs1
          clear f1 f2 f3
          go_wp2
          all_goals
            go_roundw
            case rel => exact ⟨k + 1, s, l, q, hk1, by go_num, rfl, rfl, rfl, hs0, R2.out, by omega, by omega, G1, G2, G3, (by first | exact rfl | exact trivial)⟩
            case measure => simp [intOf]; omega
        · have hmk : mkB m.name = true := by
            unfold mkB upB loB
            simp [j0, j1, j2, h70]
          rw [if_pos hmk] at f3
          have g3 : q + 1 + nM (ms.drop (k + 1)) = nM ms := by omega
          have e102 : (m.name != 102) = true := by simpa using j0
          have G1 := Lib.hid g1; clear g1
          have G2 := Lib.hid g2; clear g2
          have G3 := Lib.hid g3; clear g3
          have R2 := Lib.hid r2; clear r2
          have Hmk := Lib.hid hmk; clear hmk
          have H70 := Lib.hid h70; clear h70
          have J0 := Lib.hid j0; clear j0
          have Hs1 := Lib.hid hs1; clear hs1
          clear f1 f2 f3
          go_wp2
          all_goals
            go_roundw
            case rel => exact ⟨k + 1, s, l, q + 1, hk1, by go_num, rfl, rfl, rfl, hs0, R2.out, by omega, by omega, G1, G2, G3, (by first | exact rfl | exact trivial)⟩
            case measure => simp [intOf]; omega
        · have hmk : mkB m.name = true := by
            unfold mkB upB loB
            simp [j0, j1, j2, j3, j4, h70]
          rw [if_pos hmk] at f3
          have g3 : q + 1 + nM (ms.drop (k + 1)) = nM ms := by omega
          have e102 : (m.name != 102) = true := by simpa using j0
          have G1 := Lib.hid g1; clear g1
          have G2 := Lib.hid g2; clear g2
          have G3 := Lib.hid g3; clear g3
          have R2 := Lib.hid r2; clear r2
          have Hmk := Lib.hid hmk; clear hmk
          have H70 := Lib.hid h70; clear h70
          have J0 := Lib.hid j0; clear j0
          have Hs1 := Lib.hid hs1; clear hs1
          clear f1 f2 f3
          go_wp2
          all_goals
            go_roundw
            case rel => exact ⟨k + 1, s, l, q + 1, hk1, by go_num, rfl, rfl, rfl, hs0, R2.out, by omega, by omega, G1, G2, G3, (by first | exact rfl | exact trivial)⟩
            case measure => simp [intOf]; omega
        · have hmk : ¬ mkB m.name = true := by
            unfold mkB upB loB
            simp [j1, j3]
          rw [if_neg hmk] at f3
          have g3 : q + nM (ms.drop (k + 1)) = nM ms := by omega
          have e102 : (m.name != 102) = true := by simpa using j0
          have G1 := Lib.hid g1; clear g1
          have G2 := Lib.hid g2; clear g2
          have G3 := Lib.hid g3; clear g3
          have R2 := Lib.hid r2; clear r2
          have Hmk := Lib.hid hmk; clear hmk
          have H70 := Lib.hid h70; clear h70
          have J0 := Lib.hid j0; clear j0
          have Hs1 := Lib.hid hs1; clear hs1
          clear f1 f2 f3
          go_wp2
          all_goals
            go_roundw
            case rel => exact ⟨k + 1, s, l, q, hk1, by go_num, rfl, rfl, rfl, hs0, R2.out, by omega, by omega, G1, G2, G3, (by first | exact rfl | exact trivial)⟩
            case measure => simp [intOf]; omega
        · have hmk : ¬ mkB m.name = true := by
            unfold mkB upB loB
            simp [j1, j2, j3]
          rw [if_neg hmk] at f3
          have g3 : q + nM (ms.drop (k + 1)) = nM ms := by omega
          have e102 : (m.name != 102) = true := by simpa using j0
          have G1 := Lib.hid g1; clear g1
          have G2 := Lib.hid g2; clear g2
          have G3 := Lib.hid g3; clear g3
          have R2 := Lib.hid r2; clear r2
          have Hmk := Lib.hid hmk; clear hmk
          have H70 := Lib.hid h70; clear h70
          have J0 := Lib.hid j0; clear j0
          have Hs1 := Lib.hid hs1; clear hs1
          clear f1 f2 f3
          go_wp2
          all_goals
            go_roundw
            case rel => exact ⟨k + 1, s, l, q, hk1, by go_num, rfl, rfl, rfl, hs0, R2.out, by omega, by omega, G1, G2, G3, (by first | exact rfl | exact trivial)⟩
            case measure => simp [intOf]; omega
        · have hmk : ¬ mkB m.name = true := by
            unfold mkB upB loB
            simp [j1, j2, j3, j4]
          rw [if_neg hmk] at f3
          have g3 : q + nM (ms.drop (k + 1)) = nM ms := by omega
          have e102 : (m.name != 102) = true := by simpa using j0
          have G1 := Lib.hid g1; clear g1
          have G2 := Lib.hid g2; clear g2
          have G3 := Lib.hid g3; clear g3
          have R2 := Lib.hid r2; clear r2
          have Hmk := Lib.hid hmk; clear hmk
          have H70 := Lib.hid h70; clear h70
          have J0 := Lib.hid j0; clear j0
          have Hs1 := Lib.hid hs1; clear hs1
          clear f1 f2 f3
          go_wp2
          all_goals
            go_roundw
            case rel => exact ⟨k + 1, s, l, q, hk1, by go_num, rfl, rfl, rfl, hs0, R2.out, by omega, by omega, G1, G2, G3, (by first | exact rfl | exact trivial)⟩
            case measure => simp [intOf]; omega
    case neg =>
      have hkl : k = ms.length := by omega
      subst hkl
      have f1 := hsum.out
      have f2 := hnl.out
      have f3 := hnq.out
      rw [List.drop_length] at f1 f2 f3
      have g1 : s = L := by rw [← HL2.out, ← f1]; simp [sumA]
      have g2 : l = x.lines.length := by rw [Hl1.out, ← f2]; rfl
      have g3 : q = x.marks.length := by rw [Hl2.out, ← f3]; rfl
      subst g1 g2 g3
      have a0 := N8.out.cell 0
      have a1 := N8.out.cell 1
      clear f1 f2 f3 hsum hnl hnq hs1
      go_wp2
      go_ret
      exact ⟨by simp, TB.out⟩
end Go.Proofs.YtldccpmnboebmaaDoor
