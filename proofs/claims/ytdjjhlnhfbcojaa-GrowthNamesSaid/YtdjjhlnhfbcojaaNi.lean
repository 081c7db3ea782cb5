/-
  Layer 10: the walk of the reference's Counts.
-/
import Derived.Test.YtdjjhlnhfbcojaaNh
import Derived.StillTailTactics
namespace Go.Proofs.Ytdjjhlnhfbcojaa
open Go.RowKit Go.Sort

theorem prodRow_some {y : List Int} {m : List (List Int)} (h : ∀ i, i < m.length → dot y m i y.length ≤ 1000000000000000) : prodRow y m = some ((List.range m.length).map fun k => dot y m k y.length) := by
  unfold prodRow
  rw [if_pos]
  rw [List.all_eq_true]
  intro i hi
  exact decide_eq_true (h i (List.mem_range.1 hi))
theorem prodRow_none {y : List Int} {m : List (List Int)} {i : Nat} (hi : i < m.length) (h : 1000000000000000 < dot y m i y.length) : prodRow y m = none := by
  unfold prodRow
  rw [if_neg]
  intro ha
  have := of_decide_eq_true (List.all_eq_true.1 ha i (List.mem_range.2 hi))
  omega

set_option maxRecDepth 100000 in
set_option maxHeartbeats 4000000 in
theorem refGCounts_calls (A : Option Addr) (c : Nat) (rs : List Rul) (p : ByteArray) (B : Option Addr) (cb : Nat) (ms : List Mod) (n : Int) (w : World) (h : SlAt pRul (Old w) w A c rs) (hs : Small rs) (hp : p.size ≤ 100) (h' : SlAt pMod (Old w) w B cb ms) (hn : Fits .i64 n) :
    Calls Try.prog 18 #[.slice A rs.length c, .string p, .slice B ms.length cb, .int .i64 n] w (CountsPost rs p ms n w) := by
  have hmx := h.lenle
  have hmy := h'.lenle
  have hn' := hn.i64
  have H := Lib.hid h; clear h
  have Hs := Lib.hid hs; clear hs
  have H' := Lib.hid h'; clear h'
  by_cases hck : checkG rs p = 0
  · by_cases hwc : checkF ms = 0
    · have e0 : (checkG rs p != 0) = false := by simp [hck]
      have e1 : (checkF ms != 0) = false := by simp [hwc]
      obtain ⟨hc0, hp12, hnm, hpl⟩ := checkG_zero hck
      have hl2 := checkF_len hwc
      have hbad := countsF_c (n := n) hck hwc
      have harg := countsF_d (n := n) hck hwc
      have hgo := countsF_e (n := n) hck hwc
      have hmk := fun (wx : World) => run_make_row' (P := Try.prog) 24 2 (.int .i64 0) 8 Try.underlying24 info_int64 rfl .i64 .i64 p.size (by omega) (by omega) wx
      simp only [cellsN_made] at hmk
      have Hck := Lib.hid hck; clear hck
      have Hwc := Lib.hid hwc; clear hwc
      have Hnm := Lib.hid hnm; clear hnm
      have Hbad := Lib.hid hbad; clear hbad
      have Harg := Lib.hid harg; clear harg
      have Hgo := Lib.hid hgo; clear hgo
      clear hc0 hpl
      go_enter Try.func18, Try.ntmps18
      go_wp2_with fail
      refine (refGCheck_calls A c rs p w H.out Hs.out hp).mono ?_
      rintro e w1 ⟨rfl, hb1⟩
      have z1 := hb1.size
      have Hb1 := Lib.hid hb1; clear hb1
      go_wp2_with fail
      refine (refCheck_calls B cb ms w1 (H'.out.later Hb1.out)).mono ?_
      rintro e w2 ⟨rfl, hb2⟩
      have Hb2 := Lib.hid (Hb1.out.trans (hb2.mono z1)); clear hb2
      have z2 := Hb2.out.size
      have Hb3 := Lib.hid (show Below w.heap.size w (w2.alloc (.cells (cellsN p.size fun _ => 0) 2)) from Hb2.out.alloc z2 _)
      have Hbl := Lib.hid (Blk.new w2 2 (cellsN p.size fun _ => 0))
      go_wp2
      clear e0 e1
      go_loopw [11] (fun i wr => ∃ m : Nat, m ≤ ms.length ∧ i = .int .i64 m ∧ Hid (Below w.heap.size w wr) ∧ w2.heap.size < wr.heap.size ∧ ∃ f, Hid (Blk wr w2.heap.size 2 (cellsN p.size f)) ∧ Hid (∀ i, i < p.size → f i = vecFn p (ms.take m) i) ∧ Hid (ms.all (goodM p) = (ms.drop m).all (goodM p))) (fun i _ => ms.length - (intOf i).toNat)
      case atStart => exact ⟨0, Nat.zero_le _, rfl, Hb3, by simp, _, Hbl, fun i _ => rfl, rfl⟩
      case round =>
        obtain ⟨m, hm, rfl, hb, hsz, f, hbl, hf, hall⟩ := hrel
        obtain ⟨wo, rfl⟩ : ∃ wo : World, wo = wr := ⟨_, rfl⟩
        by_cases hlt : m < ms.length
        · obtain ⟨b, o, A1, c1, x, hd, rfl, hob, hc0, hc1, hx8, hxa, hxl⟩ := (H'.out.below hb.out).getMod hlt
          have hob' : b < wo.heap.size := by have : b < w.heap.size := hob; omega
          have hvt := vecFn_take (p := p) hd.out
          have hyes : goodM p x = true → ms.all (goodM p) = (ms.drop (m + 1)).all (goodM p) := fun hy => by rw [hall.out, hd.out, List.all_cons, hy]; rfl
          have hno : goodM p x = false → countsF rs p ms n = ([], 8) := fun hy => Hbad.out (by rw [hall.out, hd.out, List.all_cons, hy]; rfl)
          have hgc := goodM_cases Hnm.out x
          have Hvt := Lib.hid hvt; clear hvt
          rcases hgc with ⟨hg, hbr, ha⟩ | ⟨hbr, ⟨hg, ha | ⟨ha, hla⟩⟩ | ⟨hg, hla, q, ha, hq⟩⟩
          · have hn3 : ∀ i, i < p.size → f i = vecFn p (ms.take (m + 1)) i := fun i hi => by rw [Hvt.out, ha, if_neg (by omega), hf.out i hi]; omega
            have hy := hyes hg
            have Hn3 := Lib.hid hn3; clear hn3
            have Hy := Lib.hid hy; clear hy
            clear hyes hno hg
            go_wp2_with fail
            refine (at_calls _ _ _ hp).mono ?_
            rintro e w' ⟨rfl, rfl⟩
            rw [ha]
            go_wp2_with fail
            refine (bracket_calls _ _).mono ?_
            rintro e w' ⟨rfl, rfl⟩
            rw [hbr]
            go_wp2
            go_roundw
            case rel => exact ⟨m + 1, by omega, by go_num, hb, hsz, f, hbl, Hn3, Hy⟩
            case measure => simp [intOf]; omega
          · have hr := hno hg
            have Hr := Lib.hid hr; clear hr
            clear hyes hno hg
            go_wp2_with fail
            refine (at_calls _ _ _ hp).mono ?_
            rintro e w' ⟨rfl, rfl⟩
            go_wp2_with fail
            refine (bracket_calls _ _).mono ?_
            rintro e w' ⟨rfl, rfl⟩
            rw [hbr]
            go_wp2
            go_ret2
            exact counts_err Hr.out hb.out
          · have hr := hno hg
            have Hr := Lib.hid hr; clear hr
            clear hyes hno hg
            go_wp2_with fail
            refine (at_calls _ _ _ hp).mono ?_
            rintro e w' ⟨rfl, rfl⟩
            go_wp2_with fail
            refine (bracket_calls _ _).mono ?_
            rintro e w' ⟨rfl, rfl⟩
            rw [hbr]
            go_wp2
            go_ret2
            exact counts_err Hr.out hb.out
          · have hcm2 := (hbl.out.cell q).trans (cellsN_get f hq)
            have hfz := hbl.out.free q
            have hbd := vecFn_bd p q (ms.take m)
            have hlen2 : (ms.take m).length ≤ 2000 := by rw [List.length_take]; omega
            have hv := hf.out q hq
            have hset := hbl.out.set q (.int .i64 (f q + 1))
            rw [cellsN_set] at hset
            have hbt : Below w.heap.size w (wo.setCell ⟨w2.heap.size, q, none⟩ (.int .i64 (f q + 1))) := hb.out.setCell (by exact z2) _
            have hn3 : ∀ i, i < p.size → (if i = q then f q + 1 else f i) = vecFn p (ms.take (m + 1)) i := fun i hi => by
              rw [Hvt.out, ha]
              by_cases he : i = q
              · subst he; rw [if_pos rfl, if_pos rfl, hv]
              · rw [if_neg he, if_neg (by omega), hf.out i hi]; omega
            have hy := hyes hg
            rw [← hv] at hbd
            have hv2 : f q + 1 ≤ 2001 := by omega
            have hv0 : 0 ≤ f q := hbd.1
            clear hv hbd hlen2 hyes hno hg
            have Hset := Lib.hid hset; clear hset
            have Hn3 := Lib.hid hn3; clear hn3
            have Hbt := Lib.hid hbt; clear hbt
            have Hy := Lib.hid hy; clear hy
            generalize hvq : f q = v at hcm2 hv0 hv2 Hbt Hset
            rw [hvq] at Hn3
            have Hvq := Lib.hid hvq; clear hvq
            go_wp2_with fail
            refine (at_calls _ _ _ hp).mono ?_
            rintro e w' ⟨rfl, rfl⟩
            rw [ha]
            go_wp2_with fail
            refine (bracket_calls _ _).mono ?_
            rintro e w' ⟨rfl, rfl⟩
            rw [hbr]
            go_wp2
            go_roundw
            case rel => exact ⟨m + 1, by omega, by go_num, Hbt, by simp [World.setCell]; omega, _, Hset, Hn3, Hy⟩
            case measure => simp [intOf]; omega
        · have hgood : ms.all (goodM p) = true := by rw [hall.out, drop_end hlt]; rfl
          have hsx : SlAt (pI .i64) (fun q => q = w2.heap.size) wo (some ⟨w2.heap.size, 0, none⟩) p.size (vecF p ms) := by
            have hf2 : ∀ i, i < p.size → f i = vecFn p ms i := fun i hi => by rw [hf.out i hi, List.take_of_length_le (by omega)]
            have := sl_of_blk (F := fun q => q = w2.heap.size) hbl.out rfl (by unfold maxLen; omega) fun i hi => by
              have h1 := vecFn_bd p i ms
              rw [hf2 i hi]
              exact fits_i64 (by omega)
            rwa [List.map_congr_left fun i hi => hf2 i (List.mem_range.1 hi)] at this
          clear hall hf hbl
          by_cases hnr : n < 0 ∨ 60 < n
          · have hr := Harg.out hgood hnr
            have Hr := Lib.hid hr; clear hr
            rcases hnr with h1 | h1
            · go_wp2
              go_ret2
              exact counts_err Hr.out hb.out
            · have h0 : ¬ n < 0 := by omega
              go_wp2
              go_ret2
              exact counts_err Hr.out hb.out
          · obtain ⟨gN, gS⟩ := Hgo.out hgood hnr
            obtain ⟨N, rfl⟩ := Int.eq_ofNat_of_zero_le (show 0 ≤ n by omega)
            have hN : N ≤ 60 := by omega
            rw [Int.toNat_natCast] at gN gS
            have hN0 : ¬ (N : Int) < 0 := by omega
            have GN := Lib.hid gN; clear gN
            have GS := Lib.hid gS; clear gS
            have Hsx := Lib.hid hsx; clear hsx
            have Hgood := Lib.hid hgood; clear hgood
            clear hnr hn hn'
            have hrc := refRows_calls A c rs p wo (H.out.later hb.out) Hs.out Hck.out
            have Hrc := Lib.hid hrc; clear hrc
            go_wp2_with fail
            refine Hrc.out.mono ?_
            rintro e w4 ⟨Am, cm, rfl, hb4, hm4⟩
            have hz4 := hb4.size
            have hbw4 : Below w.heap.size w w4 := hb.out.trans (hb4.mono (by omega))
            have hx4 : SlAt (pI .i64) (fun q => w.heap.size ≤ q ∧ q < w4.heap.size) w4 (some ⟨w2.heap.size, 0, none⟩) p.size (vecF p ms) := (Hsx.out.keep fun q hq => hb4.block q (by rw [hq]; exact hsz)).wide fun q hq => by rw [hq]; exact ⟨z2, by omega⟩
            have hvl : (vecF p ms).length = p.size := by unfold vecF; simp
            have hvp : Pos (vecF p ms) := vecF_pos (by omega)
            have hmp := rowsF_pos (rs := rs) p Hs.out.o
            have hml := rowsF_rows (rs := rs) (p := p)
            have hmm := rowsF_length rs p
            have Hbw4 := Lib.hid hbw4; clear hbw4
            have Hx4 := Lib.hid hx4; clear hx4
            have Hvl := Lib.hid hvl; clear hvl
            have Hvp := Lib.hid hvp; clear hvp
            have Hmp := Lib.hid hmp; clear hmp
            have Hml := Lib.hid hml; clear hml
            have Hmm := Lib.hid hmm; clear hmm
            clear hb4
            go_wp2
            go_loopw [14, 10] (fun i x wr => ∃ j : Nat, j ≤ N ∧ i = .int .i64 j ∧ Hid (Below w.heap.size w wr) ∧ w4.heap.size ≤ wr.heap.size ∧ Hid (∀ q, q < w4.heap.size → wr.heap[q]? = w4.heap[q]?) ∧ ∃ Ax cx y, x = .slice Ax p.size cx ∧ Hid (y.length = p.size) ∧ Hid (Pos y) ∧ Hid (SlAt (pI .i64) (fun q => w.heap.size ≤ q ∧ q < wr.heap.size) wr Ax cx y) ∧ Hid (iterF (rowsF rs p) N (vecF p ms) = iterF (rowsF rs p) (N - j) y)) (fun i _ _ => N - (intOf i).toNat)
            case atStart => exact ⟨0, Nat.zero_le _, rfl, Hbw4, Nat.le_refl _, fun _ _ => rfl, _, _, vecF p ms, rfl, Hvl, Hvp, Hx4, rfl⟩
            case round =>
              obtain ⟨j, hj, rfl, hb5, hsz5, hk5, Ax, cx, y, rfl, hyl, hyp, hys, hit⟩ := hrel
              obtain ⟨wp, rfl⟩ : ∃ wp : World, wp = wr := ⟨_, rfl⟩
              by_cases hlt5 : j < N
              · go_wp2
                go_loopw [16] (fun i wr => ∃ m : Nat, m ≤ p.size ∧ i = .int .i64 m ∧ Hid (Below wp.heap.size wp wr) ∧ wp.heap.size < wr.heap.size ∧ ∃ f : Nat → Int, Hid (Blk wr wp.heap.size 2 (cellsN p.size f)) ∧
                  Hid (∀ i, (i < m → f i = dot y (rowsF rs p) i p.size ∧ f i ≤ 1000000000000000) ∧ (m ≤ i → f i = 0))) (fun i _ => p.size - (intOf i).toNat)
                case atStart => exact ⟨0, Nat.zero_le _, rfl, (Below.refl _ _).alloc (Nat.le_refl _) _, by simp, fun _ => 0, Blk.new _ _ _, fun i => ⟨fun h => absurd h (Nat.not_lt_zero _), fun _ => rfl⟩⟩
                case round =>
                  obtain ⟨m, hm, rfl, hb2', hsz2, f, hblk, hf⟩ := hrel
                  obtain ⟨wm, rfl⟩ : ∃ wm : World, wm = wr := ⟨_, rfl⟩
                  by_cases hlt2 : m < p.size
                  · go_wp2
                    go_loopw [17] (fun i wr => ∃ q : Nat, q ≤ p.size ∧ i = .int .i64 q ∧ Hid (Below wp.heap.size wp wr) ∧ wp.heap.size < wr.heap.size ∧ ∃ f : Nat → Int, Hid (Blk wr wp.heap.size 2 (cellsN p.size f)) ∧
                      Hid (f m = capdot y (rowsF rs p) m q ∧ ∀ i, (i < m → f i = dot y (rowsF rs p) i p.size ∧ f i ≤ 1000000000000000) ∧ (m < i → f i = 0))) (fun i _ => p.size - (intOf i).toNat)
                    case atStart => exact ⟨0, Nat.zero_le _, rfl, hb2', hsz2, f, hblk, (hf.out m).2 (Nat.le_refl _), fun i => ⟨(hf.out i).1, fun h => (hf.out i).2 (Nat.le_of_lt h)⟩⟩
                    case round =>
                      obtain ⟨q, hq, rfl, hb3, hsz3, f3, hblk3, hf3⟩ := hrel
                      by_cases hlt3 : q < p.size
                      · obtain ⟨b2, o2, x, hdx, rfl, _, hcx, _⟩ := (hys.out.keep (w' := wr) fun q hq => hb3.out.block q hq.2).getI (i := q) (by rw [hyl.out]; exact hlt3)
                        obtain ⟨b4, o4, A5, c5, s, hds, rfl, _, hcs, hrs, _⟩ := ((hm4.out.keep (w' := wp) fun q hq => hk5.out q hq.2).keep (w' := wr) fun q hq => hb3.out.block q (Nat.lt_of_lt_of_le hq.2 hsz5)).getSl (i := q) (by rw [Hmm.out]; exact hlt3)
                        have hls : s.length = p.size := by rw [Hml.out _ (mem_of_drop hds.out), Hmm.out]
                        have Hls := Lib.hid hls; clear hls
                        obtain ⟨b6, o6, z, hdy, rfl, _, hcy, _⟩ := hrs.out.getI (i := m) (by rw [Hls.out]; exact hlt2)
                        have hx0 : 0 ≤ x ∧ x ≤ 1000000000000000 := hyp.out _ (mem_of_drop hdx.out)
                        have hy0 : 0 ≤ z ∧ z ≤ 1000000000000000 := Hmp.out _ (mem_of_drop hds.out) _ (mem_of_drop hdy.out)
                        have hcm := (hblk3.out.cell m).trans (cellsN_get f3 hlt2)
                        have hfz := hblk3.out.free m
                        have hi1 : (rowsF rs p).length = p.size := Hmm.out
                        have hi3 : m < s.length := by rw [Hls.out]; exact hlt2
                        have hbd : 0 ≤ f3 m ∧ f3 m ≤ 1000000000000001 := by rw [hf3.out.1]; exact capdot_bd hyp.out Hmp.out m q
                        have hst := capdot_step (x := y) (m := rowsF rs p) hyp.out Hmp.out m q
                        rw [getD_of_drop hdx.out, getD_of_drop hds.out, getD_of_drop hdy.out, ← hf3.out.1] at hst
                        have HB := hblk3.out.set m (.int .i64 (addF (f3 m) x z))
                        have Hst := Lib.hid hst; clear hst
                        have HB := Lib.hid HB
                        have hqq : ∀ wx : World, Calls Try.prog 35 #[.int .i64 (f3 m), .int .i64 x, .int .i64 z] wx fun e w' => e = .returned (.int .i64 (addF (f3 m) x z)) ∧ w' = wx := fun wx =>
                          (add_calls (f3 m) x z wx hbd hx0 hy0).mono fun _ _ h => ⟨h.1, h.2.symm⟩
                        have Hq := Lib.hid hqq; clear hqq
                        generalize addF (f3 m) x z = zz at Hst HB Hq
                        generalize f3 m = f3m at hcm hbd Hq
                        go_wp2
                        go_still_tail 19, (by kernel_rfl)
                        still_call (Hq.out _)
                        repeat still_step
                        refine wpStill_nil ?_
                        change wpList _ _ _ _ _ wr.drew
                        go_wp2
                        go_roundw
                        case rel =>
                          refine ⟨q + 1, by omega, by go_num, (hb3.out.drew).setCell (Nat.le_refl _) _, by simpa [World.setCell] using hsz3, _, by have h7 := HB.out; rw [cellsN_set] at h7; exact h7, by simpa using Hst.out, fun i => ⟨fun hi => ?_, fun hi => ?_⟩⟩
                          · rw [if_neg (by omega)]; exact (hf3.out.2 i).1 hi
                          · rw [if_neg (by omega)]; exact (hf3.out.2 i).2 hi
                        case measure => simp [intOf]; omega
                      · obtain rfl : q = p.size := by omega
                        have hcm := (hblk3.out.cell m).trans (cellsN_get f3 hlt2)
                        have hbd : 0 ≤ f3 m ∧ f3 m ≤ 1000000000000001 := by rw [hf3.out.1]; exact capdot_bd hyp.out Hmp.out m _
                        have hv := hf3.out.1
                        unfold capdot at hv
                        have Hv := Lib.hid hv; clear hv
                        generalize hfm : f3 m = f3m at hcm hbd Hv
                        have Hfm := Lib.hid hfm; clear hfm
                        by_cases hov : 1000000000000000 < f3m
                        · have hpn : prodRow y (rowsF rs p) = none := prodRow_none (i := m) (by rw [Hmm.out]; exact hlt2) (by rw [hyl.out]; have h2 := Hv.out; omega)
                          have hr := GN.out (iter_none hit.out hlt5 hpn)
                          have hbw6 := hb5.out.trans (hb3.out.mono hb5.out.size)
                          have Hr := Lib.hid hr; clear hr
                          have Hbw6 := Lib.hid hbw6; clear hbw6
                          clear hpn
                          go_wp2
                          go_ret2
                          exact counts_err Hr.out Hbw6.out
                        · go_wp2
                          go_roundw
                          case rel =>
                            refine ⟨m + 1, by omega, by go_num, hb3, hsz3, f3, hblk3, fun i => ⟨fun hi => ?_, fun hi => ?_⟩⟩
                            · rcases Nat.lt_succ_iff_lt_or_eq.1 hi with hi' | rfl
                              · exact (hf3.out.2 i).1 hi'
                              · have h2 := Hv.out
                                have h3 := Hfm.out
                                exact ⟨by omega, by omega⟩
                            · exact (hf3.out.2 i).2 hi
                          case measure => simp [intOf]; omega
                  · obtain rfl : m = p.size := by omega
                    have hps : prodRow y (rowsF rs p) = some ((List.range p.size).map f) := by
                      rw [prodRow_some (by intro i hi; rw [Hmm.out] at hi; rw [hyl.out]; have := (hf.out i).1 hi; omega), Hmm.out, hyl.out]
                      congr 1
                      exact List.map_congr_left fun i hi => ((hf.out i).1 (List.mem_range.1 hi)).1.symm
                    have hsx' : SlAt (pI .i64) (fun q => q = wp.heap.size) wm (some ⟨wp.heap.size, 0, none⟩) p.size ((List.range p.size).map f) :=
                      sl_of_blk hblk.out rfl (by unfold maxLen; omega) fun i hi => by
                        have h1 := (hf.out i).1 hi
                        have h2 := dot_nonneg hyp.out Hmp.out i p.size
                        exact fits_i64 (by omega)
                    have hrl : ((List.range p.size).map f).length = p.size := by simp
                    have hrp := prodRow_pos hyp.out Hmp.out hps
                    have hit2 := iter_next hit.out hlt5 hps
                    have hbw6 := hb5.out.trans (hb2'.out.mono hb5.out.size)
                    have hk6 : ∀ q, q < w4.heap.size → wm.heap[q]? = w4.heap[q]? := fun q hq => (hb2'.out.block q (by omega)).trans (hk5.out q hq)
                    have hr7 : SlAt (pI .i64) (fun q => w.heap.size ≤ q ∧ q < wm.heap.size) wm (some ⟨wp.heap.size, 0, none⟩) p.size ((List.range p.size).map f) := hsx'.wide fun q hq => ⟨by rw [hq]; exact hb5.out.size, by rw [hq]; exact hsz2⟩
                    have hz6 : w4.heap.size ≤ wm.heap.size := by omega
                    have Hrl := Lib.hid hrl; clear hrl
                    have Hrp := Lib.hid hrp; clear hrp
                    have Hit2 := Lib.hid hit2; clear hit2
                    have Hbw6 := Lib.hid hbw6; clear hbw6
                    have Hk6 := Lib.hid hk6; clear hk6
                    have Hr7 := Lib.hid hr7; clear hr7
                    clear hps hsx'
                    go_wp2
                    go_roundw
                    case rel => exact ⟨j + 1, by omega, by go_num, Hbw6, hz6, Hk6, _, _, _, rfl, Hrl, Hrp, Hr7, Hit2⟩
                    case measure => simp [intOf]; omega
              · obtain rfl : j = N := by omega
                have hr := GS.out y (by rw [hit.out, Nat.sub_self]; rfl)
                have Hr := Lib.hid hr; clear hr
                go_wp2
                go_ret2
                unfold CountsPost
                rw [Hr.out]
                exact ⟨Ax, cx, by rw [hyl.out]; rfl, hb5.out, hys⟩
    · have e0 : (checkG rs p != 0) = false := by simp [hck]
      have e1 : (checkF ms != 0) = true := by simp [hwc]
      have hr := countsF_b (n := n) hck hwc
      have Hr := Lib.hid hr; clear hr
      have Hck := Lib.hid hck; clear hck
      have Hwc := Lib.hid hwc; clear hwc
      go_enter Try.func18, Try.ntmps18
      go_wp2_with fail
      refine (refGCheck_calls A c rs p w H.out Hs.out hp).mono ?_
      rintro e w1 ⟨rfl, hb1⟩
      have z1 := hb1.size
      have Hb1 := Lib.hid hb1; clear hb1
      go_wp2_with fail
      refine (refCheck_calls B cb ms w1 (H'.out.later Hb1.out)).mono ?_
      rintro e w2 ⟨rfl, hb2⟩
      have Hb2 := Lib.hid (Hb1.out.trans (hb2.mono z1)); clear hb2
      have z2 := Hb2.out.size
      go_wp2_with fail
      refine (refCheck_calls B cb ms w2 (H'.out.later Hb2.out)).mono ?_
      rintro e w3 ⟨rfl, hb3⟩
      have Hb3 := Lib.hid (Hb2.out.trans (hb3.mono z2)); clear hb3
      have z3 := Hb3.out.size
      go_wp2
      go_ret2
      exact counts_err Hr.out Hb3.out
  · have e0 : (checkG rs p != 0) = true := by simp [hck]
    have hr := countsF_a (ms := ms) (n := n) hck
    have Hr := Lib.hid hr; clear hr
    have Hck := Lib.hid hck; clear hck
    go_enter Try.func18, Try.ntmps18
    go_wp2_with fail
    refine (refGCheck_calls A c rs p w H.out Hs.out hp).mono ?_
    rintro e w1 ⟨rfl, hb1⟩
    have z1 := hb1.size
    have Hb1 := Lib.hid hb1; clear hb1
    go_wp2_with fail
    refine (refGCheck_calls A c rs p w1 (H.out.later Hb1.out) Hs.out hp).mono ?_
    rintro e w2 ⟨rfl, hb2⟩
    have Hb2 := Lib.hid (Hb1.out.trans (hb2.mono z1)); clear hb2
    have z2 := Hb2.out.size
    go_wp2
    go_ret2
    exact counts_err Hr.out Hb2.out
end Go.Proofs.Ytdjjhlnhfbcojaa
