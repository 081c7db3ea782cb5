/-
  Layer 10: the walk of the program's Counts.
-/
import Derived.Test.YtflojbohcippnaaNg
namespace Go.Proofs.Ytflojbohcippnaa
open Go.RowKit Go.Sort

def CountsPost (rs : List Rul) (p : ByteArray) (ms : List Mod) (n : Int) (w : World) (e : Ending) (w' : World) : Prop :=
  ∃ A c, e = .returned (.tuple #[.slice A (countsF rs p ms n).1.length c, .int .i64 (countsF rs p ms n).2]) ∧ Below w.heap.size w w' ∧ Hid (SlAt (pI .i64) (fun q => w.heap.size ≤ q ∧ q < w'.heap.size) w' A c (countsF rs p ms n).1)
theorem countsF_a {rs : List Rul} {p : ByteArray} {ms : List Mod} {n : Int} (h : ¬ checkG rs p = 0) : countsF rs p ms n = ([], checkG rs p) := by unfold countsF; rw [if_neg h]
theorem countsF_b {rs : List Rul} {p : ByteArray} {ms : List Mod} {n : Int} (h : checkG rs p = 0) (h1 : ¬ checkF ms = 0) : countsF rs p ms n = ([], checkF ms) := by unfold countsF; rw [if_pos h, if_neg h1]
theorem countsF_c {rs : List Rul} {p : ByteArray} {ms : List Mod} {n : Int} (h : checkG rs p = 0) (h1 : checkF ms = 0) (h2 : ms.all (goodM p) = false) : countsF rs p ms n = ([], 8) := by unfold countsF; rw [if_pos h, if_pos h1, if_neg (by rw [h2]; decide)]
theorem countsF_d {rs : List Rul} {p : ByteArray} {ms : List Mod} {n : Int} (h : checkG rs p = 0) (h1 : checkF ms = 0) (h2 : ms.all (goodM p) = true) (h3 : n < 0 ∨ 60 < n) : countsF rs p ms n = ([], 2) := by unfold countsF; rw [if_pos h, if_pos h1, if_pos h2, if_pos h3]
theorem countsF_e {rs : List Rul} {p : ByteArray} {ms : List Mod} {n : Int} (h : checkG rs p = 0) (h1 : checkF ms = 0) (h2 : ms.all (goodM p) = true) (h3 : ¬ (n < 0 ∨ 60 < n)) :
    (iterF (rowsF rs p) n.toNat (vecF p ms) = none → countsF rs p ms n = ([], 16)) ∧ ∀ x, iterF (rowsF rs p) n.toNat (vecF p ms) = some x → countsF rs p ms n = (x, 0) := by
  unfold countsF; rw [if_pos h, if_pos h1, if_pos h2, if_neg h3]
  exact ⟨fun h => by rw [h], fun x h => by rw [h]⟩
theorem iter_none {m : List (List Int)} {x : List Int} {N j : Nat} {y : List Int} (h : iterF m N x = iterF m (N - j) y) (hj : j < N) (hp : prodRow y m = none) : iterF m N x = none := by
  rw [h, show N - j = (N - (j + 1)) + 1 from by omega]
  show (prodRow y m).bind _ = none
  rw [hp]; rfl
theorem iter_next {m : List (List Int)} {x : List Int} {N j : Nat} {y z : List Int} (h : iterF m N x = iterF m (N - j) y) (hj : j < N) (hp : prodRow y m = some z) : iterF m N x = iterF m (N - (j + 1)) z := by
  rw [h, show N - j = (N - (j + 1)) + 1 from by omega]
  show (prodRow y m).bind _ = _
  rw [hp]; rfl
theorem counts_err {rs : List Rul} {p : ByteArray} {ms : List Mod} {n : Int} {w w' : World} {k : Int} (h : countsF rs p ms n = ([], k)) (hb : Below w.heap.size w w') : CountsPost rs p ms n w (.returned (.tuple #[.slice none 0 0, .int .i64 k])) w' := by
  unfold CountsPost
  rw [h]
  exact ⟨none, 0, rfl, hb, sl_nil⟩
theorem checkF_len {ms : List Mod} (h : checkF ms = 0) : ms.length ≤ 2000 := by
  unfold checkF at h
  by_cases hl : 2000 < ms.length
  · rw [if_pos hl] at h; cases h
  · omega
/-- the tests of a module, as both texts make them -/
theorem goodM_cases {p : ByteArray} (hn : namedF p = true) (m : Mod) : (goodM p m = true ∧ (m.name == 91 || m.name == 93) = true ∧ atF p m.name = -1) ∨
    ((m.name == 91 || m.name == 93) = false ∧ ((goodM p m = false ∧ (atF p m.name < 0 ∨ (¬ atF p m.name < 0 ∧ 0 < m.args.length))) ∨ (goodM p m = true ∧ ¬ 0 < m.args.length ∧ ∃ q : Nat, atF p m.name = (q : Int) ∧ q < p.size))) := by
  unfold goodM
  cases hb : (m.name == 91 || m.name == 93)
  · right
    refine ⟨rfl, ?_⟩
    rw [Bool.false_or]
    rcases atF_cases p m.name with ⟨ha, _⟩ | ⟨q, ha, hq, _⟩
    · left; exact ⟨by rw [ha]; rfl, .inl (by omega)⟩
    · by_cases hl : 0 < m.args.length
      · left
        refine ⟨?_, .inr ⟨by omega, hl⟩⟩
        rw [show (m.args.length == 0) = false from by rw [beq_eq_false_iff_ne]; omega, Bool.and_false]
      · right
        refine ⟨?_, hl, q, ha, hq⟩
        rw [show (m.args.length == 0) = true from by rw [beq_iff_eq]; omega, decide_eq_true (by omega)]; rfl
  · left; exact ⟨by simp, rfl, atF_bracket hn (by simpa using hb)⟩
theorem vecFn_take {p : ByteArray} {ms : List Mod} {m : Nat} {x : Mod} (h : ms.drop m = x :: ms.drop (m + 1)) (i : Nat) : vecFn p (ms.take (m + 1)) i = vecFn p (ms.take m) i + (if atF p x.name = (i : Int) then 1 else 0) := by
  rw [take_of_drop h, vecFn_append]; simp [vecFn]
theorem sl_old {α : Type} {E : Rp α} {F : Nat → Prop} {w : World} {A : Option Addr} {c : Nat} {xs : List α} (h : SlAt E F w A c xs) (hF : ∀ q, F q → q < w.heap.size) : SlAt E (Old w) w A c xs := h.wide hF

set_option maxRecDepth 100000 in
set_option maxHeartbeats 4000000 in
theorem gCounts_calls (A : Option Addr) (c : Nat) (rs : List Rul) (p : ByteArray) (B : Option Addr) (cb : Nat) (ms : List Mod) (n : Int) (w : World) (h : SlAt pRul (Old w) w A c rs) (hs : Small rs) (hp : p.size ≤ 100) (h' : SlAt pMod (Old w) w B cb ms) (hn : Fits .i64 n) :
    Calls Try.prog 7 #[.slice A rs.length c, .string p, .slice B ms.length cb, .int .i64 n] w (CountsPost rs p ms n w) := by
  have hmx := h.lenle
  have hmy := h'.lenle
  have hn' := hn.i64
  have H := Lib.hid h; clear h
  have Hs := Lib.hid hs; clear hs
  have H' := Lib.hid h'; clear h'
  by_cases hck : checkG rs p = 0
  · by_cases hwc : checkF ms = 0
    · have e0 : (checkG rs p != 0) = false := by simp [hck]
      have e1 : (checkF ms != 0) = false := by simp [hwc]
      obtain ⟨hc0, hp12, hnm, hpl⟩ := checkG_zero hck
      have hl2 := checkF_len hwc
      have hbad := countsF_c (n := n) hck hwc
      have harg := countsF_d (n := n) hck hwc
      have hgo := countsF_e (n := n) hck hwc
      have hmk := fun (wx : World) => run_make_row' (P := Try.prog) 27 2 (.int .i64 0) 8 Try.underlying27 info_int64 rfl .i64 .i64 p.size (by omega) (by omega) wx
      simp only [cellsN_made] at hmk
      have Hck := Lib.hid hck; clear hck
      have Hwc := Lib.hid hwc; clear hwc
      have Hnm := Lib.hid hnm; clear hnm
      have Hbad := Lib.hid hbad; clear hbad
      have Harg := Lib.hid harg; clear harg
      have Hgo := Lib.hid hgo; clear hgo
      clear hc0 hpl
      go_enter Try.func7, Try.ntmps7
      go_wp2_with fail
      refine (gCheck_calls A c rs p w H.out Hs.out hp).mono ?_
      rintro e w1 ⟨rfl, hb1⟩
      have z1 := hb1.size
      have Hb1 := Lib.hid hb1; clear hb1
      go_wp2_with fail
      refine (wordCheck_calls B cb ms w1 (H'.out.later Hb1.out)).mono ?_
      rintro e w2 ⟨rfl, hb2⟩
      have Hb2 := Lib.hid (Hb1.out.trans (hb2.mono z1)); clear hb2
      have z2 := Hb2.out.size
      have Hb3 := Lib.hid (show Below w.heap.size w (w2.alloc (.cells (cellsN p.size fun _ => 0) 2)) from Hb2.out.alloc z2 _)
      have Hbl := Lib.hid (Blk.new w2 2 (cellsN p.size fun _ => 0))
      go_wp2
      clear e0 e1
      go_loopw [34] (fun i wr => ∃ m : Nat, m ≤ ms.length ∧ i = .int .i64 m ∧ Hid (Below w.heap.size w wr) ∧ w2.heap.size < wr.heap.size ∧ ∃ f, Hid (Blk wr w2.heap.size 2 (cellsN p.size f)) ∧ Hid (∀ i, i < p.size → f i = vecFn p (ms.take m) i) ∧ Hid (ms.all (goodM p) = (ms.drop m).all (goodM p))) (fun i _ => ms.length - (intOf i).toNat)
      case atStart => exact ⟨0, Nat.zero_le _, rfl, Hb3, by simp, _, Hbl, fun i _ => rfl, rfl⟩
      case round =>
        obtain ⟨m, hm, rfl, hb, hsz, f, hbl, hf, hall⟩ := hrel
        obtain ⟨wo, rfl⟩ : ∃ wo : World, wo = wr := ⟨_, rfl⟩
        by_cases hlt : m < ms.length
        · obtain ⟨b, o, A1, c1, x, hd, rfl, hob, hc0, hc1, hx8, hxa, hxl⟩ := (H'.out.below hb.out).getMod hlt
          have hob' : b < wo.heap.size := by have : b < w.heap.size := hob; omega
          have hvt := vecFn_take (p := p) hd.out
          have hyes : goodM p x = true → ms.all (goodM p) = (ms.drop (m + 1)).all (goodM p) := fun hy => by rw [hall.out, hd.out, List.all_cons, hy]; rfl
          have hno : goodM p x = false → countsF rs p ms n = ([], 8) := fun hy => Hbad.out (by rw [hall.out, hd.out, List.all_cons, hy]; rfl)
          have hbz : Below w.heap.size w (wo.alloc (.cells #[.int .u8 x.name, .slice A1 x.args.length c1] 41)) := hb.out.alloc (by omega) _
          have hblz := hbl.out.alloc (.cells #[.int .u8 x.name, .slice A1 x.args.length c1] 41)
          have hgc := goodM_cases Hnm.out x
          have Hvt := Lib.hid hvt; clear hvt
          have Hbz := Lib.hid hbz; clear hbz
          have Hblz := Lib.hid hblz; clear hblz
          rcases hgc with ⟨hg, hbr, ha⟩ | ⟨hbr, ⟨hg, ha | ⟨ha, hla⟩⟩ | ⟨hg, hla, q, ha, hq⟩⟩
          · have hn3 : ∀ i, i < p.size → f i = vecFn p (ms.take (m + 1)) i := fun i hi => by rw [Hvt.out, ha, if_neg (by omega), hf.out i hi]; omega
            have hy := hyes hg
            have Hn3 := Lib.hid hn3; clear hn3
            have Hy := Lib.hid hy; clear hy
            clear hyes hno hg
            have h93 : (x.name == 91) = true ∨ ((x.name == 91) = false ∧ (x.name == 93) = true) := by
              cases h9 : (x.name == 91)
              · right; rw [h9] at hbr; exact ⟨rfl, hbr⟩
              · exact .inl rfl
            clear hbr
            rcases h93 with h9 | ⟨h9, h93⟩
            all_goals
              go_wp2_with fail
              refine (ixb_calls _ _ _ hx8).mono ?_
              rintro e w' ⟨rfl, rfl⟩
              rw [ha]
              go_wp2
              go_roundw
              case rel => exact ⟨m + 1, by omega, by go_num, Hbz, by simp; omega, f, Hblz, Hn3, Hy⟩
              case measure => simp [intOf]; omega
          · have hr := hno hg
            have Hr := Lib.hid hr; clear hr
            clear hyes hno hg
            have h9 : (x.name == 91) = false := by cases h : (x.name == 91); rfl; rw [h] at hbr; cases hbr
            have h93 : (x.name == 93) = false := by cases h : (x.name == 93); rfl; rw [h, h9] at hbr; cases hbr
            clear hbr
            go_wp2_with fail
            refine (ixb_calls _ _ _ hx8).mono ?_
            rintro e w' ⟨rfl, rfl⟩
            go_wp2
            go_ret2
            exact counts_err Hr.out Hbz.out
          · have hr := hno hg
            have Hr := Lib.hid hr; clear hr
            clear hyes hno hg
            have h9 : (x.name == 91) = false := by cases h : (x.name == 91); rfl; rw [h] at hbr; cases hbr
            have h93 : (x.name == 93) = false := by cases h : (x.name == 93); rfl; rw [h, h9] at hbr; cases hbr
            clear hbr
            go_wp2_with fail
            refine (ixb_calls _ _ _ hx8).mono ?_
            rintro e w' ⟨rfl, rfl⟩
            go_wp2
            go_ret2
            exact counts_err Hr.out Hbz.out
          · have h9 : (x.name == 91) = false := by cases h : (x.name == 91); rfl; rw [h] at hbr; cases hbr
            have h93 : (x.name == 93) = false := by cases h : (x.name == 93); rfl; rw [h, h9] at hbr; cases hbr
            have hcm2 := (Hblz.out.cell q).trans (cellsN_get f hq)
            have hfz := Hblz.out.free q
            have hbd := vecFn_bd p q (ms.take m)
            have hlen2 : (ms.take m).length ≤ 2000 := by rw [List.length_take]; omega
            have hv := hf.out q hq
            have hset := (hbl.out.set q (.int .i64 (f q + 1))).alloc (.cells #[.int .u8 x.name, .slice A1 x.args.length c1] 41)
            rw [cellsN_set] at hset
            have hbt : Below w.heap.size w ((wo.setCell ⟨w2.heap.size, q, none⟩ (.int .i64 (f q + 1))).alloc (.cells #[.int .u8 x.name, .slice A1 x.args.length c1] 41)) := (hb.out.setCell (by exact z2) _).alloc (by simp [World.setCell]; omega) _
            have hn3 : ∀ i, i < p.size → (if i = q then f q + 1 else f i) = vecFn p (ms.take (m + 1)) i := fun i hi => by
              rw [Hvt.out, ha]
              by_cases he : i = q
              · subst he; rw [if_pos rfl, if_pos rfl, hv]
              · rw [if_neg he, if_neg (by omega), hf.out i hi]; omega
            have hy := hyes hg
            rw [← hv] at hbd
            have hv2 : f q + 1 ≤ 2001 := by omega
            have hv0 : 0 ≤ f q := hbd.1
            clear hv hbd hlen2 hyes hno hg hbr
            have Hset := Lib.hid hset; clear hset
            have Hn3 := Lib.hid hn3; clear hn3
            have Hbt := Lib.hid hbt; clear hbt
            have Hy := Lib.hid hy; clear hy
            generalize hvq : f q = v at hcm2 hv0 hv2 Hbt Hset
            rw [hvq] at Hn3
            have Hvq := Lib.hid hvq; clear hvq
            go_wp2_with fail
            refine (ixb_calls _ _ _ hx8).mono ?_
            rintro e w' ⟨rfl, rfl⟩
            rw [ha]
            go_wp2
            go_roundw
            case rel => exact ⟨m + 1, by omega, by go_num, Hbt, by simp [World.setCell]; omega, _, Hset, Hn3, Hy⟩
            case measure => simp [intOf]; omega
        · have hgood : ms.all (goodM p) = true := by rw [hall.out, drop_end hlt]; rfl
          have hsx : SlAt (pI .i64) (fun q => q = w2.heap.size) wo (some ⟨w2.heap.size, 0, none⟩) p.size (vecF p ms) := by
            have hf2 : ∀ i, i < p.size → f i = vecFn p ms i := fun i hi => by rw [hf.out i hi, List.take_of_length_le (by omega)]
            have := sl_of_blk (F := fun q => q = w2.heap.size) hbl.out rfl (by unfold maxLen; omega) fun i hi => by
              have h1 := vecFn_bd p i ms
              rw [hf2 i hi]
              exact fits_i64 (by omega)
            rwa [List.map_congr_left fun i hi => hf2 i (List.mem_range.1 hi)] at this
          clear hall hf hbl
          by_cases hnr : n < 0 ∨ 60 < n
          · have hr := Harg.out hgood hnr
            have Hr := Lib.hid hr; clear hr
            rcases hnr with h1 | h1
            · go_wp2
              go_ret2
              exact counts_err Hr.out hb.out
            · have h0 : ¬ n < 0 := by omega
              go_wp2
              go_ret2
              exact counts_err Hr.out hb.out
          · obtain ⟨gN, gS⟩ := Hgo.out hgood hnr
            obtain ⟨N, rfl⟩ := Int.eq_ofNat_of_zero_le (show 0 ≤ n by omega)
            have hN : N ≤ 60 := by omega
            rw [Int.toNat_natCast] at gN gS
            have hN0 : ¬ (N : Int) < 0 := by omega
            have GN := Lib.hid gN; clear gN
            have GS := Lib.hid gS; clear gS
            have Hsx := Lib.hid hsx; clear hsx
            have Hgood := Lib.hid hgood; clear hgood
            clear hnr hn hn'
            have hrc := rows_calls A c rs p wo (H.out.later hb.out) Hs.out hp12
            have Hrc := Lib.hid hrc; clear hrc
            go_wp2_with fail
            refine Hrc.out.mono ?_
            rintro e w4 ⟨Am, cm, rfl, hb4, hm4⟩
            have hz4 := hb4.size
            have hbw4 : Below w.heap.size w w4 := hb.out.trans (hb4.mono (by omega))
            have hx4 : SlAt (pI .i64) (fun q => w.heap.size ≤ q ∧ q < w4.heap.size) w4 (some ⟨w2.heap.size, 0, none⟩) p.size (vecF p ms) := (Hsx.out.keep fun q hq => hb4.block q (by rw [hq]; exact hsz)).wide fun q hq => by rw [hq]; exact ⟨z2, by omega⟩
            have hvl : (vecF p ms).length = p.size := by unfold vecF; simp
            have hvp : Pos (vecF p ms) := vecF_pos (by omega)
            have hmp := rowsF_pos (rs := rs) p Hs.out.o
            have hml := rowsF_rows (rs := rs) (p := p)
            have hmm := rowsF_length rs p
            have Hbw4 := Lib.hid hbw4; clear hbw4
            have Hx4 := Lib.hid hx4; clear hx4
            have Hvl := Lib.hid hvl; clear hvl
            have Hvp := Lib.hid hvp; clear hvp
            have Hmp := Lib.hid hmp; clear hmp
            have Hml := Lib.hid hml; clear hml
            have Hmm := Lib.hid hmm; clear hmm
            clear hb4
            go_wp2
            go_loopw [77, 12] (fun i x wr => ∃ j : Nat, j ≤ N ∧ i = .int .i64 j ∧ Hid (Below w.heap.size w wr) ∧ w4.heap.size ≤ wr.heap.size ∧ Hid (∀ q, q < w4.heap.size → wr.heap[q]? = w4.heap[q]?) ∧ ∃ Ax cx y, x = .slice Ax p.size cx ∧ Hid (y.length = p.size) ∧ Hid (Pos y) ∧ Hid (SlAt (pI .i64) (fun q => w.heap.size ≤ q ∧ q < wr.heap.size) wr Ax cx y) ∧ Hid (iterF (rowsF rs p) N (vecF p ms) = iterF (rowsF rs p) (N - j) y)) (fun i _ _ => N - (intOf i).toNat)
            case atStart => exact ⟨0, Nat.zero_le _, rfl, Hbw4, Nat.le_refl _, fun _ _ => rfl, _, _, vecF p ms, rfl, Hvl, Hvp, Hx4, rfl⟩
            case round =>
              obtain ⟨j, hj, rfl, hb5, hsz5, hk5, Ax, cx, y, rfl, hyl, hyp, hys, hit⟩ := hrel
              obtain ⟨wp, rfl⟩ : ∃ wp : World, wp = wr := ⟨_, rfl⟩
              by_cases hlt5 : j < N
              · have hcall := through_calls Ax Am cx cm y (rowsF rs p) wp (hys.out.wide fun q hq => hq.2) ((hm4.out.keep fun q hq => hk5.out q hq.2).wide fun q hq => Nat.lt_of_lt_of_le hq.2 hsz5) (by rw [Hmm.out]; exact hp12) (by rw [Hmm.out]; exact hyl.out) hyp.out Hmp.out Hml.out
                rw [hyl.out, Hmm.out] at hcall
                have Hcall := Lib.hid hcall; clear hcall
                go_wp2_with fail
                refine Hcall.out.mono ?_
                rintro e w6 ⟨hb6, ⟨hpn, rfl⟩ | ⟨r, A6, c6, hps, rfl, hr6⟩⟩
                · have hr := GN.out (iter_none hit.out hlt5 hpn)
                  have hbw6 := hb5.out.trans (hb6.mono hb5.out.size)
                  have Hr := Lib.hid hr; clear hr
                  have Hbw6 := Lib.hid hbw6; clear hbw6
                  clear hb6 hpn
                  go_wp2
                  go_ret2
                  exact counts_err Hr.out Hbw6.out
                · have hrl : r.length = p.size := by rw [prodRow_length hps, Hmm.out]
                  have hrp := prodRow_pos hyp.out Hmp.out hps
                  have hit2 := iter_next hit.out hlt5 hps
                  have hbw6 := hb5.out.trans (hb6.mono hb5.out.size)
                  have hk6 : ∀ q, q < w4.heap.size → w6.heap[q]? = w4.heap[q]? := fun q hq => (hb6.block q (by omega)).trans (hk5.out q hq)
                  have hr7 : SlAt (pI .i64) (fun q => w.heap.size ≤ q ∧ q < w6.heap.size) w6 A6 c6 r := hr6.wide fun q hq => ⟨Nat.le_trans hb5.out.size hq.1, hq.2⟩
                  have hz6 := hb6.size
                  rw [hrl]
                  have Hrl := Lib.hid hrl; clear hrl
                  have Hrp := Lib.hid hrp; clear hrp
                  have Hit2 := Lib.hid hit2; clear hit2
                  have Hbw6 := Lib.hid hbw6; clear hbw6
                  have Hk6 := Lib.hid hk6; clear hk6
                  have Hr7 := Lib.hid hr7; clear hr7
                  clear hb6 hps hr6
                  go_wp2
                  go_roundw
                  case rel => exact ⟨j + 1, by omega, by go_num, Hbw6, by omega, Hk6, A6, c6, r, rfl, Hrl, Hrp, Hr7, Hit2⟩
                  case measure => simp [intOf]; omega
              · obtain rfl : j = N := by omega
                have hr := GS.out y (by rw [hit.out, Nat.sub_self]; rfl)
                have Hr := Lib.hid hr; clear hr
                go_wp2
                go_ret2
                unfold CountsPost
                rw [Hr.out]
                exact ⟨Ax, cx, by rw [hyl.out]; rfl, hb5.out, hys⟩
    · have e0 : (checkG rs p != 0) = false := by simp [hck]
      have e1 : (checkF ms != 0) = true := by simp [hwc]
      have hr := countsF_b (n := n) hck hwc
      have Hr := Lib.hid hr; clear hr
      have Hck := Lib.hid hck; clear hck
      have Hwc := Lib.hid hwc; clear hwc
      go_enter Try.func7, Try.ntmps7
      go_wp2_with fail
      refine (gCheck_calls A c rs p w H.out Hs.out hp).mono ?_
      rintro e w1 ⟨rfl, hb1⟩
      have z1 := hb1.size
      have Hb1 := Lib.hid hb1; clear hb1
      go_wp2_with fail
      refine (wordCheck_calls B cb ms w1 (H'.out.later Hb1.out)).mono ?_
      rintro e w2 ⟨rfl, hb2⟩
      have Hb2 := Lib.hid (Hb1.out.trans (hb2.mono z1)); clear hb2
      have z2 := Hb2.out.size
      go_wp2
      go_ret2
      exact counts_err Hr.out Hb2.out
  · have e0 : (checkG rs p != 0) = true := by simp [hck]
    have hr := countsF_a (ms := ms) (n := n) hck
    have Hr := Lib.hid hr; clear hr
    have Hck := Lib.hid hck; clear hck
    go_enter Try.func7, Try.ntmps7
    go_wp2_with fail
    refine (gCheck_calls A c rs p w H.out Hs.out hp).mono ?_
    rintro e w1 ⟨rfl, hb1⟩
    have z1 := hb1.size
    have Hb1 := Lib.hid hb1; clear hb1
    go_wp2
    go_ret2
    exact counts_err Hr.out Hb1.out
end Go.Proofs.Ytflojbohcippnaa
