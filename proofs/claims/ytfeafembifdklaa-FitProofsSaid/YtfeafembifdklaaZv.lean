/-
  Layer 43: the walk of the search for a certificate: the box is split.
-/
import Derived.Test.YtfeafembifdklaaZr
import Derived.Deep.DeepCutAuto
import Derived.StillTailTactics
namespace Go.Proofs.Ytfeafembifdklaa
open Go.RowKit Go.Sort


def RowPost (xs : List Int) (w1 W : World) (e : Ending) (W' : World) : Prop :=
  ∃ g c, e = .returned (.slice (some ⟨g, 0, none⟩) xs.length c) ∧ Below w1.heap.size w1 W' ∧ Below W.heap.size W W' ∧ W.heap.size ≤ g ∧ g < W'.heap.size ∧ xs.length ≤ c ∧ c ≤ maxLen ∧ RowAt W' g 3 xs
theorem copy_row {w1 W : World} {B3 : Option Addr} {d3 : Nat} {xs : List Int} (hs : SlAt (pI .i64) (Old w1) w1 B3 d3 xs) (hne : xs ≠ []) (h4 : xs.length ≤ 4) (hW : Below w1.heap.size w1 W) : Calls Try.prog 17 #[.slice B3 xs.length d3] W (RowPost xs w1 W) :=
  (clone_calls B3 d3 xs W (hs.later hW) hne (by omega)).mono fun e W' ⟨A, c, he, ho, hb⟩ => by
    obtain ⟨g, rfl, h1, _, h2, h3, h4⟩ := ho.row hne
    exact ⟨g, c, he, hW.trans (hb.mono hW.size), hb, h1, h4.1.lt, h2, h3, h4.1⟩
theorem lt_alloc (w : World) (o : Obj) : w.heap.size < (w.alloc o).heap.size := by simp
/-- a new box and a new row -/
structure BoxR (wp W : World) (g gr : Nat) (cs : Array Value) (xs : List Int) : Prop where
  bel : Below wp.heap.size wp W
  bm : Blk W g 40 cs
  row : RowAt W gr 3 xs
  gt : wp.heap.size ≤ g ∧ g < W.heap.size ∧ wp.heap.size ≤ gr ∧ gr < W.heap.size ∧ g ≠ gr
theorem box_after {wp wv : World} {gr : Nat} {xs : List Int} (cs : Array Value) (hb : Below wp.heap.size wp wv) (hg1 : wp.heap.size ≤ gr) (hrow : RowAt wv gr 3 xs) : BoxR wp (wv.alloc (.cells cs 40)) wv.heap.size gr cs xs := by
  have h1 := hrow.lt
  have h2 := hb.size
  have h3 := lt_alloc wv (.cells cs 40)
  exact ⟨hb.alloc hb.size _, Blk.new _ _ _, hrow.same (Below.heap_alloc _ _ _ h1), by omega⟩
theorem box_ahead {wp wv : World} {gr : Nat} {xs : List Int} {z0 z1 : Value} (u0 u1 : Value) (hb : Below wp.heap.size wp wv) (hblk : Blk wv wp.heap.size 40 #[z0, z1]) (hg1 : wp.heap.size < gr) (hrow : RowAt wv gr 3 xs) :
    BoxR wp ((wv.setCell ⟨wp.heap.size, 0, none⟩ u0).setCell ⟨wp.heap.size, 1, none⟩ u1) wp.heap.size gr #[u0, u1] xs := by
  have h1 := hrow.lt
  have h2 := hb.size
  have h3 : ((wv.setCell ⟨wp.heap.size, 0, none⟩ u0).setCell ⟨wp.heap.size, 1, none⟩ u1).heap.size = wv.heap.size := by simp [World.setCell]
  refine ⟨(hb.setCell (Nat.le_refl _) _).setCell (Nat.le_refl _) _, ?_, hrow.same ((Below.heap_setCell _ _ _ _ (by show gr ≠ wp.heap.size; omega)).trans (Below.heap_setCell _ _ _ _ (by show gr ≠ wp.heap.size; omega))), by omega⟩
  have := (hblk.set 0 u0).set 1 u1
  simpa using this
def BoxHi (wp : World) (lo hi : List Int) (B1 : Option Addr) (d1 : Nat) (s8 : Value) (W : World) : Prop :=
  ∃ g gr d3 : Nat, s8 = .pointer (some ⟨g, 0, none⟩) ∧ hi.length ≤ d3 ∧ d3 ≤ maxLen ∧ BoxR wp W g gr #[.slice B1 lo.length d1, .slice (some ⟨gr, 0, none⟩) hi.length d3] hi
def BoxLo (wp : World) (lo hi : List Int) (B2 : Option Addr) (d2 : Nat) (s9 : Value) (W : World) : Prop :=
  ∃ g gr d3 : Nat, s9 = .pointer (some ⟨g, 0, none⟩) ∧ lo.length ≤ d3 ∧ d3 ≤ maxLen ∧ BoxR wp W g gr #[.slice (some ⟨gr, 0, none⟩) lo.length d3, .slice B2 hi.length d2] lo
theorem lookF_len (f : Fit) (least : Int) : ∀ (N : Nat) (lo hi : List Int) (out : List Cub), out.length ≤ 2001 → (lookF f least N lo hi out).length ≤ 2001
  | 0, _, _, _, h => h
  | N + 1, lo, hi, out, h => by
    unfold lookF
    split
    · exact h
    · split
      · simp; omega
      · exact lookF_len f least N _ _ _ (lookF_len f least N _ _ _ h)
set_option maxRecDepth 100000 in
set_option maxHeartbeats 8000000 in
theorem look_split (f : Fit) (least : Int) (B po pf pl pk : Nat) (A1 : Option Addr) (c1 : Nat) (A2 : Option Addr) (c2 : Nat) (A3 : Option Addr) (c3 : Nat) (A4 : Option Addr) (c4 : Nat) (N : Nat) (lo hi : List Int) (B1 : Option Addr) (d1 : Nat) (B2 : Option Addr) (d2 : Nat) (w : World) (A : Option Addr) (n c : Nat) (out : List Cub)
    (hat : LookAt f least B po pf pl pk (.func (.func 15) #[] #[.pointer (some ⟨po, 0, none⟩), .pointer (some ⟨pf, 0, none⟩), .pointer (some ⟨pl, 0, none⟩), .pointer (some ⟨pk, 0, none⟩)]) A1 c1 A2 c2 A3 c3 A4 c4 w A n c out) (hl : SlAt (pI .i64) (Side po (.slice A n c) w) w B1 d1 lo) (hh : SlAt (pI .i64) (Side po (.slice A n c) w) w B2 d2 hi) (hok : CubOk f lo hi) (hmin : ∀ y, InBox lo hi y → least ≤ costF f y)
    (hnb : ¬ 2000 < out.length) (hnl : ¬ least ≤ boundF f.terms f.goals lo hi) (hN : span lo hi < N + 1)
    (ih : ∀ (lo hi : List Int) (B1 : Option Addr) (d1 : Nat) (B2 : Option Addr) (d2 : Nat) (w : World) (A : Option Addr) (n c : Nat) (out : List Cub),
      LookAt f least B po pf pl pk (.func (.func 15) #[] #[.pointer (some ⟨po, 0, none⟩), .pointer (some ⟨pf, 0, none⟩), .pointer (some ⟨pl, 0, none⟩), .pointer (some ⟨pk, 0, none⟩)]) A1 c1 A2 c2 A3 c3 A4 c4 w A n c out → SlAt (pI .i64) (Side po (.slice A n c) w) w B1 d1 lo → SlAt (pI .i64) (Side po (.slice A n c) w) w B2 d2 hi → CubOk f lo hi → (∀ y, InBox lo hi y → least ≤ costF f y) → span lo hi < N → out.length ≤ 2001 →
      Calls Try.prog 15 #[.agg #[.slice B1 lo.length d1, .slice B2 hi.length d2], .pointer (some ⟨po, 0, none⟩), .pointer (some ⟨pf, 0, none⟩), .pointer (some ⟨pl, 0, none⟩), .pointer (some ⟨pk, 0, none⟩)] w (LookPost f least B po pf pl pk (.func (.func 15) #[] #[.pointer (some ⟨po, 0, none⟩), .pointer (some ⟨pf, 0, none⟩), .pointer (some ⟨pl, 0, none⟩), .pointer (some ⟨pk, 0, none⟩)]) A1 c1 A2 c2 A3 c3 A4 c4 w (.slice A n c) (lookF f least N lo hi out))) :
    Calls Try.prog 15 #[.agg #[.slice B1 lo.length d1, .slice B2 hi.length d2], .pointer (some ⟨po, 0, none⟩), .pointer (some ⟨pf, 0, none⟩), .pointer (some ⟨pl, 0, none⟩), .pointer (some ⟨pk, 0, none⟩)] w (LookPost f least B po pf pl pk (.func (.func 15) #[] #[.pointer (some ⟨po, 0, none⟩), .pointer (some ⟨pf, 0, none⟩), .pointer (some ⟨pl, 0, none⟩), .pointer (some ⟨pk, 0, none⟩)]) A1 c1 A2 c2 A3 c3 A4 c4 w (.slice A n c) (lookF f least (N + 1) lo hi out)) := by
  have hr : lookF f least (N + 1) lo hi out = lookF f least N (lo.set (widest lo hi) (midF lo hi (widest lo hi) + 1)) hi (lookF f least N lo (hi.set (widest lo hi) (midF lo hi (widest lo hi))) out) := by
    rw [lookF, if_neg hnb, if_neg hnl]
  obtain ⟨a, b, hsp⟩ := split_of hok hmin hnl
  have hhl : hi.length = lo.length := hok.h.trans hok.l.symm
  have h0l : 0 < lo.length := by rw [hok.l]; exact (valid_parts hok.v).1
  obtain ⟨kw, hkw⟩ : ∃ kw, widest lo hi = kw := ⟨_, rfl⟩
  obtain ⟨mw, hmw⟩ : ∃ mw, midF lo hi (widest lo hi) = mw := ⟨_, rfl⟩
  rw [hmw] at hr hsp
  rw [hkw] at hr hsp
  have hbig : ¬ 2000 < n := by have := hat.own.sl'.1; omega
  have hlen : out.length = n := hat.own.sl'.1
  have m1 := hl.lenle
  have m2 := hh.lenle
  obtain ⟨W0, hW0⟩ : ∃ W0, W0 = w.alloc (.cells #[.slice B1 lo.length d1, .slice B2 hi.length d2] 40) := ⟨_, rfl⟩
  have hb0 : Below w.heap.size w W0 := by rw [hW0]; exact (Below.refl _ _).alloc (Nat.le_refl _) _
  have hz0 : w.heap.size + 1 ≤ W0.heap.size := by rw [hW0]; simp
  have hl0 : w.heap.size < W0.heap.size := by omega
  have hbl0 : Blk W0 w.heap.size 40 #[.slice B1 lo.length d1, .slice B2 hi.length d2] := by rw [hW0]; exact Blk.new _ _ _
  have hat0 := hat.below hb0
  have hk0 := LookKept.below (po := po) (v := .slice A n c) hat.sz hb0
  have hlo0 := side_sl hl hk0
  have hhi0 := side_sl hh hk0
  have hcells : ∀ W : World, Below W0.heap.size W0 W → W.cell? ⟨w.heap.size, 0, none⟩ = some (.slice B1 lo.length d1) ∧ W.cell? ⟨w.heap.size, 1, none⟩ = some (.slice B2 hi.length d2) ∧ W.cell? ⟨po, 0, none⟩ = some (.slice A n c) ∧ W.cell? ⟨pl, 0, none⟩ = some (.int .i64 least) ∧ W.cell? ⟨pk, 0, none⟩ = some (.func (.func 15) #[] #[.pointer (some ⟨po, 0, none⟩), .pointer (some ⟨pf, 0, none⟩), .pointer (some ⟨pl, 0, none⟩), .pointer (some ⟨pk, 0, none⟩)]) ∧
      W.cell? ⟨pf, 0, none⟩ = some (.slice A1 f.lo.length c1) ∧ W.cell? ⟨pf, 1, none⟩ = some (.slice A2 f.hi.length c2) ∧ W.cell? ⟨pf, 2, none⟩ = some (.slice A3 f.terms.length c3) ∧ W.cell? ⟨pf, 3, none⟩ = some (.slice A4 f.goals.length c4) := fun W hW => by
    have h1 := (hbl0.same (hW.block _ (by omega))).two
    have h2 := hat0.below hW
    exact ⟨h1.1, h1.2, h2.bo.cell 0, h2.bl.cell 0, h2.bk.cell 0, h2.bf.four⟩
  have hlt := hat.lt
  have Hr := Lib.hid hr; clear hr
  have Hkw := Lib.hid hkw; clear hkw
  have Hsp := Lib.hid hsp; clear hsp
  have Ih := Lib.hid ih; clear ih
  have Hhl := Lib.hid hhl; clear hhl
  have HN := Lib.hid hN; clear hN
  have Hnb := Lib.hid hnb; clear hnb
  have Hat := Lib.hid hat; clear hat
  have Hat0 := Lib.hid hat0; clear hat0
  have Hk0 := Lib.hid hk0; clear hk0
  have Hlo0 := Lib.hid hlo0; clear hlo0
  have Hhi0 := Lib.hid hhi0; clear hhi0
  have Hcells := Lib.hid hcells; clear hcells
  have Hb0 := Lib.hid hb0; clear hb0
  have Hbl0 := Lib.hid hbl0; clear hbl0
  have HW0 := Lib.hid hW0; clear hW0
  have Hok := Lib.hid hok; clear hok
  have Hmin := Lib.hid hmin; clear hmin
  clear hl hh
  have hlc : ∀ (q : Nat) (os : Array Obj), Calls Try.prog 16 #[.agg #[.slice A1 f.lo.length c1, .slice A2 f.hi.length c2, .slice A3 f.terms.length c3, .slice A4 f.goals.length c4], .agg #[.slice B1 lo.length d1, .slice B2 hi.length d2]] (grow (redrawn W0 q) os) fun e w'' => e = .returned (.int .i64 (boundF f.terms f.goals lo hi)) ∧ ∃ p : Regrown, w'' = grow (redrawn W0 p.d) p.os := fun q os =>
    have hg := below_regrown W0 q os
    Calls.regrown_of (lower_calls f A1 c1 A2 c2 A3 c3 A4 c4 lo hi B1 d1 B2 d2 _ (Hat0.out.fit.old.later hg) ((side_old Hlo0.out).later hg) ((side_old Hhi0.out).later hg) Hok.out)
  obtain ⟨bv, hbv⟩ : ∃ bv, boundF f.terms f.goals lo hi = bv := ⟨_, rfl⟩
  rw [hbv] at hlc
  have Hlc := Lib.hid hlc; clear hlc
  have Hbv := Lib.hid hbv; clear hbv
  have Hlen := Lib.hid hlen; clear hlen
  go_enter Try.func15, Try.ntmps15
  have y2' := Hat.out.bo.cell 0
  go_wp2
  rw [← HW0.out]
  clear y2'
  obtain ⟨y0, y1, y2, y3, y4, y5, y6, y7, y8⟩ := Hcells.out W0 (Below.refl _ _)
  have k0 := cell_regrown y0
  have k1 := cell_regrown y1
  have k3 := cell_regrown y3
  have k5 := cell_regrown y5
  have k6 := cell_regrown y6
  have k7 := cell_regrown y7
  have k8 := cell_regrown y8
  clear y0 y1 y2 y3 y4 y5 y6 y7 y8
  refine wp_region_quiet_below (by kernel_rfl) (by kernel_rfl) ?_
  repeat (quiet_step (exact Hlc.out _ _))
  refine wpQuiet_nil ?_
  intro _ hw'
  obtain ⟨⟨dq, osq⟩, hw''⟩ := hw'
  subst hw''
  have hbr := below_regrown W0 dq osq
  generalize grow (redrawn W0 dq) osq = w1 at hbr ⊢
  have hz1 := hbr.size
  have Hbr := Lib.hid hbr; clear hbr
  clear k0 k1 k3 k5 k6 k7 k8
  have hge : ¬ least ≤ bv := by rw [← Hbv.out]; exact Int.not_le.2 hnl
  clear hnl
  have hat1 := Hat0.out.below Hbr.out
  have hl1 := (side_old Hlo0.out).later Hbr.out
  have hh1 := (side_old Hhi0.out).later Hbr.out
  have hcw : ∀ W, Below w1.heap.size w1 W → W.cell? ⟨w.heap.size, 0, none⟩ = some (.slice B1 lo.length d1) ∧ W.cell? ⟨w.heap.size, 1, none⟩ = some (.slice B2 hi.length d2) := fun W hW => by
    have h1 := Hcells.out W (Hbr.out.trans (hW.mono hz1))
    exact ⟨h1.1, h1.2.1⟩
  obtain ⟨y0, y1⟩ := hcw w1 (Below.refl _ _)
  obtain ⟨_, _, _, y3, _, _, _, _, _⟩ := Hcells.out w1 Hbr.out
  have Hat1 := Lib.hid hat1; clear hat1
  have Hl1 := Lib.hid hl1; clear hl1
  have Hh1 := Lib.hid hh1; clear hh1
  have Hcw := Lib.hid hcw; clear hcw
  go_wp2
  clear y0 y1 y3
  go_loopw [6, 31] (fun kk i wr => ∃ (k j : Nat), k < lo.length ∧ j ≤ lo.length ∧ kk = .int .i64 k ∧ i = .int .i64 j ∧ Hid (wideGo k (wid lo hi k) j (lo.drop j) (hi.drop j) = kw) ∧ Hid (∃ n, wr = w1.drewN n)) (fun _ i _ => lo.length - (intOf i).toNat)
  case atStart => exact ⟨0, 0, h0l, Nat.zero_le _, rfl, rfl, Hkw.out, 0, rfl⟩
  case round =>
    obtain ⟨k, j, hk, hj, rfl, rfl, hin, hdr⟩ := hrel
    obtain ⟨wo, rfl⟩ : ∃ wo : World, wo = wr := ⟨_, rfl⟩
    have hb : Below w1.heap.size w1 wo := by obtain ⟨n, rfl⟩ := hdr.out; exact below_drewN (Below.refl _ _) n
    obtain ⟨y0, y1⟩ := Hcw.out wo hb
    by_cases hlt : j < lo.length
    · have hjh : j < hi.length := by rw [Hhl.out]; exact hlt
      have hkh : k < hi.length := by rw [Hhl.out]; exact hk
      obtain ⟨b1, o1, x1, hd1, e1, _, hc1, hf1⟩ := (Hl1.out.below hb).getI hlt
      obtain ⟨b2, o2, x2, hd2, e2, _, hc2, hf2⟩ := (Hh1.out.below hb).getI hjh
      obtain ⟨b3, o3, x3, hd3, e3, _, hc3, hf3⟩ := (Hl1.out.below hb).getI hk
      obtain ⟨b4, o4, x4, hd4, e4, _, hc4, hf4⟩ := (Hh1.out.below hb).getI hkh
      subst e1 e2
      injection e3 with e3
      injection e3 with e3 e3' _
      subst e3 e3'
      injection e4 with e4
      injection e4 with e4 e4' _
      subst e4 e4'
      have g1 := okB_iff.1 (allB_get Hok.out.b j x1 x2 (get_of_drop hd1.out) (get_of_drop hd2.out))
      have g2 := okB_iff.1 (allB_get Hok.out.b k x3 x4 (get_of_drop hd3.out) (get_of_drop hd4.out))
      have hwk : wid lo hi k = x4 - x3 := by unfold wid; rw [getD_drop hd3.out, getD_drop hd4.out]
      have hwj : wid lo hi j = x2 - x1 := by unfold wid; rw [getD_drop hd1.out, getD_drop hd2.out]
      have hst := hin.out
      rw [wideGo_step hd1.out hd2.out] at hst
      have e5 : IntKind.i64.wrap (x2 - x1) = x2 - x1 := IntWalk.i64_in _ (by omega)
      have e6 : IntKind.i64.wrap (x4 - x3) = x4 - x3 := IntWalk.i64_in _ (by omega)
      have hj0 : (0 : Int) ≤ (j : Int) := Int.natCast_nonneg _
      have hk0 : (0 : Int) ≤ (k : Int) := Int.natCast_nonneg _
      have hj1 : (j : Int) < (lo.length : Int) := by omega
      have hj2 : (j : Int) < (hi.length : Int) := by omega
      have hk1 : (k : Int) < (lo.length : Int) := by omega
      have hk2 : (k : Int) < (hi.length : Int) := by omega
      clear hd1 hd2 hd3 hd4
      have Hst := Lib.hid hst; clear hst
      have Hwk := Lib.hid hwk; clear hwk
      have Hwj := Lib.hid hwj; clear hwj
      by_cases hgt : x4 - x3 < x2 - x1
      · go_wp2
        go_quiet (fail)
        go_wp2
        go_roundw
        case rel =>
          refine ⟨j, j + 1, hlt, by omega, rfl, by go_num, ?_, ?_⟩
          · have := Hst.out
            rw [Hwk.out, if_pos hgt] at this
            unfold Hid; rw [Hwj.out]; exact this
          · obtain ⟨n, hn⟩ := hdr.out
            exact ⟨_, by rw [hn]; exact World.drewN_drewN _ _ _⟩
        case measure => simp [intOf]; omega
      · go_wp2
        go_quiet (fail)
        go_wp2
        go_roundw
        case rel =>
          refine ⟨k, j + 1, hk, by omega, rfl, by go_num, ?_, ?_⟩
          · have := Hst.out
            rw [Hwk.out, if_neg (Int.not_lt.2 hgt)] at this
            unfold Hid; rw [Hwk.out]; exact this
          · obtain ⟨n, hn⟩ := hdr.out
            exact ⟨_, by rw [hn]; exact World.drewN_drewN _ _ _⟩
        case measure => simp [intOf]; omega
    · have hkk : k = kw := by
        have h1 := hin.out
        rw [List.drop_eq_nil_of_le (by omega : lo.length ≤ j)] at h1
        exact h1
      subst hkk
      clear hin hdr hj
      have hlo4 : lo.length ≤ 4 := by rw [Hok.out.l]; exact (valid_parts Hok.out.v).2.1
      have hlne : lo ≠ [] := by intro e; rw [e] at hk; simp at hk
      have hhne : hi ≠ [] := by intro e; have h1 := Hhl.out; rw [e] at h1; simp at h1; omega
      have hchi : ∀ W, Below wo.heap.size wo W → Calls Try.prog 17 #[.slice B2 hi.length d2] W (RowPost hi wo W) := fun W hW =>
        copy_row ((Hh1.out.below hb).wide fun q hq => Nat.lt_of_lt_of_le hq hb.size) hhne (by have := Hhl.out; omega) hW
      have hclo : ∀ W, Below wo.heap.size wo W → Calls Try.prog 17 #[.slice B1 lo.length d1] W (RowPost lo wo W) := fun W hW =>
        copy_row ((Hl1.out.below hb).wide fun q hq => Nat.lt_of_lt_of_le hq hb.size) hlne hlo4 hW
      have hwl1 : w.heap.size < wo.heap.size := by have := hb.size; omega
      have sk : ∀ W, Below wo.heap.size wo W → W.cell? ⟨w.heap.size, 0, none⟩ = some (.slice B1 lo.length d1) ∧ W.cell? ⟨w.heap.size, 1, none⟩ = some (.slice B2 hi.length d2) := fun W hW => Hcw.out W (hb.trans (hW.mono hb.size))
      have hwne : wo.heap.size ≠ w.heap.size := by omega
      have hbase : Below wo.heap.size wo wo.drew := below_drew (Below.refl _ _)
      have hbaseA : ∀ o, Below wo.heap.size wo (wo.drew.alloc o) := fun o => hbase.alloc hbase.size o
      have Hb := Lib.hid hb; clear hb
      have Hlo4 := Lib.hid hlo4; clear hlo4
      have Hlne := Lib.hid hlne; clear hlne
      have Hhne := Lib.hid hhne; clear hhne
      have Hchi := Lib.hid hchi; clear hchi
      have Hclo := Lib.hid hclo; clear hclo
      have Sk := Lib.hid sk; clear sk
      go_wp2
      go_cut [8] (fun s8 wx => BoxHi wo lo hi B1 d1 s8 wx)
      case first =>
        go_region_held3 (fun w' => w'.cell? ⟨w.heap.size, 0, none⟩ = some (.slice B1 lo.length d1) ∧ w'.cell? ⟨w.heap.size, 1, none⟩ = some (.slice B2 hi.length d2))
          (first | exact Sk.out _ (by assumption) | exact Sk.out _ (HbaseA.out _) | go_keep)
          (first | (go_at_call 17; refine (Hchi.out _ ?_).mono ?_; (first | assumption | exact hbaseA _); rintro e wv ⟨gr, d3, rfl, hB1, hC2, hg1, hg2, hd1, hd2, hrow⟩; have hpo := Sk.out _ hB1; have hne9 := World.new_ne wv _ hpo.1; (first | (have hblk : Blk wv wo.heap.size 40 #[.slice none 0 0, .slice none 0 0] := (Blk.new wo.drew _ _).same (hC2.block _ (lt_alloc wo.drew _)); have hz0 := hblk.two; have hz1 := hblk.free 0; have hz2 := hblk.free 1) | skip)))
        all_goals
          go_wp2_with fail
          go_meet
          first
            | exact ⟨_, gr, d3, rfl, hd1, hd2, box_after _ hB1 hg1 hrow⟩
            | exact ⟨_, gr, d3, rfl, hd1, hd2, box_ahead _ _ hB1 hblk (Nat.lt_of_lt_of_le (lt_alloc wo.drew _) hg1) hrow⟩
      case rest =>
      obtain ⟨g8, gr8, d8, rfl, hd81, hd82, hbx⟩ := hcut
      obtain ⟨wa, rfl⟩ : ∃ wa : World, wa = wc := ⟨_, rfl⟩
      have hza := hbx.bel.size
      have hwna : wa.heap.size ≠ w.heap.size := by omega
      have hbase2 : Below wo.heap.size wo wa.drew := below_drew hbx.bel
      have hbase2A : ∀ o, Below wo.heap.size wo (wa.drew.alloc o) := fun o => hbase2.alloc hbase2.size o
      obtain ⟨x0, x1⟩ := Sk.out wa hbx.bel
      clear hwne
      have Hbx := Lib.hid hbx; clear hbx
      go_wp2
      go_cut [9] (fun s9 wx => BoxLo wa lo hi B2 d2 s9 wx)
      case first =>
        go_region_held3 (fun w' => w'.cell? ⟨w.heap.size, 0, none⟩ = some (.slice B1 lo.length d1) ∧ w'.cell? ⟨w.heap.size, 1, none⟩ = some (.slice B2 hi.length d2))
          (first | exact Sk.out _ (by assumption) | exact Sk.out _ (Hbase2A.out _) | go_keep)
          (first | (go_at_call 17; refine (Hclo.out _ ?_).mono ?_; (first | assumption | exact hbase2A _); rintro e wv ⟨gr, d3, rfl, hB1, hC2, hg1, hg2, hd1, hd2, hrow⟩; have hpo := Sk.out _ hB1; have hne9 := World.new_ne wv _ hpo.1; (first | (have hblk : Blk wv wa.heap.size 40 #[.slice none 0 0, .slice none 0 0] := (Blk.new wa.drew _ _).same (hC2.block _ (lt_alloc wa.drew _)); have hz0 := hblk.two; have hz1 := hblk.free 0; have hz2 := hblk.free 1) | skip)))
        all_goals
          go_wp2_with fail
          go_meet
          first
            | exact ⟨_, gr, d3, rfl, hd1, hd2, box_after _ ((below_drew (Below.refl _ _)).trans hC2) hg1 hrow⟩
            | exact ⟨_, gr, d3, rfl, hd1, hd2, box_ahead _ _ (((below_drew (Below.refl _ _)).alloc (Nat.le_refl _) _).trans (hC2.mono (Nat.le_of_lt (lt_alloc wa.drew _)))) hblk (Nat.lt_of_lt_of_le (lt_alloc wa.drew _) hg1) hrow⟩
      case rest =>
      obtain ⟨g9, gr9, d9, rfl, hd91, hd92, hbx2⟩ := hcut
      obtain ⟨wb, rfl⟩ : ∃ wb : World, wb = wc := ⟨_, rfl⟩
      clear x0 x1
      have q8 := Hbx.out.gt
      have q9 := hbx2.gt
      have hzb := hbx2.bel.size
      have hbo : Below wo.heap.size wo wb := Hbx.out.bel.trans (hbx2.bel.mono hza)
      have b8 := Hbx.out.bm.same (hbx2.bel.block g8 q8.2.1)
      have r8 := Hbx.out.row.same (hbx2.bel.block gr8 q8.2.2.2.1)
      have b9 := hbx2.bm
      have r9 := hbx2.row
      obtain ⟨x0, x1⟩ := Sk.out wb hbo
      have hzo := Hb.out.size
      have hw1b : Below w1.heap.size w1 wb := Hb.out.trans (hbo.mono hzo)
      have hkh : k < hi.length := by rw [Hhl.out]; exact hk
      obtain ⟨b1, o1, x1', hd1, e1, _, hc1, hf1⟩ := (Hl1.out.below hw1b).getI hk
      obtain ⟨b2, o2, x2', hd2, e2, _, hc2, hf2⟩ := (Hh1.out.below hw1b).getI hkh
      have e3 : x1' = a := by have h1 := get_of_drop hd1.out; rw [Hsp.out.ka] at h1; exact (Option.some.inj h1).symm
      have e4 : x2' = b := by have h1 := get_of_drop hd2.out; rw [Hsp.out.kb] at h1; exact (Option.some.inj h1).symm
      clear hd1 hd2
      subst e1 e2 e3 e4
      have g1 := okB_iff.1 (allB_get Hok.out.b k _ _ Hsp.out.ka Hsp.out.kb)
      have hle := Hsp.out.le
      have hem := Hsp.out.em
      obtain ⟨u0, u1⟩ := b8.two
      have c8 := r8.cell Hsp.out.kb
      have f8 := r8.free k
      have hk0 : (0 : Int) ≤ (k : Int) := Int.natCast_nonneg _
      have hk1 : (k : Int) < (lo.length : Int) := by omega
      have hk2 : (k : Int) < (hi.length : Int) := by omega
      have e5 : IntKind.i64.wrap (x2' - x1') = x2' - x1' := IntWalk.i64_in _ (by omega)
      have e6 : (x2' - x1').tdiv 2 = (x2' - x1') / 2 := Int.tdiv_eq_ediv_of_nonneg (by omega)
      have e7 : IntKind.i64.wrap ((x2' - x1') / 2) = (x2' - x1') / 2 := IntWalk.i64_in _ (by omega)
      have e8 : IntKind.i64.wrap (x1' + (x2' - x1') / 2) = mw := by rw [← hem]; exact IntWalk.i64_in _ (by omega)
      have Hem := Lib.hid hem; clear hem
      have Hbx2 := Lib.hid hbx2; clear hbx2
      have B8 := Lib.hid b8; clear b8
      have B9 := Lib.hid b9; clear b9
      have R8 := Lib.hid r8; clear r8
      have R9 := Lib.hid r9; clear r9
      have Hbo := Lib.hid hbo; clear hbo
      have Hw1b := Lib.hid hw1b; clear hw1b
      go_wp2
      go_still_tail 22, (by kernel_rfl)
      repeat still_step
      change wpList _ _ _ _ _ wb.drew
      generalize hw5 : wb.drew = wd
      have hh5 : ∀ q : Nat, wd.heap[q]? = wb.heap[q]? := fun q => by rw [← hw5]; rfl
      have hz5 : wd.heap.size = wb.heap.size := by rw [← hw5]; rfl
      have hb5 : Below wo.heap.size wo wd := by rw [← hw5]; exact below_drew Hbo.out
      clear hw5 c8 f8
      have r8d := R8.out.same (hh5 gr8)
      have c8 := r8d.cell Hsp.out.kb
      have f8 := r8d.free k
      have Hh5 := Lib.hid hh5; clear hh5
      have Hb5 := Lib.hid hb5; clear hb5
      go_wp2
      generalize hw6 : wd.setCell ⟨gr8, k, none⟩ (.int .i64 mw) = we
      have hh6 : ∀ q : Nat, q ≠ gr8 → we.heap[q]? = wb.heap[q]? := fun q hq => by rw [← hw6]; exact (Below.heap_setCell _ _ _ _ hq).trans (Hh5.out q)
      have hz6 : we.heap.size = wb.heap.size := by rw [← hw6, ← hz5]; simp [World.setCell]
      have hb6 : Below wo.heap.size wo we := by rw [← hw6]; exact Hb5.out.setCell q8.2.2.1 _
      have r8e : RowAt we gr8 3 (hi.set k mw) := by rw [← hw6]; exact r8d.set k mw
      clear hw6 r8d c8 f8 x0 x1 u0 u1 hc1 hc2
      have hkl : k < (hi.set k mw).length := by simp; exact hkh
      have hsk : (hi.set k mw)[k]? = some mw := by rw [List.getElem?_set, if_pos rfl, if_pos hkh]
      have b8e := B8.out.same (hh6 g8 q8.2.2.2.2)
      have b9e := B9.out.same (hh6 g9 (by omega))
      have r9e := R9.out.same (hh6 gr9 (by omega))
      obtain ⟨u0, u1⟩ := b8e.two
      obtain ⟨u2, u3⟩ := b9e.two
      have c8 := r8e.cell hsk
      have c9 := r9e.cell Hsp.out.ka
      have f9 := r9e.free k
      have e9 : IntKind.i64.wrap (mw + 1) = mw + 1 := IntWalk.i64_in _ (by omega)
      clear e5 e6 e7 e8
      have Hh6 := Lib.hid hh6; clear hh6
      have Hb6 := Lib.hid hb6; clear hb6
      have R8e := Lib.hid r8e; clear r8e
      have B8e := Lib.hid b8e; clear b8e
      have B9e := Lib.hid b9e; clear b9e
      have R9e := Lib.hid r9e; clear r9e
      go_wp2
      go_still_tail 10, (by kernel_rfl)
      repeat still_step
      change wpList _ _ _ _ _ we.drew
      generalize hw7 : we.drew = wf
      have hh7 : ∀ q : Nat, wf.heap[q]? = we.heap[q]? := fun q => by rw [← hw7]; rfl
      have hz7 : wf.heap.size = wb.heap.size := by rw [← hw7, ← hz6]; rfl
      have hb7 : Below wo.heap.size wo wf := by rw [← hw7]; exact below_drew Hb6.out
      clear hw7 c8 c9 f9
      have r9f := R9e.out.same (hh7 gr9)
      have c9 := r9f.cell Hsp.out.ka
      have f9 := r9f.free k
      have Hh7 := Lib.hid hh7; clear hh7
      have Hb7 := Lib.hid hb7; clear hb7
      go_upto_region 15 with fail
      generalize hw8 : wf.setCell ⟨gr9, k, none⟩ (.int .i64 (mw + 1)) = wg
      have hh8 : ∀ q : Nat, q ≠ gr9 → wg.heap[q]? = we.heap[q]? := fun q hq => by rw [← hw8]; exact (Below.heap_setCell _ _ _ _ hq).trans (Hh7.out q)
      have hz8 : wg.heap.size = wb.heap.size := by rw [← hw8, ← hz7]; simp [World.setCell]
      have hb8 : Below wo.heap.size wo wg := by rw [← hw8]; exact Hb7.out.setCell (by show wo.heap.size ≤ gr9; omega) _
      have r9g : RowAt wg gr9 3 (lo.set k (mw + 1)) := by rw [← hw8]; exact r9f.set k (mw + 1)
      clear hw8 r9f c9 f9 u0 u1 u2 u3
      have r8g := R8e.out.same (hh8 gr8 (by omega))
      have b8g := B8e.out.same (hh8 g8 (by omega))
      have b9g := B9e.out.same (hh8 g9 (by omega))
      have hw1g : Below w1.heap.size w1 wg := Hb.out.trans (hb8.mono hzo)
      have hatg := Hat1.out.below hw1g
      have hkg : LookKept B po (.slice A n c) (.slice A n c) W0 wg := LookKept.below Hat0.out.sz (Hbr.out.trans (hw1g.mono hz1))
      have hfb : ∀ x ∈ hi, Fits .i64 x := Hh1.out.fits
      have hfa : ∀ x ∈ lo, Fits .i64 x := Hl1.out.fits
      have sf1 : ∀ x ∈ hi.set k mw, Fits .i64 x := fun x hx => by
        rcases List.mem_or_eq_of_mem_set hx with h1 | h1
        · exact hfb x h1
        · rw [h1]; exact fits_i64 (by omega)
      have sf2 : ∀ x ∈ lo.set k (mw + 1), Fits .i64 x := fun x hx => by
        rcases List.mem_or_eq_of_mem_set hx with h1 | h1
        · exact hfa x h1
        · rw [h1]; exact fits_i64 (by omega)
      have hs8 : SlAt (pI .i64) (Side po (.slice A n c) wg) wg (some ⟨gr8, 0, none⟩) d8 (hi.set k mw) := r8g.sl (by rw [List.length_set]; exact hd81) hd82 sf1 (new_side Hat1.out (by omega) r8g.lt)
      have hs9 : SlAt (pI .i64) (Side po (.slice A n c) wg) wg (some ⟨gr9, 0, none⟩) d9 (lo.set k (mw + 1)) := r9g.sl (by rw [List.length_set]; exact hd91) hd92 sf2 (new_side Hat1.out (by omega) r9g.lt)
      have hside9 : Side po (.slice A n c) wg g9 := new_side Hat1.out (by omega) b9g.lt
      have hsl := side_sl Hlo0.out hkg
      have hsh := side_sl Hhi0.out hkg
      have call1 := Ih.out lo (hi.set k mw) _ d1 (some ⟨gr8, 0, none⟩) d8 wg A n c out hatg hsl hs8 Hsp.out.c1 Hsp.out.m1 (by have := Hsp.out.s1; have := HN.out; omega) (by have := Hnb.out; omega)
      rw [List.length_set] at call1
      obtain ⟨u0, u1⟩ := b8g.two
      have ck := hatg.bk.cell 0
      have Call1 := Lib.hid call1; clear call1
      have Hatg := Lib.hid hatg; clear hatg
      have Hkg := Lib.hid hkg; clear hkg
      have Hs9 := Lib.hid hs9; clear hs9
      have Hside9 := Lib.hid hside9; clear hside9
      have Hsl := Lib.hid hsl; clear hsl
      have Hsh := Lib.hid hsh; clear hsh
      have B9g := Lib.hid b9g; clear b9g
      have R8g := Lib.hid r8g; clear r8g
      have R9g := Lib.hid r9g; clear r9g
      have B8g := Lib.hid b8g; clear b8g
      have Hw1g := Lib.hid hw1g; clear hw1g
      have Hb8 := Lib.hid hb8; clear hb8
      have Hh8 := Lib.hid hh8; clear hh8
      obtain ⟨out1, ho1⟩ : ∃ out1, lookF f least N lo (hi.set k mw) out = out1 := ⟨_, rfl⟩
      rw [ho1] at Call1
      have hol : out1.length ≤ 2001 := by rw [← ho1]; exact lookF_len f least N _ _ _ (by have := Hnb.out; omega)
      have Ho1 := Lib.hid ho1; clear ho1
      go_upto_region 16 with ((go_at_call 15; refine (Call1.out).mono ?_; rintro e w5 ⟨rfl, A', n', c', hat5, hk5⟩))
      have call2 := Ih.out (lo.set k (mw + 1)) hi (some ⟨gr9, 0, none⟩) d9 _ d2 w5 A' n' c' out1 hat5 (side_sl Hs9.out hk5) (side_sl Hsh.out hk5) Hsp.out.c2 Hsp.out.m2 (by have := Hsp.out.s2; have := HN.out; omega) hol
      rw [List.length_set] at call2
      obtain ⟨v0, v1⟩ := (B9g.out.same (hk5.side g9 Hside9.out).1).two
      have ck5 := hat5.bk.cell 0
      clear u0 u1 ck
      have Call2 := Lib.hid call2; clear call2
      have Hk5 := Lib.hid hk5; clear hk5
      have Hat5 := Lib.hid hat5; clear hat5
      go_wp2_with ((go_at_call 15; refine (Call2.out).mono ?_; rintro e w6 ⟨rfl, A'', n'', c'', hat6, hk6⟩))
      go_end0
      refine ⟨rfl, A'', n'', c'', ?_, ((Hk0.out.trans Hkg.out).trans Hk5.out).trans hk6⟩
      rw [Hr.out, Ho1.out]
      exact hat6
end Go.Proofs.Ytfeafembifdklaa
