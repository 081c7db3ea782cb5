/-
  Layer 43: the walk of the reference's Accept.
-/
import Derived.Test.YtfeafembifdklaaYa
import Derived.Test.YtfeafembifdklaaZh
import Derived.Deep.DeepCutAuto
import Derived.Lib.QuietBelow
import Derived.BigQuiet
import Derived.Deep.RegionHeld3
import Derived.Deep.RegionLaw
namespace Go.Proofs.Ytfeafembifdklaa
open Go.RowKit Go.Sort Go.BigFrame



def BoundCut (b : Bool) (w0 : World) (s : Value) (W : World) : Prop := s = .bool b ∧ Below w0.heap.size w0 W
set_option maxRecDepth 100000 in
theorem refAccept_calls (f : Fit) (A1 : Option Addr) (c1 : Nat) (A2 : Option Addr) (c2 : Nat) (A3 : Option Addr) (c3 : Nat) (A4 : Option Addr) (c4 : Nat) (cost : Int) (l : List Cub) (B : Option Addr) (d : Nat) (w : World) (h : FitAt f (Old w) w A1 c1 A2 c2 A3 c3 A4 c4) (hl : SlAt pCub (Old w) w B d l) :
    Calls Try.prog 9 #[.agg #[.slice A1 f.lo.length c1, .slice A2 f.hi.length c2, .slice A3 f.terms.length c3, .slice A4 f.goals.length c4], .int .i64 cost, .slice B l.length d] w (AccPost (acceptF f cost l) w) := by
  have ml := hl.lenle
  obtain ⟨W0, hW0⟩ : ∃ W0, W0 = w.alloc (.cells #[.slice A1 f.lo.length c1, .slice A2 f.hi.length c2, .slice A3 f.terms.length c3, .slice A4 f.goals.length c4] 25) := ⟨_, rfl⟩
  have hb0 : Below w.heap.size w W0 := by rw [hW0]; exact (Below.refl _ _).alloc (Nat.le_refl _) _
  have hz0 : w.heap.size + 1 ≤ W0.heap.size := by rw [hW0]; simp
  have hl0 : w.heap.size < W0.heap.size := by omega
  have hbl0 : Blk W0 w.heap.size 25 #[.slice A1 f.lo.length c1, .slice A2 f.hi.length c2, .slice A3 f.terms.length c3, .slice A4 f.goals.length c4] := by rw [hW0]; exact Blk.new _ _ _
  have h0 := h.later hb0
  have h1 := hl.later hb0
  have cells : ∀ W : World, Below W0.heap.size W0 W → (W.cell? ⟨w.heap.size, 0, none⟩ = some (.slice A1 f.lo.length c1) ∧ W.cell? ⟨w.heap.size, 1, none⟩ = some (.slice A2 f.hi.length c2) ∧ W.cell? ⟨w.heap.size, 2, none⟩ = some (.slice A3 f.terms.length c3) ∧ W.cell? ⟨w.heap.size, 3, none⟩ = some (.slice A4 f.goals.length c4)) := fun W hW => (hbl0.same (hW.block _ hl0)).four
  have H0 := Lib.hid h0; clear h0
  have H1 := Lib.hid h1; clear h1
  have Hb0 := Lib.hid hb0; clear hb0
  have Hbl0 := Lib.hid hbl0; clear hbl0
  have HW0 := Lib.hid hW0; clear hW0
  have Cells := Lib.hid cells; clear cells
  clear h hl
  go_enter Try.func9, Try.ntmps9
  go_wp2_with fail
  rw [← HW0.out]
  go_wp2_with fail
  refine (refFCheck_calls f A1 c1 A2 c2 A3 c3 A4 c4 W0 H0.out).mono ?_
  rintro e w1 ⟨rfl, hb1⟩
  have z1 := hb1.size
  have Hb1 := Lib.hid hb1; clear hb1
  obtain ⟨x0, x1, x2, x3⟩ := Cells.out w1 Hb1.out
  by_cases hck : checkFit f = 0
  · have e0 : (checkFit f != 0) = false := by simp [hck]
    have hv := checkFit_valid hck
    obtain ⟨p1, p2, p3, p4, p5, p6, p7⟩ := valid_parts hv
    by_cases hbig : 2000 < l.length
    · have hr : acceptF f cost l = (false, 4) := by unfold acceptF; rw [if_pos hck, if_pos hbig]
      have Hck := Lib.hid hck; clear hck
      have Hr := Lib.hid hr; clear hr
      have Hv := Lib.hid hv; clear hv
      go_wp2
      go_ret2
      exact ⟨by rw [Hr.out]; rfl, Hb0.out.trans (Hb1.out.mono (by omega))⟩
    have hr : acceptF f cost l = (accGo f cost l 0 (manyF 1 f.lo f.hi) l, 0) := by unfold acceptF; rw [if_pos hck, if_neg hbig]
    have hrg := manyF_range f.lo f.hi 1 p6 (by omega) (by omega)
    obtain ⟨mv, hmv⟩ : ∃ mv, manyF 1 f.lo f.hi = mv := ⟨_, rfl⟩
    rw [hmv] at hrg hr
    obtain ⟨r0, r1⟩ := hrg
    have Hck := Lib.hid hck; clear hck
    have Hr := Lib.hid hr; clear hr
    have Hv := Lib.hid hv; clear hv
    have P3 := Lib.hid p3; clear p3
    have P6 := Lib.hid p6; clear p6
    have Hmv := Lib.hid hmv; clear hmv
    clear p4 p5 p7
    go_wp2
    clear x0 x1 x2 x3
    go_loopw [9, 8] (fun i r wr => ∃ k : Nat, k ≤ l.length ∧ i = .int .i64 k ∧ ∃ all : Int, r = .int .i64 all ∧ 0 ≤ all ∧ all ≤ (k * 20001 : Int) ∧ Hid (Below W0.heap.size W0 wr) ∧ W0.heap.size ≤ wr.heap.size ∧ Hid (∀ x ∈ l.take k, withinF f x.lo x.hi = true) ∧ Hid (acceptF f cost l = (accGo f cost l k (mv - all) (l.drop k), 0))) (fun i _ _ => l.length - (intOf i).toNat)
    case atStart => exact ⟨0, Nat.zero_le _, rfl, 0, rfl, by omega, by omega, Hb1, z1, (fun x hx => by simp at hx), by unfold Hid; rw [Hr.out, List.drop_zero, Int.sub_zero]⟩
    case round =>
      obtain ⟨k, hk, rfl, all, rfl, hr0, hr1, hb, hsz, hwi, hall⟩ := hrel
      obtain ⟨wo, rfl⟩ : ∃ wo : World, wo = wr := ⟨_, rfl⟩
      obtain ⟨x0, x1, x2, x3⟩ := Cells.out wo hb.out
      have hwl : w.heap.size < wo.heap.size := by omega
      by_cases hlt : k < l.length
      · obtain ⟨b, o, B1, d1, B2, d2, cu, hd, rfl, hob, hs0, hs1, hsl, hsh, hll, hlh⟩ := (H1.out.later hb.out).getCub hlt
        have hgo : accGo f cost l k (mv - all) (l.drop k) = (okCub f cost cu && (l.take k).all (fun d => apC cu d) && accGo f cost l (k + 1) (mv - all - manyF 1 cu.lo cu.hi) (l.drop (k + 1))) := by rw [hd.out]; rfl
        have hk0 : (0 : Int) ≤ (k : Int) := Int.natCast_nonneg _
        have hk1 : (k : Int) < (l.length : Int) := by omega
        have hfo := H0.out.later hb.out
        have hob' : b < wo.heap.size := hob
        have sk : ∀ W, Below wo.heap.size wo W → W.cell? ⟨w.heap.size, 0, none⟩ = some (.slice A1 f.lo.length c1) ∧ W.cell? ⟨w.heap.size, 1, none⟩ = some (.slice A2 f.hi.length c2) ∧ W.cell? ⟨w.heap.size, 2, none⟩ = some (.slice A3 f.terms.length c3) ∧ W.cell? ⟨w.heap.size, 3, none⟩ = some (.slice A4 f.goals.length c4) ∧
            W.cell? ⟨b, o + k * 2, none⟩ = some (.slice B1 cu.lo.length d1) ∧ W.cell? ⟨b, o + k * 2 + 1, none⟩ = some (.slice B2 cu.hi.length d2) := fun W hW =>
          have h := Cells.out W (hb.out.trans (hW.mono hsz))
          ⟨h.1, h.2.1, h.2.2.1, h.2.2.2, (hW.cell (p := ⟨b, _, none⟩) hob').trans hs0, (hW.cell (p := ⟨b, _, none⟩) hob').trans hs1⟩
        have hcb : ∀ W, Below wo.heap.size wo W → Calls Try.prog 26 #[.agg #[.slice A1 f.lo.length c1, .slice A2 f.hi.length c2, .slice A3 f.terms.length c3, .slice A4 f.goals.length c4], .agg #[.slice B1 cu.lo.length d1, .slice B2 cu.hi.length d2]] W fun e W' => e = .returned (.bool (withinF f cu.lo cu.hi)) ∧ Below wo.heap.size wo W' := fun W hW =>
          (refCube_calls f A1 c1 A2 c2 A3 c3 A4 c4 cu.lo cu.hi B1 d1 B2 d2 W (hfo.later hW) (hsl.out.later hW) (hsh.out.later hW) P3.out p2).mono fun e W' ⟨he, hb'⟩ => ⟨he, hW.trans (hb'.mono hW.size)⟩
        have hbase : Below wo.heap.size wo wo.drew := below_drew (Below.refl _ _)
        obtain ⟨x0, x1, x2, x3, s0, s1⟩ := sk wo (Below.refl _ _)
        clear hs0 hs1
        cases hwc : withinF f cu.lo cu.hi
        · have hn : acceptF f cost l = (false, 0) := by rw [hall.out, hgo]; unfold okCub; rw [hwc]; rfl
          rw [hwc] at hcb
          have hcR : ∀ (q : Nat) (os : Array Obj), Calls Try.prog 26 #[.agg #[.slice A1 f.lo.length c1, .slice A2 f.hi.length c2, .slice A3 f.terms.length c3, .slice A4 f.goals.length c4], .agg #[.slice B1 cu.lo.length d1, .slice B2 cu.hi.length d2]] (grow (redrawn wo q) os) fun e w'' => e = .returned (.bool false) ∧ ∃ p : Regrown, w'' = grow (redrawn wo p.d) p.os := fun q os =>
            Calls.regrown_of ((refCube_calls f A1 c1 A2 c2 A3 c3 A4 c4 cu.lo cu.hi B1 d1 B2 d2 _ (hfo.later (below_regrown wo q os)) (hsl.out.later (below_regrown wo q os)) (hsh.out.later (below_regrown wo q os)) P3.out p2).mono fun e W' ⟨he, hb'⟩ => ⟨by rw [he, hwc], hb'⟩)
          have Hn := Lib.hid hn; clear hn
          have Hwc := Lib.hid hwc; clear hwc
          have Hcb := Lib.hid hcb; clear hcb
          have Hgo := Lib.hid hgo; clear hgo
          have Hfo := Lib.hid hfo; clear hfo
          have Sk := Lib.hid sk; clear sk
          have HcR := Lib.hid hcR; clear hcR
          go_wp2
          have y0 := cell_regrown x0
          have y1 := cell_regrown x1
          have y2 := cell_regrown x2
          have y3 := cell_regrown x3
          have u0 := cell_regrown s0
          have u1 := cell_regrown s1
          clear x0 x1 x2 x3 s0 s1
          refine wp_region_quiet_below (by kernel_rfl) (by kernel_rfl) ?_
          iterate 17 (go_big_quiet_step (exact (HcR.out _ _).mono fun e w'' h => h))
          refine wpQuiet_nil ?_
          intro _ hw'
          obtain ⟨⟨dq, osq⟩, hw''⟩ := hw'
          subst hw''
          have hbr := below_regrown wo dq osq
          have hbx := Hb0.out.trans ((hb.out.trans (hbr.mono hsz)).mono (by omega))
          have Hbx := Lib.hid hbx; clear hbx
          clear hbr y0 y1 y2 y3 u0 u1
          go_wp2
          go_ret2
          exact ⟨by rw [Hn.out]; rfl, Hbx.out⟩
        have hcok := within_ok Hv.out hwc
        have hmr := manyF_range cu.lo cu.hi 1 hcok.b (by omega) (by omega)
        have hbd : ∀ W, Below wo.heap.size wo W → Calls Try.prog 27 #[.agg #[.slice A1 f.lo.length c1, .slice A2 f.hi.length c2, .slice A3 f.terms.length c3, .slice A4 f.goals.length c4], .agg #[.slice B1 cu.lo.length d1, .slice B2 cu.hi.length d2]] W (IntPost (boundF f.terms f.goals cu.lo cu.hi) W) := fun W hW =>
          bound_calls f A1 c1 A2 c2 A3 c3 A4 c4 cu.lo cu.hi B1 d1 B2 d2 W (hfo.later hW) (hsl.out.later hW) (hsh.out.later hW) hcok
        obtain ⟨bv, hbv⟩ : ∃ bv, boundF f.terms f.goals cu.lo cu.hi = bv := ⟨_, rfl⟩
        rw [hbv] at hbd
        rw [hwc] at hcb
        have hcR : ∀ (q : Nat) (os : Array Obj), Calls Try.prog 26 #[.agg #[.slice A1 f.lo.length c1, .slice A2 f.hi.length c2, .slice A3 f.terms.length c3, .slice A4 f.goals.length c4], .agg #[.slice B1 cu.lo.length d1, .slice B2 cu.hi.length d2]] (grow (redrawn wo q) os) fun e w'' => e = .returned (.bool true) ∧ ∃ p : Regrown, w'' = grow (redrawn wo p.d) p.os := fun q os =>
          Calls.regrown_of ((refCube_calls f A1 c1 A2 c2 A3 c3 A4 c4 cu.lo cu.hi B1 d1 B2 d2 _ (hfo.later (below_regrown wo q os)) (hsl.out.later (below_regrown wo q os)) (hsh.out.later (below_regrown wo q os)) P3.out p2).mono fun e W' ⟨he, hb'⟩ => ⟨by rw [he, hwc], hb'⟩)
        have hbR : ∀ (q : Nat) (os : Array Obj), Calls Try.prog 27 #[.agg #[.slice A1 f.lo.length c1, .slice A2 f.hi.length c2, .slice A3 f.terms.length c3, .slice A4 f.goals.length c4], .agg #[.slice B1 cu.lo.length d1, .slice B2 cu.hi.length d2]] (grow (redrawn wo q) os) fun e w'' => e = .returned (.int .i64 bv) ∧ ∃ p : Regrown, w'' = grow (redrawn wo p.d) p.os := fun q os =>
          Calls.regrown_of (hbd _ (below_regrown wo q os))
        have Hcb := Lib.hid hcb; clear hcb
        have Hgo := Lib.hid hgo; clear hgo
        have Hfo := Lib.hid hfo; clear hfo
        have Sk := Lib.hid sk; clear sk
        have HcR := Lib.hid hcR; clear hcR
        have HbR := Lib.hid hbR; clear hbR
        have Hbd := Lib.hid hbd; clear hbd
        have Hbv := Lib.hid hbv; clear hbv
        have Hcok := Lib.hid hcok; clear hcok
        have Hwc := Lib.hid hwc
        clear hwc
        by_cases hlc : bv < cost
        · have hn : acceptF f cost l = (false, 0) := by rw [hall.out, Hgo.out]; unfold okCub; rw [Hbv.out, decide_eq_false (by omega), Bool.and_false]; rfl
          have Hn := Lib.hid hn; clear hn
          go_wp2
          have y0 := cell_regrown x0
          have y1 := cell_regrown x1
          have y2 := cell_regrown x2
          have y3 := cell_regrown x3
          have u0 := cell_regrown s0
          have u1 := cell_regrown s1
          clear x0 x1 x2 x3 s0 s1
          refine wp_region_quiet_below (by kernel_rfl) (by kernel_rfl) ?_
          iterate 17 (go_big_quiet_step (first | exact (HcR.out _ _).mono fun e w'' h => h | exact (HbR.out _ _).mono fun e w'' h => h))
          refine wpQuiet_nil ?_
          intro _ hw'
          obtain ⟨⟨dq, osq⟩, hw''⟩ := hw'
          subst hw''
          have hbr := below_regrown wo dq osq
          have hbx := Hb0.out.trans ((hb.out.trans (hbr.mono hsz)).mono (by omega))
          have Hbx := Lib.hid hbx; clear hbx
          clear hbr y0 y1 y2 y3 u0 u1
          go_wp2
          go_ret2
          exact ⟨by rw [Hn.out]; rfl, Hbx.out⟩
        go_wp2
        have y0 := cell_regrown x0
        have y1 := cell_regrown x1
        have y2 := cell_regrown x2
        have y3 := cell_regrown x3
        have u0 := cell_regrown s0
        have u1 := cell_regrown s1
        clear x0 x1 x2 x3 s0 s1
        refine wp_region_quiet_below (by kernel_rfl) (by kernel_rfl) ?_
        iterate 17 (go_big_quiet_step (first | exact (HcR.out _ _).mono fun e w'' h => h | exact (HbR.out _ _).mono fun e w'' h => h))
        refine wpQuiet_nil ?_
        intro _ hw'
        obtain ⟨⟨dq, osq⟩, hw''⟩ := hw'
        subst hw''
        have hbr := below_regrown wo dq osq
        clear y0 y1 y2 y3 u0 u1
        have zr := hbr.size
        obtain ⟨W1, hW1⟩ : ∃ W1 : World, grow (redrawn wo dq) osq = W1 := ⟨_, rfl⟩
        rw [hW1] at hbr zr ⊢
        have hgo2 : acceptF f cost l = ((l.take k).all (fun d => apC cu d) && accGo f cost l (k + 1) (mv - all - manyF 1 cu.lo cu.hi) (l.drop (k + 1)), 0) := by
          rw [hall.out, Hgo.out]; unfold okCub; rw [Hbv.out, Hwc.out, decide_eq_true (by omega)]; rfl
        have htk : (l.take k).length = k := by simp; omega
        have hlen : cu.hi.length = cu.lo.length := Hcok.out.h.trans Hcok.out.l.symm
        have hkd : (k : Int) ≤ (l.length : Int) := by omega
        have Hbr := Lib.hid hbr; clear hbr
        have Hgo2 := Lib.hid hgo2; clear hgo2
        have Htk := Lib.hid htk; clear htk
        have Hlen := Lib.hid hlen; clear hlen
        have HW1 := Lib.hid hW1; clear hW1
        go_wp2
        clear hlc
        go_loopw [10] (fun i wr => ∃ j : Nat, j ≤ k ∧ i = .int .i64 j ∧ Hid (Below wo.heap.size wo wr) ∧ wo.heap.size ≤ wr.heap.size ∧ Hid ((l.take k).all (fun d => apC cu d) = ((l.take k).drop j).all (fun d => apC cu d))) (fun i _ => k - (intOf i).toNat)
        case atStart => exact ⟨0, Nat.zero_le _, rfl, Hbr, zr, rfl⟩
        case round =>
          obtain ⟨j, hj, rfl, hb7, hsz7, hall7⟩ := hrel
          obtain ⟨wp, rfl⟩ : ∃ wp : World, wp = wr := ⟨_, rfl⟩
          obtain ⟨x0, x1, x2, x3, s0, s1⟩ := Sk.out wp hb7.out
          have hb07 := hb.out.trans (hb7.out.mono hsz)
          by_cases hlt2 : j < k
          · obtain ⟨b', o', B3, d3, B4, d4, du, hdu, he, hobd, hd0, hd1, hdl, hdh, _, _⟩ := (sl_take (H1.out.later hb07) k).getCub (i := j) (by rw [Htk.out]; exact hlt2)
            cases he
            have hdw := hwi.out du (mem_of_drop hdu.out)
            have hdok := within_ok Hv.out hdw
            have hcall : ∀ (q : Nat) (os : Array Obj), Calls Try.prog 28 #[.agg #[.slice B1 cu.lo.length d1, .slice B2 cu.hi.length d2], .agg #[.slice B3 du.lo.length d3, .slice B4 du.hi.length d4]] (grow (redrawn wp q) os) fun e w'' => e = .returned (.bool (!apC cu du)) ∧ ∃ p : Regrown, w'' = grow (redrawn wp p.d) p.os := fun q os =>
              Calls.regrown_of (meet_calls cu du B1 d1 B2 d2 B3 d3 B4 d4 _ ((hsl.out.later hb7.out).later (below_regrown wp q os)) ((hsh.out.later hb7.out).later (below_regrown wp q os)) (hdl.out.later (below_regrown wp q os)) (hdh.out.later (below_regrown wp q os)) Hlen.out (hdok.l.trans Hcok.out.l.symm) (hdok.h.trans Hcok.out.l.symm))
            have hj0 : (0 : Int) ≤ (j : Int) := Int.natCast_nonneg _
            have hj1 : (j : Int) < (k : Int) := by omega
            have hj2 : (j : Int) < (l.length : Int) := by omega
            obtain ⟨av, hav⟩ : ∃ av, apC cu du = av := ⟨_, rfl⟩
            rw [hav] at hcall
            have Hcall := Lib.hid hcall; clear hcall
            have Hdw := Lib.hid hdw; clear hdw
            have Hdok := Lib.hid hdok; clear hdok
            have Hb07 := Lib.hid hb07; clear hb07
            have Hav := Lib.hid hav; clear hav
            go_wp2
            have v0 := cell_regrown hd0
            have v1 := cell_regrown hd1
            have u0 := cell_regrown s0
            have u1 := cell_regrown s1
            clear x0 x1 x2 x3 s0 s1 hd0 hd1
            refine wp_region_quiet_below (by kernel_rfl) (by kernel_rfl) ?_
            iterate 9 (go_big_quiet_step (exact (Hcall.out _ _).mono fun e w'' h => h))
            refine wpQuiet_nil ?_
            intro _ hw'
            obtain ⟨⟨dq, osq⟩, hw''⟩ := hw'
            subst hw''
            have hbr := below_regrown wp dq osq
            have zr := hbr.size
            have hb8 := Hb07.out.trans (hbr.mono (by omega))
            have hb9 := hb7.out.trans (hbr.mono hsz7)
            have Hb8 := Lib.hid hb8; clear hb8
            have Hb9 := Lib.hid hb9; clear hb9
            clear hbr v0 v1 u0 u1
            cases av
            · have hn : acceptF f cost l = (false, 0) := by rw [Hgo2.out, hall7.out, hdu.out, List.all_cons, Hav.out]; rfl
              have Hn := Lib.hid hn; clear hn
              go_wp2
              go_ret2
              exact ⟨by rw [Hn.out]; rfl, Hb0.out.trans (Hb8.out.mono (by omega))⟩
            · go_wp2
              go_roundw
              case rel =>
                refine ⟨j + 1, by omega, by go_num, Hb9, by omega, ?_⟩
                unfold Hid; rw [hall7.out, hdu.out, List.all_cons, Hav.out]; rfl
              case measure => simp [intOf]; omega
          · have hgo3 : acceptF f cost l = (accGo f cost l (k + 1) (mv - all - manyF 1 cu.lo cu.hi) (l.drop (k + 1)), 0) := by
              rw [Hgo2.out, hall7.out, drop_end (by rw [Htk.out]; exact hlt2)]; rfl
            have hcm : ∀ (q : Nat) (os : Array Obj), Calls Try.prog 13 #[.slice B1 cu.lo.length d1, .slice B2 cu.hi.length d2] (grow (redrawn wp q) os) fun e w'' => e = .returned (.int .i64 (manyF 1 cu.lo cu.hi)) ∧ ∃ p : Regrown, w'' = grow (redrawn wp p.d) p.os := fun q os =>
              Calls.regrown_of (refMany_calls cu.lo cu.hi B1 d1 B2 d2 _ ((hsl.out.later hb7.out).later (below_regrown wp q os)) ((hsh.out.later hb7.out).later (below_regrown wp q os)) Hlen.out Hcok.out.b)
            obtain ⟨mc, hmc⟩ : ∃ mc, manyF 1 cu.lo cu.hi = mc := ⟨_, rfl⟩
            rw [hmc] at hcm hmr hgo3
            obtain ⟨mr0, mr1⟩ := hmr
            have hwi2 : ∀ x ∈ l.take (k + 1), withinF f x.lo x.hi = true := by
              intro x hx
              rw [take_of_drop hd.out] at hx
              rcases List.mem_append.1 hx with hx | hx
              · exact hwi.out x hx
              · simp at hx; rw [hx]; exact Hwc.out
            have hgo4 : acceptF f cost l = (accGo f cost l (k + 1) (mv - (all + mc)) (l.drop (k + 1)), 0) := by rw [hgo3, show mv - all - mc = mv - (all + mc) from by omega]
            have w0' : -9223372036854775808 ≤ all + mc ∧ all + mc ≤ 9223372036854775807 := by omega
            have Hcm := Lib.hid hcm; clear hcm
            have Hmc := Lib.hid hmc; clear hmc
            have Hgo4 := Lib.hid hgo4; clear hgo4
            have Hwi2 := Lib.hid hwi2; clear hwi2
            have Hb07 := Lib.hid hb07; clear hb07
            clear hgo3
            go_wp2
            have u0 := cell_regrown s0
            have u1 := cell_regrown s1
            clear x0 x1 x2 x3 s0 s1
            refine wp_region_quiet_below (by kernel_rfl) (by kernel_rfl) ?_
            iterate 14 (go_big_quiet_step (exact (Hcm.out _ _).mono fun e w'' h => h))
            refine wpQuiet_nil ?_
            intro _ hw'
            obtain ⟨⟨dq, osq⟩, hw''⟩ := hw'
            subst hw''
            have hbr := below_regrown wp dq osq
            have zr := hbr.size
            have hb8 := Hb07.out.trans (hbr.mono (by omega))
            have Hb8 := Lib.hid hb8; clear hb8
            clear hbr u0 u1
            go_wp2
            go_roundw
            case rel => exact ⟨k + 1, by omega, by go_num, all + mc, by go_num, by omega, by omega, Hb8, by omega, Hwi2, Hgo4⟩
            case measure => simp [intOf]; omega
      · have hn : acceptF f cost l = (all == mv, 0) := by
          rw [hall.out, drop_end hlt]
          show ((mv - all == 0), 0) = _
          rw [show (mv - all == 0) = (all == mv) from by rw [Bool.eq_iff_iff]; simp; omega]
        have hcm := refMany_calls f.lo f.hi A1 c1 A2 c2 wo (H0.out.later hb.out).l (H0.out.later hb.out).h P3.out P6.out
        rw [Hmv.out] at hcm
        have Hn := Lib.hid hn; clear hn
        have Hcm := Lib.hid hcm; clear hcm
        go_wp2_with fail
        refine Hcm.out.mono ?_
        rintro e w8 ⟨rfl, hb8⟩
        have hb9 := Hb0.out.trans ((hb.out.trans (hb8.mono hsz)).mono (by omega))
        have Hb9 := Lib.hid hb9; clear hb9
        go_wp2
        go_ret2
        exact ⟨by rw [Hn.out]; rfl, Hb9.out⟩
  · have e0 : (checkFit f != 0) = true := by simp [hck]
    have hr : acceptF f cost l = (false, checkFit f) := by unfold acceptF; rw [if_neg hck]
    have Hr := Lib.hid hr; clear hr
    have Hck := Lib.hid hck; clear hck
    go_wp2_with fail
    refine (refFCheck_calls f A1 c1 A2 c2 A3 c3 A4 c4 w1 (H0.out.later Hb1.out)).mono ?_
    rintro e w2 ⟨rfl, hb2⟩
    go_wp2
    go_ret2
    exact ⟨by rw [Hr.out]; rfl, Hb0.out.trans ((Hb1.out.trans (hb2.mono z1)).mono (by omega))⟩
end Go.Proofs.Ytfeafembifdklaa
