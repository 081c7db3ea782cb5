/-
  Layer 43: the walks of many, Many, whole and of the two Checks.
-/
import Derived.Test.YtfeafembifdklaaZb
namespace Go.Proofs.Ytfeafembifdklaa
open Go.RowKit Go.Sort


theorem mul_bd2 {a d : Int} (h0 : 0 ≤ a) (h1 : a ≤ 20001) (h2 : 1 ≤ d) (h3 : d ≤ 2000001) : 0 ≤ a * d ∧ a * d ≤ 40004020001 := by
  have h4 : a * d ≤ 20001 * 2000001 := Int.mul_le_mul h1 h3 (by omega) (by omega)
  exact ⟨Int.mul_nonneg h0 (by omega), by omega⟩
theorem min_cap {a : Int} (h : 0 ≤ a) : 0 ≤ min a 20001 ∧ min a 20001 ≤ 20001 := by omega

set_option maxRecDepth 100000 in
set_option maxHeartbeats 2000000 in
theorem many_calls (lo hi : List Int) (A1 : Option Addr) (c1 : Nat) (A2 : Option Addr) (c2 : Nat) (w : World) (hl : SlAt (pI .i64) (Old w) w A1 c1 lo) (hh : SlAt (pI .i64) (Old w) w A2 c2 hi) (hlen : hi.length = lo.length) (hb : allB lo hi = true) :
    Calls Try.prog 22 #[.agg #[.slice A1 lo.length c1, .slice A2 hi.length c2]] w (IntPost (manyF 1 lo hi) w) := by
  have m1 := hl.lenle
  have m2 := hh.lenle
  obtain ⟨W0, hW0⟩ : ∃ W0, W0 = w.alloc (.cells #[.slice A1 lo.length c1, .slice A2 hi.length c2] 40) := ⟨_, rfl⟩
  have hb0 : Below w.heap.size w W0 := by rw [hW0]; exact (Below.refl _ _).alloc (Nat.le_refl _) _
  have hz0 : w.heap.size + 1 ≤ W0.heap.size := by rw [hW0]; simp
  have hl0 : w.heap.size < W0.heap.size := by omega
  have hbl0 : Blk W0 w.heap.size 40 #[.slice A1 lo.length c1, .slice A2 hi.length c2] := by rw [hW0]; exact Blk.new _ _ _
  have h1 := hl.later hb0
  have h2 := hh.later hb0
  have x := hbl0.two
  have H1 := Lib.hid h1; clear h1
  have H2 := Lib.hid h2; clear h2
  have Hb0 := Lib.hid hb0; clear hb0
  have HW0 := Lib.hid hW0; clear hW0
  have Hlen := Lib.hid hlen; clear hlen
  have Hb := Lib.hid hb; clear hb
  have X := Lib.hid x; clear x
  clear hl hh hbl0
  go_enter Try.func22, Try.ntmps22
  go_wp2
  rw [← HW0.out]
  go_loop [9, 3] (fun i n => ∃ k : Nat, k ≤ lo.length ∧ i = .int .i64 k ∧ ∃ a : Int, n = .int .i64 a ∧ 0 ≤ a ∧ a ≤ 20001 ∧ Hid (manyF 1 lo hi = manyF a (lo.drop k) (hi.drop k))) (fun i _ => lo.length - (intOf i).toNat)
  case atStart => exact ⟨0, Nat.zero_le _, rfl, 1, rfl, by omega, by omega, rfl⟩
  case round =>
    obtain ⟨k, hk, rfl, a, rfl, ha0, ha1, hall⟩ := hrel
    by_cases hlt : k < lo.length
    · have hlt' : k < hi.length := by rw [Hlen.out]; exact hlt
      obtain ⟨b, o, x, hdx, rfl, _, hcx, hfx⟩ := H1.out.getI hlt
      obtain ⟨b', o', y, hdy, rfl, _, hcy, hfy⟩ := H2.out.getI hlt'
      have hok := okB_iff.1 (allB_get Hb.out k x y (get_of_drop hdx.out) (get_of_drop hdy.out))
      obtain ⟨k1, k2, k3⟩ := hok
      have hm := mul_bd2 ha0 ha1 (show 1 ≤ y - x + 1 by omega) (by omega)
      obtain ⟨hm0, hm1⟩ := hm
      have hc := min_cap hm0
      have x0 := X.out.1
      have x1 := X.out.2
      go_wp2
      go_round
      case rel =>
        exact ⟨k + 1, by omega, by go_num, _, rfl, hc.1, hc.2, by unfold Hid; rw [hall.out, manyF_step hdx.out hdy.out]⟩
      case measure => simp [intOf]; omega
    · have hf : manyF 1 lo hi = a := by rw [hall.out, drop_end hlt]; rfl
      have Hf := Lib.hid hf; clear hf
      go_wp2
      go_ret
      exact ⟨by rw [Hf.out]; rfl, Hb0.out⟩

set_option maxRecDepth 100000 in
set_option maxHeartbeats 2000000 in
theorem refMany_calls (lo hi : List Int) (A1 : Option Addr) (c1 : Nat) (A2 : Option Addr) (c2 : Nat) (w : World) (hl : SlAt (pI .i64) (Old w) w A1 c1 lo) (hh : SlAt (pI .i64) (Old w) w A2 c2 hi) (hlen : hi.length = lo.length) (hb : allB lo hi = true) :
    Calls Try.prog 13 #[.slice A1 lo.length c1, .slice A2 hi.length c2] w (IntPost (manyF 1 lo hi) w) := by
  have m1 := hl.lenle
  have m2 := hh.lenle
  have Hl := Lib.hid hl; clear hl
  have Hh := Lib.hid hh; clear hh
  have Hlen := Lib.hid hlen; clear hlen
  have Hb := Lib.hid hb; clear hb
  go_enter Try.func13, Try.ntmps13
  go_wp2
  go_loopw [6, 5] (fun i n wr => ∃ k : Nat, k ≤ lo.length ∧ i = .int .i64 k ∧ ∃ a : Int, n = .int .i64 a ∧ 0 ≤ a ∧ a ≤ 20001 ∧ Hid (manyF 1 lo hi = manyF a (lo.drop k) (hi.drop k)) ∧ Hid (∃ n, wr = w.drewN n)) (fun i _ _ => lo.length - (intOf i).toNat)
  case atStart => exact ⟨0, Nat.zero_le _, rfl, 1, rfl, by omega, by omega, rfl, 0, rfl⟩
  case round =>
    obtain ⟨k, hk, rfl, a, rfl, ha0, ha1, hall, hw⟩ := hrel
    have hbw : Below w.heap.size w wr := by obtain ⟨n, rfl⟩ := hw.out; exact below_drewN (Below.refl _ _) n
    by_cases hlt : k < lo.length
    · have hlt' : k < hi.length := by rw [Hlen.out]; exact hlt
      obtain ⟨b, o, x, hdx, rfl, _, hcx, hfx⟩ := (Hl.out.below hbw).getI hlt
      obtain ⟨b', o', y, hdy, rfl, _, hcy, hfy⟩ := (Hh.out.below hbw).getI hlt'
      have hok := okB_iff.1 (allB_get Hb.out k x y (get_of_drop hdx.out) (get_of_drop hdy.out))
      obtain ⟨k1, k2, k3⟩ := hok
      have hm := mul_bd2 ha0 ha1 (show 1 ≤ y - x + 1 by omega) (by omega)
      obtain ⟨hm0, hm1⟩ := hm
      have hc := min_cap hm0
      have hk0 : (0 : Int) ≤ (k : Int) := Int.natCast_nonneg _
      have hk1 : (k : Int) < (hi.length : Int) := by omega
      have e1 : IntKind.i64.wrap (y - x) = y - x := IntWalk.i64_in _ (by omega)
      have e2 : IntKind.i64.wrap (y - x + 1) = y - x + 1 := IntWalk.i64_in _ (by omega)
      have e3 : IntKind.i64.wrap (a * (y - x + 1)) = a * (y - x + 1) := IntWalk.i64_in _ (by omega)
      have Hbw := Lib.hid hbw; clear hbw
      have Hc := Lib.hid hc; clear hc
      go_wp2
      go_quiet (fail)
      clear e1 e2 e3
      go_wp2
      go_roundw
      case rel =>
        refine ⟨k + 1, by omega, by go_num, _, rfl, Hc.out.1, Hc.out.2, by unfold Hid; rw [hall.out, manyF_step hdx.out hdy.out], ?_⟩
        obtain ⟨n, rfl⟩ := hw.out
        exact ⟨_, World.drewN_drewN _ _ _⟩
      case measure => simp [intOf]; omega
    · have hf : manyF 1 lo hi = a := by rw [hall.out, drop_end hlt]; rfl
      have Hf := Lib.hid hf; clear hf
      have Hbw := Lib.hid hbw; clear hbw
      go_wp2
      go_ret
      exact ⟨by rw [Hf.out]; rfl, Hbw.out⟩

def ValPost (v : Value) (w : World) (e : Ending) (w' : World) : Prop := e = .returned v ∧ Below w.heap.size w w'
set_option maxRecDepth 100000 in
set_option maxHeartbeats 2000000 in
theorem whole_calls (f : Fit) (A1 : Option Addr) (c1 : Nat) (A2 : Option Addr) (c2 : Nat) (A3 : Option Addr) (c3 : Nat) (A4 : Option Addr) (c4 : Nat) (w : World) : Calls Try.prog 18 #[.agg #[.slice A1 f.lo.length c1, .slice A2 f.hi.length c2, .slice A3 f.terms.length c3, .slice A4 f.goals.length c4]] w (ValPost (.agg #[.slice A1 f.lo.length c1, .slice A2 f.hi.length c2]) w) := by
  go_enter Try.func18, Try.ntmps18
  go_wp2
  exact bodyPost_ret (v := .agg #[.slice A1 f.lo.length c1, .slice A2 f.hi.length c2]) (by simp [results, Try.results18, go_sem]) rfl ⟨rfl, ((Below.refl _ _).alloc (Nat.le_refl _) _).alloc (by simp) _⟩

theorem checkFit_bad {f : Fit} (h : validF f = false) : checkFit f = 8 := by unfold checkFit; rw [if_neg (by rw [h]; decide)]
theorem checkFit_ok {f : Fit} (h : validF f = true) : checkFit f = if 20000 < manyF 1 f.lo f.hi then 4 else 0 := by unfold checkFit; rw [if_pos h]
set_option maxRecDepth 100000 in
set_option maxHeartbeats 2000000 in
theorem fCheck_calls (f : Fit) (A1 : Option Addr) (c1 : Nat) (A2 : Option Addr) (c2 : Nat) (A3 : Option Addr) (c3 : Nat) (A4 : Option Addr) (c4 : Nat) (w : World) (h : FitAt f (Old w) w A1 c1 A2 c2 A3 c3 A4 c4) : Calls Try.prog 21 #[.agg #[.slice A1 f.lo.length c1, .slice A2 f.hi.length c2, .slice A3 f.terms.length c3, .slice A4 f.goals.length c4]] w (IntPost (checkFit f) w) := by
  obtain ⟨W0, hW0⟩ : ∃ W0, W0 = w.alloc (.cells #[.slice A1 f.lo.length c1, .slice A2 f.hi.length c2, .slice A3 f.terms.length c3, .slice A4 f.goals.length c4] 25) := ⟨_, rfl⟩
  have hb0 : Below w.heap.size w W0 := by rw [hW0]; exact (Below.refl _ _).alloc (Nat.le_refl _) _
  have hz0 : w.heap.size + 1 ≤ W0.heap.size := by rw [hW0]; simp
  have hl0 : w.heap.size < W0.heap.size := by omega
  have hbl0 : Blk W0 w.heap.size 25 #[.slice A1 f.lo.length c1, .slice A2 f.hi.length c2, .slice A3 f.terms.length c3, .slice A4 f.goals.length c4] := by rw [hW0]; exact Blk.new _ _ _
  have h0 := h.later hb0
  have H0 := Lib.hid h0; clear h0
  have Hb0 := Lib.hid hb0; clear hb0
  have Hbl0 := Lib.hid hbl0; clear hbl0
  have HW0 := Lib.hid hW0; clear hW0
  clear h
  cases hv : validF f
  · have hf := checkFit_bad hv
    have Hf := Lib.hid hf; clear hf
    have Hv := Lib.hid hv; clear hv
    go_enter Try.func21, Try.ntmps21
    go_wp2_with fail
    rw [← HW0.out]
    refine (valid_calls f A1 c1 A2 c2 A3 c3 A4 c4 W0 H0.out).mono ?_
    rintro e w1 ⟨rfl, hb1⟩
    rw [Hv.out]
    have hbw := Hb0.out.trans (hb1.mono (by omega))
    have Hbw := Lib.hid hbw; clear hbw
    clear hb1
    go_wp2
    go_ret
    exact ⟨by rw [Hf.out]; rfl, Hbw.out⟩
  · have hf := checkFit_ok hv
    obtain ⟨p1, p2, p3, p4, p5, p6, p7⟩ := valid_parts hv
    have Hf := Lib.hid hf; clear hf
    have Hv := Lib.hid hv; clear hv
    have P3 := Lib.hid p3; clear p3
    have P6 := Lib.hid p6; clear p6
    clear p4 p5 p7
    go_enter Try.func21, Try.ntmps21
    go_wp2_with fail
    rw [← HW0.out]
    refine (valid_calls f A1 c1 A2 c2 A3 c3 A4 c4 W0 H0.out).mono ?_
    rintro e w1 ⟨rfl, hb1⟩
    rw [Hv.out]
    obtain ⟨x0, x1, x2, x3⟩ := (Hbl0.out.same (hb1.block _ hl0)).four
    have hz1 := hb1.size
    have Hb1 := Lib.hid hb1
    clear hb1
    go_wp2_with fail
    refine (whole_calls f A1 c1 A2 c2 A3 c3 A4 c4 w1).mono ?_
    rintro e w2 ⟨rfl, hb2⟩
    have Hb2 := Lib.hid (Hb1.out.trans (hb2.mono hz1))
    have hz2 := Hb2.out.size
    clear hb2 x0 x1 x2 x3
    go_wp2_with fail
    refine (many_calls f.lo f.hi A1 c1 A2 c2 w2 (H0.out.l.later Hb2.out) (H0.out.h.later Hb2.out) P3.out P6.out).mono ?_
    rintro e w3 ⟨rfl, hb3⟩
    have hbw := Hb0.out.trans ((Hb2.out.trans (hb3.mono hz2)).mono (by omega))
    have Hbw := Lib.hid hbw; clear hbw
    clear hb3
    by_cases hm : 20000 < manyF 1 f.lo f.hi
    · go_wp2
      go_ret
      exact ⟨by rw [Hf.out, if_pos (by omega)]; rfl, Hbw.out⟩
    · go_wp2
      go_ret
      exact ⟨by rw [Hf.out, if_neg (by omega)]; rfl, Hbw.out⟩

set_option maxRecDepth 100000 in
set_option maxHeartbeats 2000000 in
theorem refFCheck_calls (f : Fit) (A1 : Option Addr) (c1 : Nat) (A2 : Option Addr) (c2 : Nat) (A3 : Option Addr) (c3 : Nat) (A4 : Option Addr) (c4 : Nat) (w : World) (h : FitAt f (Old w) w A1 c1 A2 c2 A3 c3 A4 c4) : Calls Try.prog 25 #[.agg #[.slice A1 f.lo.length c1, .slice A2 f.hi.length c2, .slice A3 f.terms.length c3, .slice A4 f.goals.length c4]] w (IntPost (checkFit f) w) := by
  obtain ⟨W0, hW0⟩ : ∃ W0, W0 = w.alloc (.cells #[.slice A1 f.lo.length c1, .slice A2 f.hi.length c2, .slice A3 f.terms.length c3, .slice A4 f.goals.length c4] 25) := ⟨_, rfl⟩
  have hb0 : Below w.heap.size w W0 := by rw [hW0]; exact (Below.refl _ _).alloc (Nat.le_refl _) _
  have hz0 : w.heap.size + 1 ≤ W0.heap.size := by rw [hW0]; simp
  have hl0 : w.heap.size < W0.heap.size := by omega
  have hbl0 : Blk W0 w.heap.size 25 #[.slice A1 f.lo.length c1, .slice A2 f.hi.length c2, .slice A3 f.terms.length c3, .slice A4 f.goals.length c4] := by rw [hW0]; exact Blk.new _ _ _
  have h0 := h.later hb0
  have H0 := Lib.hid h0; clear h0
  have Hb0 := Lib.hid hb0; clear hb0
  have Hbl0 := Lib.hid hbl0; clear hbl0
  have HW0 := Lib.hid hW0; clear hW0
  clear h
  cases hv : validF f
  · have hf := checkFit_bad hv
    have Hf := Lib.hid hf; clear hf
    have Hv := Lib.hid hv; clear hv
    go_enter Try.func25, Try.ntmps25
    go_wp2_with fail
    rw [← HW0.out]
    refine (refValid_calls f A1 c1 A2 c2 A3 c3 A4 c4 W0 H0.out).mono ?_
    rintro e w1 ⟨rfl, hb1⟩
    rw [Hv.out]
    have hbw := Hb0.out.trans (hb1.mono (by omega))
    have Hbw := Lib.hid hbw; clear hbw
    clear hb1
    go_wp2
    go_ret
    exact ⟨by rw [Hf.out]; rfl, Hbw.out⟩
  · have hf := checkFit_ok hv
    obtain ⟨p1, p2, p3, p4, p5, p6, p7⟩ := valid_parts hv
    have Hf := Lib.hid hf; clear hf
    have Hv := Lib.hid hv; clear hv
    have P3 := Lib.hid p3; clear p3
    have P6 := Lib.hid p6; clear p6
    clear p4 p5 p7
    go_enter Try.func25, Try.ntmps25
    go_wp2_with fail
    rw [← HW0.out]
    refine (refValid_calls f A1 c1 A2 c2 A3 c3 A4 c4 W0 H0.out).mono ?_
    rintro e w1 ⟨rfl, hb1⟩
    rw [Hv.out]
    obtain ⟨x0, x1, x2, x3⟩ := (Hbl0.out.same (hb1.block _ hl0)).four
    have hz1 := hb1.size
    have Hb1 := Lib.hid hb1
    clear hb1
    go_wp2_with fail
    refine (refMany_calls f.lo f.hi A1 c1 A2 c2 w1 (H0.out.l.later Hb1.out) (H0.out.h.later Hb1.out) P3.out P6.out).mono ?_
    rintro e w3 ⟨rfl, hb3⟩
    have hbw := Hb0.out.trans ((Hb1.out.trans (hb3.mono hz1)).mono (by omega))
    have Hbw := Lib.hid hbw; clear hbw
    clear hb3
    by_cases hm : 20000 < manyF 1 f.lo f.hi
    · go_wp2
      go_ret
      exact ⟨by rw [Hf.out, if_pos (by omega)]; rfl, Hbw.out⟩
    · go_wp2
      go_ret
      exact ⟨by rw [Hf.out, if_neg (by omega)]; rfl, Hbw.out⟩
end Go.Proofs.Ytfeafembifdklaa
