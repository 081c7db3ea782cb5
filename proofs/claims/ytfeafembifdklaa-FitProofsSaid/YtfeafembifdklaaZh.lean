/-
  Layer 43: the walks of the reference's sum, Bound, Lower and Cost.
-/
import Derived.Test.YtfeafembifdklaaZg
namespace Go.Proofs.Ytfeafembifdklaa
open Go.RowKit Go.Sort


theorem sumF_end {ts : List Frm} {gs x : List Int} {k : Nat} (h : ¬ k < ts.length) : sumF (ts.drop k) (gs.drop k) x = 0 := by rw [drop_end h]; rfl
set_option maxRecDepth 100000 in
set_option maxHeartbeats 4000000 in
theorem sum_calls (f : Fit) (A1 : Option Addr) (c1 : Nat) (A2 : Option Addr) (c2 : Nat) (A3 : Option Addr) (c3 : Nat) (A4 : Option Addr) (c4 : Nat) (x : List Int) (B1 : Option Addr) (d1 : Nat) (w : World) (h : FitAt f (Old w) w A1 c1 A2 c2 A3 c3 A4 c4) (hx : SlAt (pI .i64) (Old w) w B1 d1 x) (hok : CubOk f x x) :
    Calls Try.prog 31 #[.agg #[.slice A1 f.lo.length c1, .slice A2 f.hi.length c2, .slice A3 f.terms.length c3, .slice A4 f.goals.length c4], .slice B1 x.length d1] w (IntPost (boundF f.terms f.goals x x) w) := by
  have m3 := h.t.lenle
  have m4 := h.g.lenle
  obtain ⟨W0, hW0⟩ : ∃ W0, W0 = w.alloc (.cells #[.slice A1 f.lo.length c1, .slice A2 f.hi.length c2, .slice A3 f.terms.length c3, .slice A4 f.goals.length c4] 25) := ⟨_, rfl⟩
  have hb0 : Below w.heap.size w W0 := by rw [hW0]; exact (Below.refl _ _).alloc (Nat.le_refl _) _
  have hz0 : w.heap.size + 1 ≤ W0.heap.size := by rw [hW0]; simp
  have hl0 : w.heap.size < W0.heap.size := by omega
  have hbl0 : Blk W0 w.heap.size 25 #[.slice A1 f.lo.length c1, .slice A2 f.hi.length c2, .slice A3 f.terms.length c3, .slice A4 f.goals.length c4] := by rw [hW0]; exact Blk.new _ _ _
  have h0 := h.later hb0
  have h1 := hx.later hb0
  have h5 : f.goals.length = f.terms.length := (valid_parts hok.v).2.2.2.2.1
  have h20 : f.terms.length ≤ 20 := (valid_parts hok.v).2.2.2.1
  have hargs := allB_args x hok.b
  have H0 := Lib.hid h0; clear h0
  have H1 := Lib.hid h1; clear h1
  have Hb0 := Lib.hid hb0; clear hb0
  have Hbl0 := Lib.hid hbl0; clear hbl0
  have HW0 := Lib.hid hW0; clear hW0
  have Hok := Lib.hid hok; clear hok
  have H5 := Lib.hid h5; clear h5
  have Hargs := Lib.hid hargs; clear hargs
  clear h hx
  go_enter Try.func31, Try.ntmps31
  go_wp2
  rw [← HW0.out]
  go_loopw [6, 5] (fun i s wr => ∃ k : Nat, k ≤ f.terms.length ∧ i = .int .i64 k ∧ ∃ a : Int, s = .int .i64 a ∧ 0 ≤ a ∧ a ≤ k * 5000000000000 ∧ Hid (Below W0.heap.size W0 wr) ∧ W0.heap.size ≤ wr.heap.size ∧ Hid (sumF f.terms f.goals x = a + sumF (f.terms.drop k) (f.goals.drop k) x)) (fun i _ _ => f.terms.length - (intOf i).toNat)
  case atStart => exact ⟨0, Nat.zero_le _, rfl, 0, rfl, by omega, by omega, Below.refl _ _, Nat.le_refl _, by unfold Hid; simp⟩
  case round =>
    obtain ⟨k, hk, rfl, a, rfl, ha0, ha1, hb, hsz, hall⟩ := hrel
    obtain ⟨wo, rfl⟩ : ∃ wo : World, wo = wr := ⟨_, rfl⟩
    have hbw : Below w.heap.size w wo := Hb0.out.trans (hb.out.mono (by omega))
    obtain ⟨x0, x1, x2, x3⟩ := (Hbl0.out.same (hb.out.block _ (by omega))).four
    clear x0 x1
    have Hbw := Lib.hid hbw; clear hbw
    by_cases hlt : k < f.terms.length
    · have hlt' : k < f.goals.length := by rw [H5.out]; exact hlt
      have hf2 := H0.out.later hb.out
      obtain ⟨b, o, A, c, t, hd, rfl, hob, hs0, hs1, hsc, hsa, hsl⟩ := hf2.t.getFrm hlt
      obtain ⟨b', o', g, hdg, rfl, hob', hcg, hfg⟩ := hf2.g.getI hlt'
      obtain ⟨hro, hg0, hg1⟩ := Hok.out.term (get_of_drop hd.out) (get_of_drop hdg.out)
      have hbt := boundT_bd hro hg0 hg1
      rw [boundT_point] at hbt
      have step := sumF_step (x := x) hd.out hdg.out
      have hso : SumOk t x := ⟨hro.c, hro.k, hro.n, Hargs.out, hro.l⟩
      have hk0 : (0 : Int) ≤ (k : Int) := Int.natCast_nonneg _
      have hk1 : (k : Int) < (f.goals.length : Int) := by omega
      have hk2 : (k : Int) < (f.terms.length : Int) := by omega
      have kx0 := cell_regrown hs0
      have kx1 := cell_regrown hs1
      have kx2 := cell_regrown x2
      have kx3 := cell_regrown x3
      have kg := cell_regrown hcg
      have hcall : ∀ (q : Nat) (os : Array Obj), Calls Try.prog 36 #[.agg #[.int .i64 t.const, .slice A t.coefs.length c], .slice B1 x.length d1] (grow (redrawn wo q) os) fun e w'' => e = .returned (.int .i64 (worthF t x)) ∧ ∃ p : Regrown, w'' = grow (redrawn wo p.d) p.os := fun q os =>
        have hg := below_regrown wo q os
        Calls.regrown_of (refWorth_calls (F := Old wo) A c t B1 d1 x _ (hsa.out.below hg) ((H1.out.later hb.out).below hg) (fun q hq => Nat.lt_of_lt_of_le hq hg.size) hso)
      obtain ⟨v, hvv⟩ : ∃ v, worthF t x = v := ⟨_, rfl⟩
      rw [hvv] at hbt hcall step
      obtain ⟨hbt0, hbt1⟩ := hbt
      have hv0 : -4100000000000 ≤ v ∧ v ≤ 4100000000000 := by omega
      have hcall2 : ∀ (q : Nat) (os : Array Obj), Calls Try.prog 35 #[.int .i64 (v - g)] (grow (redrawn wo q) os) fun e w'' => e = .returned (.int .i64 (max (v - g) (-(v - g)))) ∧ ∃ p : Regrown, w'' = grow (redrawn wo p.d) p.os := fun q os =>
        (size_calls (v - g) _ (by omega)).mono fun _ _ ⟨he, hw⟩ => ⟨he, ⟨q, os⟩, hw.symm⟩
      obtain ⟨m, hm⟩ : ∃ m, max (v - g) (-(v - g)) = m := ⟨_, rfl⟩
      rw [hm] at hcall2 step hbt0 hbt1
      have e1 : IntKind.i64.wrap (v - g) = v - g := IntWalk.i64_in _ (by omega)
      have e2 : IntKind.i64.wrap (a + m) = a + m := IntWalk.i64_in _ (by omega)
      have Hcall := Lib.hid hcall; clear hcall
      have Hcall2 := Lib.hid hcall2; clear hcall2
      have Step := Lib.hid step; clear step
      have Hro := Lib.hid hro; clear hro
      have Hso := Lib.hid hso; clear hso
      have Hvv := Lib.hid hvv; clear hvv
      have Hf2 := Lib.hid hf2; clear hf2
      have Hm := Lib.hid hm; clear hm
      clear hs0 hs1 hcg x3
      go_wp2
      clear x2
      refine wp_region_quiet_below (by kernel_rfl) (by kernel_rfl) ?_
      repeat (quiet_step (first | exact Hcall.out _ _ | exact Hcall2.out _ _))
      refine wpQuiet_nil ?_
      intro _ hw'
      obtain ⟨⟨dq, osq⟩, hw''⟩ := hw'
      subst hw''
      have hbr := below_regrown wo dq osq
      have hzr := hbr.size
      have hb1 : Below W0.heap.size W0 (grow (redrawn wo dq) osq) := hb.out.trans (hbr.mono hsz)
      have Hb1 := Lib.hid hb1; clear hb1
      clear hbr e1 e2 kx0 kx1 kx2 kx3 kg
      go_wp2
      go_roundw
      case rel =>
        refine ⟨k + 1, by omega, by go_num, a + m, rfl, by omega, by omega, Hb1, by omega, ?_⟩
        unfold Hid; rw [hall.out, Step.out]; omega
      case measure => simp [intOf]; omega
    · have hf : boundF f.terms f.goals x x = a := by rw [← sumF_bound, hall.out, sumF_end hlt]; omega
      have Hf := Lib.hid hf; clear hf
      go_wp2
      go_ret
      exact ⟨by rw [Hf.out]; rfl, Hbw.out⟩

set_option maxRecDepth 100000 in
set_option maxHeartbeats 8000000 in
theorem bound_calls (f : Fit) (A1 : Option Addr) (c1 : Nat) (A2 : Option Addr) (c2 : Nat) (A3 : Option Addr) (c3 : Nat) (A4 : Option Addr) (c4 : Nat) (lo hi : List Int) (B1 : Option Addr) (d1 : Nat) (B2 : Option Addr) (d2 : Nat) (w : World) (h : FitAt f (Old w) w A1 c1 A2 c2 A3 c3 A4 c4) (hl : SlAt (pI .i64) (Old w) w B1 d1 lo) (hh : SlAt (pI .i64) (Old w) w B2 d2 hi) (hok : CubOk f lo hi) :
    Calls Try.prog 27 #[.agg #[.slice A1 f.lo.length c1, .slice A2 f.hi.length c2, .slice A3 f.terms.length c3, .slice A4 f.goals.length c4], .agg #[.slice B1 lo.length d1, .slice B2 hi.length d2]] w (IntPost (boundF f.terms f.goals lo hi) w) := by
  have m1 := hl.lenle
  have m2 := hh.lenle
  have m3 := h.t.lenle
  have m4 := h.g.lenle
  obtain ⟨W0, hW0⟩ : ∃ W0, W0 = (w.alloc (.cells #[.slice A1 f.lo.length c1, .slice A2 f.hi.length c2, .slice A3 f.terms.length c3, .slice A4 f.goals.length c4] 25)).alloc (.cells #[.slice B1 lo.length d1, .slice B2 hi.length d2] 40) := ⟨_, rfl⟩
  have hb0 : Below w.heap.size w W0 := by rw [hW0]; exact ((Below.refl _ _).alloc (Nat.le_refl _) _).alloc (by simp) _
  have hz0 : W0.heap.size = w.heap.size + 2 := by rw [hW0]; simp
  have hbf : Blk W0 w.heap.size 25 #[.slice A1 f.lo.length c1, .slice A2 f.hi.length c2, .slice A3 f.terms.length c3, .slice A4 f.goals.length c4] := by rw [hW0]; exact (Blk.new _ _ _).alloc _
  have hbc : Blk W0 (w.heap.size + 1) 40 #[.slice B1 lo.length d1, .slice B2 hi.length d2] := by
    rw [hW0]
    have := Blk.new (w.alloc (.cells #[.slice A1 f.lo.length c1, .slice A2 f.hi.length c2, .slice A3 f.terms.length c3, .slice A4 f.goals.length c4] 25)) 40 #[.slice B1 lo.length d1, .slice B2 hi.length d2]
    rwa [show (w.alloc (.cells #[.slice A1 f.lo.length c1, .slice A2 f.hi.length c2, .slice A3 f.terms.length c3, .slice A4 f.goals.length c4] 25)).heap.size = w.heap.size + 1 from by simp] at this
  have h0 := h.later hb0
  have h1 := hl.later hb0
  have h2 := hh.later hb0
  have hzl : w.heap.size + 1 < W0.heap.size := by omega
  have h5 : f.goals.length = f.terms.length := (valid_parts hok.v).2.2.2.2.1
  have h20 : f.terms.length ≤ 20 := (valid_parts hok.v).2.2.2.1
  have hlen : hi.length = lo.length := hok.h.trans hok.l.symm
  have hl4 : lo.length ≤ 4 := by rw [hok.l]; exact (valid_parts hok.v).2.1
  have cells : ∀ W : World, Below W0.heap.size W0 W → (W.cell? ⟨w.heap.size, 2, none⟩ = some (.slice A3 f.terms.length c3) ∧ W.cell? ⟨w.heap.size, 3, none⟩ = some (.slice A4 f.goals.length c4)) ∧
      W.cell? ⟨w.heap.size + 1, 0, none⟩ = some (.slice B1 lo.length d1) ∧ W.cell? ⟨w.heap.size + 1, 1, none⟩ = some (.slice B2 hi.length d2) := fun W hW => ⟨⟨(hbf.same (hW.block _ (by omega))).four.2.2.1, (hbf.same (hW.block _ (by omega))).four.2.2.2⟩, (hbc.same (hW.block _ hzl)).two⟩
  have hab := hok.b
  have H0 := Lib.hid h0; clear h0
  have H1 := Lib.hid h1; clear h1
  have H2 := Lib.hid h2; clear h2
  have Hb0 := Lib.hid hb0; clear hb0
  have Hbf := Lib.hid hbf; clear hbf
  have Hbc := Lib.hid hbc; clear hbc
  have Hz0 := Lib.hid hz0; clear hz0
  have HW0 := Lib.hid hW0; clear hW0
  have Hok := Lib.hid hok; clear hok
  have H5 := Lib.hid h5; clear h5
  have Cells := Lib.hid cells; clear cells
  have Hlen := Lib.hid hlen; clear hlen
  have Hab := Lib.hid hab; clear hab
  clear h hl hh
  go_enter Try.func27, Try.ntmps27
  go_wp2
  rw [← HW0.out]
  go_loopw [6, 5] (fun i s wr => ∃ k : Nat, k ≤ f.terms.length ∧ i = .int .i64 k ∧ ∃ a : Int, s = .int .i64 a ∧ 0 ≤ a ∧ a ≤ k * 5000000000000 ∧ Hid (∃ n, wr = W0.drewN n) ∧ Hid (boundF f.terms f.goals lo hi = a + boundF (f.terms.drop k) (f.goals.drop k) lo hi)) (fun i _ _ => f.terms.length - (intOf i).toNat)
  case atStart => exact ⟨0, Nat.zero_le _, rfl, 0, rfl, by omega, by omega, ⟨0, rfl⟩, by unfold Hid; simp⟩
  case round =>
    obtain ⟨k, hk, rfl, a, rfl, ha0, ha1, hdr, hall⟩ := hrel
    obtain ⟨wo, rfl⟩ : ∃ wo : World, wo = wr := ⟨_, rfl⟩
    have hb : Below W0.heap.size W0 wo := by obtain ⟨n, rfl⟩ := hdr.out; exact below_drewN (Below.refl _ _) n
    have hbw : Below w.heap.size w wo := Hb0.out.trans (hb.mono (by omega))
    obtain ⟨⟨x2, x3⟩, y0, y1⟩ := Cells.out wo hb
    by_cases hlt : k < f.terms.length
    · have hlt' : k < f.goals.length := by rw [H5.out]; exact hlt
      have hf2 := H0.out.below hb
      obtain ⟨b, o, A, c, t, hd, rfl, hob, hs0, hs1, hsc, hsa, hsl⟩ := hf2.t.getFrm hlt
      obtain ⟨b', o', g, hdg, rfl, hob', hcg, hfg⟩ := hf2.g.getI hlt'
      obtain ⟨hro, hg0, hg1⟩ := Hok.out.term (get_of_drop hd.out) (get_of_drop hdg.out)
      have hbd := range_bd hro
      have hbt := boundT_bd hro hg0 hg1
      have step := boundF_step (lo := lo) (hi := hi) hd.out hdg.out
      have hbt2 : boundT t g lo hi = max (max (g - highT t lo hi) (lowT t lo hi - g)) 0 := rfl
      have hk0 : (0 : Int) ≤ (k : Int) := Int.natCast_nonneg _
      have hk1 : (k : Int) < (f.goals.length : Int) := by omega
      have hk2 : (k : Int) < (f.terms.length : Int) := by omega
      obtain ⟨tc0, tc1⟩ := hro.c
      have htn : t.coefs.length = lo.length := hro.n
      have htk := hro.k
      obtain ⟨lv, hlv⟩ : ∃ lv, lowT t lo hi = lv := ⟨_, rfl⟩
      obtain ⟨hv, hhv⟩ : ∃ hv, highT t lo hi = hv := ⟨_, rfl⟩
      rw [hlv, hhv] at hbd hbt2
      have hwd : ∀ n, Hid (∃ m, wo.drewN n = W0.drewN m) := fun n => by obtain ⟨m, rfl⟩ := hdr.out; exact ⟨_, World.drewN_drewN _ _ _⟩
      have Step := Lib.hid step; clear step
      have Hro := Lib.hid hro; clear hro
      have Hbt2 := Lib.hid hbt2; clear hbt2
      have Hlv := Lib.hid hlv; clear hlv
      have Hhv := Lib.hid hhv; clear hhv
      have Hf2 := Lib.hid hf2; clear hf2
      have Hbw := Lib.hid hbw; clear hbw
      have Hb := Lib.hid hb; clear hb
      have Htn := Lib.hid htn; clear htn
      have Htk := Lib.hid htk; clear htk
      have Hwd := Lib.hid hwd; clear hwd
      go_wp2
      go_quiet (fail)
      go_wp2
      clear x2 x3 y0 y1 hs0 hs1
      go_loopw [9, 7, 8] (fun i l r wr => ∃ j : Nat, j ≤ lo.length ∧ i = .int .i64 j ∧ ∃ p q : Int, l = .int .i64 p ∧ r = .int .i64 q ∧ -(1000000 + j * 1000000000000 : Int) ≤ p ∧ p ≤ 1000000 + j * 1000000000000 ∧ -(1000000 + j * 1000000000000 : Int) ≤ q ∧ q ≤ 1000000 + j * 1000000000000 ∧ Hid (∃ n, wr = W0.drewN n) ∧
        Hid (lowT t lo hi = p + minT (t.coefs.drop j) (lo.drop j) (hi.drop j)) ∧ Hid (highT t lo hi = q + maxT (t.coefs.drop j) (lo.drop j) (hi.drop j))) (fun i _ _ _ => lo.length - (intOf i).toNat)
      case atStart => exact ⟨0, Nat.zero_le _, rfl, t.const, t.const, rfl, rfl, by omega, by omega, by omega, by omega, Hwd.out _, rfl, rfl⟩
      case round =>
        obtain ⟨j, hj, rfl, p, q, rfl, rfl, p0, p1, q0, q1, hdr2, hlow, hhigh⟩ := hrel
        obtain ⟨wp, rfl⟩ : ∃ wp : World, wp = wr := ⟨_, rfl⟩
        have hb2 : Below W0.heap.size W0 wp := by obtain ⟨n, rfl⟩ := hdr2.out; exact below_drewN (Below.refl _ _) n
        have hkp : ∀ b : Nat, wp.heap[b]? = wo.heap[b]? := by obtain ⟨n, rfl⟩ := hdr2.out; obtain ⟨m, rfl⟩ := hdr.out; intro b; rfl
        obtain ⟨⟨x2, x3⟩, y0, y1⟩ := Cells.out wp hb2
        have cg2 : wp.cell? ⟨b', o' + k, none⟩ = some (.int .i64 g) := (cell_keep (hkp b')).trans hcg
        have hf3 := H0.out.below hb2
        obtain ⟨b3, o3, A3', c3', t3, hd3, he3, hob3, hs0, hs1, hsc3, hsa3, hsl3⟩ := hf3.t.getFrm hlt
        cases he3
        obtain rfl : t3 = t := by
          have := get_of_drop hd3.out
          rw [get_of_drop hd.out] at this
          cases this; rfl
        by_cases hlt2 : j < lo.length
        · obtain ⟨b4, o4, kk, hd4, rfl, hob4, hc4, hf4⟩ := hsa3.out.getI (i := j) (by rw [Htn.out]; exact hlt2)
          obtain ⟨b5, o5, x, hd5, rfl, hob5, hc5, hf5⟩ := (H1.out.below hb2).getI (i := j) hlt2
          obtain ⟨b6, o6, y, hd6, rfl, hob6, hc6, hf6⟩ := (H2.out.below hb2).getI (i := j) (by rw [Hlen.out]; exact hlt2)
          obtain ⟨k1, k2, k3⟩ := okB_iff.1 (allB_get Hab.out j x y (get_of_drop hd5.out) (get_of_drop hd6.out))
          have hq := Htk.out kk (mem_of_drop hd4.out)
          have hm1 := mul_bd6 hq k2 (show x ≤ 1000000 by omega)
          have hm2 := mul_bd6 hq (show -1000000 ≤ y by omega) k3
          obtain ⟨u0, u1⟩ := hm1
          obtain ⟨v0, v1⟩ := hm2
          have e1 : IntKind.i64.wrap (kk * x) = kk * x := IntWalk.i64_in _ (by omega)
          have e2 : IntKind.i64.wrap (kk * y) = kk * y := IntWalk.i64_in _ (by omega)
          have hj0 : (0 : Int) ≤ (j : Int) := Int.natCast_nonneg _
          have hj1 : (j : Int) < (lo.length : Int) := by omega
          have hj2 : (j : Int) < (hi.length : Int) := by have := Hlen.out; omega
          have hj3 : (j : Int) < (t3.coefs.length : Int) := by have := Htn.out; omega
          have s1 := minT_step hd4.out hd5.out hd6.out
          have s2 := maxT_step hd4.out hd5.out hd6.out
          have w0 : -9223372036854775808 ≤ p + min (kk * x) (kk * y) ∧ p + min (kk * x) (kk * y) ≤ 9223372036854775807 := by omega
          have w1 : -9223372036854775808 ≤ q + max (kk * x) (kk * y) ∧ q + max (kk * x) (kk * y) ≤ 9223372036854775807 := by omega
          have S1 := Lib.hid s1; clear s1
          have S2 := Lib.hid s2; clear s2
          have Hq := Lib.hid hq; clear hq
          have Hb2 := Lib.hid hb2; clear hb2
          have Hf3 := Lib.hid hf3; clear hf3
          clear hcg cg2 x3 hkp
          go_wp2
          go_quiet (fail)
          clear e1 e2
          go_wp2
          go_roundw
          case rel =>
            refine ⟨j + 1, by omega, by go_num, p + min (kk * x) (kk * y), q + max (kk * x) (kk * y), rfl, rfl, by omega, by omega, by omega, by omega, ?_, ?_, ?_⟩
            · obtain ⟨n, rfl⟩ := hdr2.out
              exact ⟨_, World.drewN_drewN _ _ _⟩
            · unfold Hid; rw [hlow.out, S1.out]; omega
            · unfold Hid; rw [hhigh.out, S2.out]; omega
          case measure => simp [intOf]; omega
        · have r1 : p = lv := by
            have := hlow.out
            rw [Hlv.out, drop_end (xs := lo) hlt2] at this
            have h0 : minT (t3.coefs.drop j) [] (hi.drop j) = 0 := by cases (t3.coefs.drop j) <;> rfl
            omega
          have r2 : q = hv := by
            have := hhigh.out
            rw [Hhv.out, drop_end (xs := lo) hlt2] at this
            have h0 : maxT (t3.coefs.drop j) [] (hi.drop j) = 0 := by cases (t3.coefs.drop j) <;> rfl
            omega
          subst r1 r2
          have e1 : IntKind.i64.wrap (g - q) = g - q := IntWalk.i64_in _ (by omega)
          have e2 : IntKind.i64.wrap (p - g) = p - g := IntWalk.i64_in _ (by omega)
          have e3 : IntKind.i64.wrap (a + max (max (g - q) (p - g)) 0) = a + max (max (g - q) (p - g)) 0 := IntWalk.i64_in _ (by have := Hbt2.out; omega)
          have Hb2 := Lib.hid hb2; clear hb2
          have Hf3 := Lib.hid hf3; clear hf3
          clear hkp hcg hs0 hs1 x2 y1
          go_wp2
          go_quiet (fail)
          clear e1 e2 e3
          go_wp2
          go_roundw
          case rel =>
            refine ⟨k + 1, by omega, by go_num, a + max (max (g - q) (p - g)) 0, congrArg (Value.int .i64) (by (repeat' split) <;> omega), by omega, by have := Hbt2.out; omega, ?_, ?_⟩
            · obtain ⟨n, rfl⟩ := hdr2.out
              exact ⟨_, World.drewN_drewN _ _ _⟩
            · unfold Hid; rw [hall.out, Step.out, Hbt2.out]; omega
          case measure => simp [intOf]; omega
    · have hf : boundF f.terms f.goals lo hi = a := by rw [hall.out, boundF_end hlt]; omega
      have Hf := Lib.hid hf; clear hf
      have Hbw := Lib.hid hbw; clear hbw
      clear hb y0 y1
      go_wp2
      go_ret
      exact ⟨by rw [Hf.out]; rfl, Hbw.out⟩

end Go.Proofs.Ytfeafembifdklaa
