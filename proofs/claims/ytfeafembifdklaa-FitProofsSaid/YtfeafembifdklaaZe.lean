/-
  Layer 43: the walk of lower.
-/
import Derived.Test.YtfeafembifdklaaZd
namespace Go.Proofs.Ytfeafembifdklaa
open Go.RowKit Go.Sort


theorem boundF_step {ts : List Frm} {gs lo hi : List Int} {t : Frm} {g : Int} {k : Nat} (h1 : ts.drop k = t :: ts.drop (k + 1)) (h2 : gs.drop k = g :: gs.drop (k + 1)) :
    boundF (ts.drop k) (gs.drop k) lo hi = boundT t g lo hi + boundF (ts.drop (k + 1)) (gs.drop (k + 1)) lo hi := by rw [h1, h2]; rfl
theorem boundF_end {ts : List Frm} {gs lo hi : List Int} {k : Nat} (h : ¬ k < ts.length) : boundF (ts.drop k) (gs.drop k) lo hi = 0 := by rw [drop_end h]; rfl
theorem boundT_bd {t : Frm} {g : Int} {lo hi : List Int} (h : RangeOk t lo hi) (h0 : -1000000000 ≤ g) (h1 : g ≤ 1000000000) : 0 ≤ boundT t g lo hi ∧ boundT t g lo hi ≤ 4002001000000 := by
  have := range_bd h
  unfold boundT; omega
theorem allT_get {n : Nat} : ∀ {ts : List Frm} {gs : List Int}, allT n ts gs = true → ∀ (k : Nat) (t : Frm) (g : Int), ts[k]? = some t → gs[k]? = some g → okT n t g = true
  | [], _, _, k, t, g, h1, _ => by simp at h1
  | _ :: _, [], _, k, t, g, _, h2 => by simp at h2
  | a :: ts, b :: gs, h, 0, t, g, h1, h2 => by
    unfold allT at h
    simp at h1 h2; subst h1 h2
    exact (Bool.and_eq_true_iff.1 h).1
  | a :: ts, b :: gs, h, k + 1, t, g, h1, h2 => by
    unfold allT at h
    exact allT_get (Bool.and_eq_true_iff.1 h).2 k t g (by simpa using h1) (by simpa using h2)
theorem okT_iff {n : Nat} {t : Frm} {g : Int} (h : okT n t g = true) : formF t n = true ∧ -1000000000 ≤ g ∧ g ≤ 1000000000 := by
  unfold okT at h; simp only [Bool.and_eq_true, decide_eq_true_eq] at h; exact ⟨h.1.1, h.1.2, h.2⟩
theorem max_if (x y : Int) : (if (if x < y then y else x) < 0 then 0 else if x < y then y else x) = max (max x y) 0 := by
  split <;> split <;> omega
/-- a cube that a valid fit's bounds can be asked for -/
structure CubOk (f : Fit) (lo hi : List Int) : Prop where
  v : validF f = true
  l : lo.length = f.lo.length
  h : hi.length = f.lo.length
  b : allB lo hi = true
theorem CubOk.term {f : Fit} {lo hi : List Int} (h : CubOk f lo hi) {k : Nat} {t : Frm} {g : Int} (h1 : f.terms[k]? = some t) (h2 : f.goals[k]? = some g) : RangeOk t lo hi ∧ -1000000000 ≤ g ∧ g ≤ 1000000000 := by
  obtain ⟨p1, p2, p3, p4, p5, p6, p7⟩ := valid_parts h.v
  obtain ⟨q1, q2, q3⟩ := okT_iff (allT_get p7 k t g h1 h2)
  rw [← h.l] at q1
  exact ⟨rangeOk q1 (h.h.trans h.l.symm) h.b (by rw [h.l]; exact p2), q2, q3⟩

set_option maxRecDepth 100000 in
set_option maxHeartbeats 4000000 in
theorem lower_calls (f : Fit) (A1 : Option Addr) (c1 : Nat) (A2 : Option Addr) (c2 : Nat) (A3 : Option Addr) (c3 : Nat) (A4 : Option Addr) (c4 : Nat) (lo hi : List Int) (B1 : Option Addr) (d1 : Nat) (B2 : Option Addr) (d2 : Nat) (w : World) (h : FitAt f (Old w) w A1 c1 A2 c2 A3 c3 A4 c4) (hl : SlAt (pI .i64) (Old w) w B1 d1 lo) (hh : SlAt (pI .i64) (Old w) w B2 d2 hi) (hok : CubOk f lo hi) :
    Calls Try.prog 16 #[.agg #[.slice A1 f.lo.length c1, .slice A2 f.hi.length c2, .slice A3 f.terms.length c3, .slice A4 f.goals.length c4], .agg #[.slice B1 lo.length d1, .slice B2 hi.length d2]] w (IntPost (boundF f.terms f.goals lo hi) w) := by
  have m1 := h.l.lenle
  have m2 := h.h.lenle
  have m3 := h.t.lenle
  have m4 := h.g.lenle
  obtain ⟨W0, hW0⟩ : ∃ W0, W0 = (w.alloc (.cells #[.slice A1 f.lo.length c1, .slice A2 f.hi.length c2, .slice A3 f.terms.length c3, .slice A4 f.goals.length c4] 25)).alloc (.cells #[.slice B1 lo.length d1, .slice B2 hi.length d2] 40) := ⟨_, rfl⟩
  have hb0 : Below w.heap.size w W0 := by rw [hW0]; exact ((Below.refl _ _).alloc (Nat.le_refl _) _).alloc (by simp) _
  have hz0 : W0.heap.size = w.heap.size + 2 := by rw [hW0]; simp
  have hbf : Blk W0 w.heap.size 25 #[.slice A1 f.lo.length c1, .slice A2 f.hi.length c2, .slice A3 f.terms.length c3, .slice A4 f.goals.length c4] := by rw [hW0]; exact (Blk.new _ _ _).alloc _
  have hbc : Blk W0 (w.heap.size + 1) 40 #[.slice B1 lo.length d1, .slice B2 hi.length d2] := by
    rw [hW0]
    have := Blk.new (w.alloc (.cells #[.slice A1 f.lo.length c1, .slice A2 f.hi.length c2, .slice A3 f.terms.length c3, .slice A4 f.goals.length c4] 25)) 40 #[.slice B1 lo.length d1, .slice B2 hi.length d2]
    rwa [show (w.alloc (.cells #[.slice A1 f.lo.length c1, .slice A2 f.hi.length c2, .slice A3 f.terms.length c3, .slice A4 f.goals.length c4] 25)).heap.size = w.heap.size + 1 from by simp] at this
  have h0 := h.later hb0
  have h1 := hl.later hb0
  have h2 := hh.later hb0
  have hzl : w.heap.size + 1 < W0.heap.size := by omega
  have h5 : f.goals.length = f.terms.length := (valid_parts hok.v).2.2.2.2.1
  have h20 : f.terms.length ≤ 20 := (valid_parts hok.v).2.2.2.1
  have H0 := Lib.hid h0; clear h0
  have H1 := Lib.hid h1; clear h1
  have H2 := Lib.hid h2; clear h2
  have Hb0 := Lib.hid hb0; clear hb0
  have Hbf := Lib.hid hbf; clear hbf
  have Hbc := Lib.hid hbc; clear hbc
  have Hz0 := Lib.hid hz0; clear hz0
  have HW0 := Lib.hid hW0; clear hW0
  have Hok := Lib.hid hok; clear hok
  have H5 := Lib.hid h5; clear h5
  clear h hl hh
  go_enter Try.func16, Try.ntmps16
  go_wp2
  rw [← HW0.out]
  go_loopw [12, 5] (fun i s wr => ∃ k : Nat, k ≤ f.terms.length ∧ i = .int .i64 k ∧ ∃ a : Int, s = .int .i64 a ∧ 0 ≤ a ∧ a ≤ k * 5000000000000 ∧ Hid (Below W0.heap.size W0 wr) ∧ W0.heap.size ≤ wr.heap.size ∧ Hid (boundF f.terms f.goals lo hi = a + boundF (f.terms.drop k) (f.goals.drop k) lo hi)) (fun i _ _ => f.terms.length - (intOf i).toNat)
  case atStart => exact ⟨0, Nat.zero_le _, rfl, 0, rfl, by omega, by omega, Below.refl _ _, Nat.le_refl _, by unfold Hid; simp⟩
  case round =>
    obtain ⟨k, hk, rfl, a, rfl, ha0, ha1, hb, hsz, hall⟩ := hrel
    obtain ⟨wo, rfl⟩ : ∃ wo : World, wo = wr := ⟨_, rfl⟩
    have hbw : Below w.heap.size w wo := Hb0.out.trans (hb.out.mono (by omega))
    have Hbw := Lib.hid hbw; clear hbw
    by_cases hlt : k < f.terms.length
    · have hlt' : k < f.goals.length := by rw [H5.out]; exact hlt
      have hf2 := H0.out.later hb.out
      obtain ⟨b, o, A, c, t, hd, rfl, hob, hs0, hs1, hsc, hsa, hsl⟩ := hf2.t.getFrm hlt
      obtain ⟨b', o', g, hdg, rfl, hob', hcg, hfg⟩ := hf2.g.getI hlt'
      have hob1 : b < wo.heap.size := hob
      have hob2 : b' < wo.heap.size := hob'
      obtain ⟨hro, hg0, hg1⟩ := Hok.out.term (get_of_drop hd.out) (get_of_drop hdg.out)
      have hbd := range_bd hro
      have hbt := boundT_bd hro hg0 hg1
      have step := boundF_step (lo := lo) (hi := hi) hd.out hdg.out
      obtain ⟨x0, x1, x2, x3⟩ := (Hbf.out.same (hb.out.block _ (by omega))).four
      obtain ⟨y0, y1⟩ := (Hbc.out.same (hb.out.block _ hzl)).two
      have hwl : w.heap.size < wo.heap.size := by omega
      have hwl1 : w.heap.size + 1 < wo.heap.size := by omega
      have hcall : ∀ W : World, Below wo.heap.size wo W → Calls Try.prog 30 #[.agg #[.int .i64 t.const, .slice A t.coefs.length c], .agg #[.slice B1 lo.length d1, .slice B2 hi.length d2]] W (ValPost (.agg #[.int .i64 (lowT t lo hi), .int .i64 (highT t lo hi)]) W) := fun W hW =>
        ranges_calls t lo hi A c B1 d1 B2 d2 W (hsa.out.later hW) ((H1.out.later hb.out).later hW) ((H2.out.later hb.out).later hW) hro
      have hbt2 : boundT t g lo hi = max (max (g - highT t lo hi) (lowT t lo hi - g)) 0 := rfl
      obtain ⟨lv, hlv⟩ : ∃ lv, lowT t lo hi = lv := ⟨_, rfl⟩
      obtain ⟨hv, hhv⟩ : ∃ hv, highT t lo hi = hv := ⟨_, rfl⟩
      rw [hlv, hhv] at hbd hcall hbt2
      have Hcall := Lib.hid hcall; clear hcall
      have Step := Lib.hid step; clear step
      have Hro := Lib.hid hro; clear hro
      have Hbt2 := Lib.hid hbt2; clear hbt2
      have Hlv := Lib.hid hlv; clear hlv
      have Hhv := Lib.hid hhv; clear hhv
      have Hf2 := Lib.hid hf2; clear hf2
      clear x0 x1 x2
      go_wp2_with fail
      refine (Hcall.out _ ((Below.refl _ _).alloc (Nat.le_refl _) _)).mono ?_
      rintro e w5 ⟨rfl, hb5⟩
      have hbo5 : Below wo.heap.size wo w5 := ((Below.refl _ _).alloc (Nat.le_refl _) _).trans (hb5.mono (by simp))
      have z3 := (hbo5.cell (p := ⟨w.heap.size, 3, none⟩) hwl).trans x3
      have zg := (hbo5.cell (p := ⟨b', o' + k, none⟩) hob2).trans hcg
      have hz5 := hbo5.size
      have hwl5 : w.heap.size < w5.heap.size := by omega
      have hbl5 : b' < w5.heap.size := by omega
      have hk0 : (0 : Int) ≤ (k : Int) := Int.natCast_nonneg _
      have hk1 : (k : Int) < (f.goals.length : Int) := by omega
      have e1 : IntKind.i64.wrap (g - hv) = g - hv := IntWalk.i64_in _ (by omega)
      have e2 : IntKind.i64.wrap (lv - g) = lv - g := IntWalk.i64_in _ (by omega)
      have e3 : IntKind.i64.wrap (a + max (max (g - hv) (lv - g)) 0) = a + max (max (g - hv) (lv - g)) 0 := IntWalk.i64_in _ (by omega)
      have hb6 : ∀ n, Below W0.heap.size W0 ((w5.alloc (.cells #[.int .i64 lv, .int .i64 hv] 61)).drewN n) := fun n => below_drewN ((hb.out.trans (hbo5.mono hsz)).alloc (by omega) _) n
      have Hbo5 := Lib.hid hbo5; clear hbo5
      have Hb6 := Lib.hid hb6; clear hb6
      clear hb5 x3 hs0 hs1 hcg y0 y1
      go_wp2
      go_quiet (fail)
      clear e1 e2 e3
      go_wp2
      go_roundw
      case rel =>
        refine ⟨k + 1, by omega, by go_num, a + max (max (g - hv) (lv - g)) 0, by rw [max_if], by omega, by have := Hbt2.out; omega, Hb6.out _, by have := (Hb6.out 0).size; simpa using this, ?_⟩
        unfold Hid; rw [hall.out, Step.out, Hbt2.out]; omega
      case measure => simp [intOf]; omega
    · have hf : boundF f.terms f.goals lo hi = a := by rw [hall.out, boundF_end hlt]; omega
      obtain ⟨x0, x1, x2, x3⟩ := (Hbf.out.same (hb.out.block _ (by omega))).four
      have Hf := Lib.hid hf; clear hf
      go_wp2
      go_ret
      exact ⟨by rw [Hf.out]; rfl, Hbw.out⟩
end Go.Proofs.Ytfeafembifdklaa
