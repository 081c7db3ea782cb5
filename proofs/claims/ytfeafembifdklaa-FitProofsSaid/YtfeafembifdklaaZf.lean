/-
  Layer 43: the walks of within and Cube. Printed by gen_within.py.
-/
import Derived.Test.YtfeafembifdklaaZe
namespace Go.Proofs.Ytfeafembifdklaa
open Go.RowKit Go.Sort


def okC (a b x y : Int) : Bool := decide (a ≤ x) && decide (y ≤ b) && decide (x ≤ y)
def allC : List Int → List Int → List Int → List Int → Bool
  | a :: ps, b :: bs, x :: xs, y :: ys => okC a b x y && allC ps bs xs ys
  | _, _, _, _ => true
def withinF (f : Fit) (lo hi : List Int) : Bool := lo.length == f.lo.length && hi.length == f.lo.length && allC f.lo f.hi lo hi
theorem allC_step {ps bs xs ys : List Int} {a b x y : Int} {k : Nat} (h0 : ps.drop k = a :: ps.drop (k + 1)) (h1 : bs.drop k = b :: bs.drop (k + 1)) (h2 : xs.drop k = x :: xs.drop (k + 1)) (h3 : ys.drop k = y :: ys.drop (k + 1)) :
    allC (ps.drop k) (bs.drop k) (xs.drop k) (ys.drop k) = (okC a b x y && allC (ps.drop (k + 1)) (bs.drop (k + 1)) (xs.drop (k + 1)) (ys.drop (k + 1))) := by rw [h0, h1, h2, h3]; rfl
theorem okC_no {a b x y : Int} (h : x < a ∨ b < y ∨ y < x) : okC a b x y = false := by unfold okC; simp; omega
theorem okC_yes {a b x y : Int} (h0 : ¬ x < a) (h1 : ¬ b < y) (h2 : ¬ y < x) : okC a b x y = true := by unfold okC; simp; omega
theorem within_len {f : Fit} {lo hi : List Int} (h : lo.length ≠ f.lo.length ∨ hi.length ≠ f.lo.length) : withinF f lo hi = false := by
  unfold withinF
  rcases h with h | h
  · rw [beq_false_of_ne h]; rfl
  · rw [beq_false_of_ne h, Bool.and_false]; rfl
theorem within_eq {f : Fit} {lo hi : List Int} (h1 : lo.length = f.lo.length) (h2 : hi.length = f.lo.length) : withinF f lo hi = allC f.lo f.hi lo hi := by
  unfold withinF; rw [h1, h2]; simp
theorem allC_allB : ∀ {ps bs xs ys : List Int}, ps.length = bs.length → ps.length = xs.length → ps.length = ys.length → allB ps bs = true → allC ps bs xs ys = true → allB xs ys = true
  | [], [], [], [], _, _, _, _, _ => rfl
  | a :: ps, b :: bs, x :: xs, y :: ys, h1, h2, h3, h4, h5 => by
    unfold allB at h4 ⊢
    unfold allC at h5
    rw [Bool.and_eq_true] at h4 h5 ⊢
    obtain ⟨k1, k2, k3⟩ := okB_iff.1 h4.1
    have h6 := h5.1
    unfold okC at h6
    simp only [Bool.and_eq_true, decide_eq_true_eq] at h6
    exact ⟨okB_iff.2 ⟨by omega, by omega, by omega⟩, allC_allB (by simpa using h1) (by simpa using h2) (by simpa using h3) h4.2 h5.2⟩
theorem within_ok {f : Fit} {lo hi : List Int} (hv : validF f = true) (h : withinF f lo hi = true) : CubOk f lo hi := by
  obtain ⟨p1, p2, p3, p4, p5, p6, p7⟩ := valid_parts hv
  unfold withinF at h
  simp only [Bool.and_eq_true, beq_iff_eq] at h
  exact ⟨hv, h.1.1, h.1.2, allC_allB p3.symm h.1.1.symm h.1.2.symm p6 h.2⟩

set_option maxRecDepth 100000 in
set_option maxHeartbeats 4000000 in
theorem within_calls (f : Fit) (A1 : Option Addr) (c1 : Nat) (A2 : Option Addr) (c2 : Nat) (A3 : Option Addr) (c3 : Nat) (A4 : Option Addr) (c4 : Nat) (lo hi : List Int) (B1 : Option Addr) (d1 : Nat) (B2 : Option Addr) (d2 : Nat) (w : World) (h : FitAt f (Old w) w A1 c1 A2 c2 A3 c3 A4 c4) (hl : SlAt (pI .i64) (Old w) w B1 d1 lo) (hh : SlAt (pI .i64) (Old w) w B2 d2 hi) (hf : f.hi.length = f.lo.length) (h4 : f.lo.length ≤ 4) :
    Calls Try.prog 23 #[.agg #[.slice A1 f.lo.length c1, .slice A2 f.hi.length c2, .slice A3 f.terms.length c3, .slice A4 f.goals.length c4], .agg #[.slice B1 lo.length d1, .slice B2 hi.length d2]] w (BoolPost (withinF f lo hi) w) := by
  have m1 := h.l.lenle
  have m2 := h.h.lenle
  have m5 := hl.lenle
  have m6 := hh.lenle
  obtain ⟨W0, hW0⟩ : ∃ W0, W0 = (w.alloc (.cells #[.slice A1 f.lo.length c1, .slice A2 f.hi.length c2, .slice A3 f.terms.length c3, .slice A4 f.goals.length c4] 25)).alloc (.cells #[.slice B1 lo.length d1, .slice B2 hi.length d2] 40) := ⟨_, rfl⟩
  have hb0 : Below w.heap.size w W0 := by rw [hW0]; exact ((Below.refl _ _).alloc (Nat.le_refl _) _).alloc (by simp) _
  have hz0 : W0.heap.size = w.heap.size + 2 := by rw [hW0]; simp
  have hbf : Blk W0 w.heap.size 25 #[.slice A1 f.lo.length c1, .slice A2 f.hi.length c2, .slice A3 f.terms.length c3, .slice A4 f.goals.length c4] := by rw [hW0]; exact (Blk.new _ _ _).alloc _
  have hbc : Blk W0 (w.heap.size + 1) 40 #[.slice B1 lo.length d1, .slice B2 hi.length d2] := by
    rw [hW0]
    have := Blk.new (w.alloc (.cells #[.slice A1 f.lo.length c1, .slice A2 f.hi.length c2, .slice A3 f.terms.length c3, .slice A4 f.goals.length c4] 25)) 40 #[.slice B1 lo.length d1, .slice B2 hi.length d2]
    rwa [show (w.alloc (.cells #[.slice A1 f.lo.length c1, .slice A2 f.hi.length c2, .slice A3 f.terms.length c3, .slice A4 f.goals.length c4] 25)).heap.size = w.heap.size + 1 from by simp] at this
  have h0 := h.later hb0
  have h1 := hl.later hb0
  have h2 := hh.later hb0
  have hzl : w.heap.size + 1 < W0.heap.size := by omega
  have H0 := Lib.hid h0; clear h0
  have H1 := Lib.hid h1; clear h1
  have H2 := Lib.hid h2; clear h2
  have Hb0 := Lib.hid hb0; clear hb0
  have Hbf := Lib.hid hbf; clear hbf
  have Hbc := Lib.hid hbc; clear hbc
  have Hz0 := Lib.hid hz0; clear hz0
  have HW0 := Lib.hid hW0; clear hW0
  have Hf := Lib.hid hf; clear hf
  clear h hl hh
  by_cases n1 : lo.length = f.lo.length
  · have e0 : ((lo.length : Int) != (f.lo.length : Int)) = false := by simp [n1]
    by_cases n2 : hi.length = f.lo.length
    · have e1 : ((hi.length : Int) != (f.lo.length : Int)) = false := by simp [n2]
      have hw := within_eq n1 n2
      have Hw := Lib.hid hw; clear hw
      have N1 := Lib.hid n1; clear n1
      have N2 := Lib.hid n2; clear n2
      go_enter Try.func23, Try.ntmps23
      go_wp2
      rw [← HW0.out]
      clear e0 e1
      go_loopw [25] (fun i wr => ∃ k : Nat, k ≤ f.lo.length ∧ i = .int .i64 k ∧ Hid (∃ n, wr = W0.drewN n) ∧ Hid (withinF f lo hi = allC (f.lo.drop k) (f.hi.drop k) (lo.drop k) (hi.drop k))) (fun i _ => f.lo.length - (intOf i).toNat)
      case atStart => exact ⟨0, Nat.zero_le _, rfl, ⟨0, rfl⟩, Hw⟩
      case round =>
        obtain ⟨k, hk, rfl, hdr, hall⟩ := hrel
        obtain ⟨wo, rfl⟩ : ∃ wo : World, wo = wr := ⟨_, rfl⟩
        have hb : Below W0.heap.size W0 wo := by obtain ⟨n, rfl⟩ := hdr.out; exact below_drewN (Below.refl _ _) n
        have hbw : ∀ n, Below w.heap.size w (wo.drewN n) := fun n => below_drewN (Hb0.out.trans (hb.mono (by omega))) n
        have l1 : lo.length = f.lo.length := N1.out
        have l2 : hi.length = f.lo.length := N2.out
        have l3 : f.hi.length = f.lo.length := Hf.out
        obtain ⟨x0, x1, x2, x3⟩ := (Hbf.out.same (hb.block _ (by omega))).four
        obtain ⟨y0, y1⟩ := (Hbc.out.same (hb.block _ hzl)).two
        by_cases hlt : k < f.lo.length
        · have hf2 := H0.out.below hb
          obtain ⟨b1, o1, a, hd0, rfl, hob1, hc0, hf0⟩ := hf2.l.getI hlt
          obtain ⟨b2, o2, b, hd1, rfl, hob2, hc1, hf1⟩ := hf2.h.getI (i := k) (by omega)
          obtain ⟨b3, o3, x, hd2, rfl, hob3, hc2, hf3⟩ := (H1.out.below hb).getI (i := k) (by omega)
          obtain ⟨b4, o4, y, hd3, rfl, hob4, hc3, hf4⟩ := (H2.out.below hb).getI (i := k) (by omega)
          have step := allC_step hd0.out hd1.out hd2.out hd3.out
          have no : okC a b x y = false → withinF f lo hi = false := fun hn => by rw [hall.out, step, hn]; rfl
          have g0 := hf0.i64
          have g1 := hf1.i64
          have g2 := hf3.i64
          have g3 := hf4.i64
          have hk0 : (0 : Int) ≤ (k : Int) := Int.natCast_nonneg _
          have hk1 : (k : Int) < (f.lo.length : Int) := by omega
          have hk2 : (k : Int) < (f.hi.length : Int) := by omega
          have hk3 : (k : Int) < (lo.length : Int) := by omega
          have hk4 : (k : Int) < (hi.length : Int) := by omega
          have Step := Lib.hid step; clear step
          have No := Lib.hid no; clear no
          have Hbw := Lib.hid hbw; clear hbw
          have Hb := Lib.hid hb; clear hb
          have Hf2 := Lib.hid hf2; clear hf2
          have L1 := Lib.hid l1; clear l1
          have L2 := Lib.hid l2; clear l2
          have L3 := Lib.hid l3; clear l3
          clear x2 x3
          by_cases c1 : x < a
          · have hn := No.out (okC_no (.inl c1))
            have Hn := Lib.hid hn; clear hn
            go_wp2
            go_quiet (fail)
            go_wp2
            go_ret
            exact ⟨by rw [Hn.out]; rfl, Hbw.out _⟩
          have ea : decide (x < a) = false := decide_eq_false c1
          have qa := Lib.hid c1
          clear c1
          by_cases c1 : b < y
          · have hn := No.out (okC_no (.inr (.inl c1)))
            have Hn := Lib.hid hn; clear hn
            go_wp2
            go_quiet (fail)
            go_wp2
            go_ret
            exact ⟨by rw [Hn.out]; rfl, Hbw.out _⟩
          have eb : decide (b < y) = false := decide_eq_false c1
          have qb := Lib.hid c1
          clear c1
          by_cases c1 : y < x
          · have hn := No.out (okC_no (.inr (.inr c1)))
            have Hn := Lib.hid hn; clear hn
            go_wp2
            go_quiet (fail)
            go_wp2
            go_ret
            exact ⟨by rw [Hn.out]; rfl, Hbw.out _⟩
          have ec : decide (y < x) = false := decide_eq_false c1
          have qc := Lib.hid c1
          clear c1
          go_wp2
          go_quiet (fail)
          go_wp2
          go_roundw
          case rel =>
            refine ⟨k + 1, by omega, by go_num, ?_, ?_⟩
            · obtain ⟨n, rfl⟩ := hdr.out
              exact ⟨_, World.drewN_drewN _ _ _⟩
            · unfold Hid; have pa := qa.out; have pb := qb.out; have pc := qc.out; rw [hall.out, Step.out, okC_yes (a := a) (b := b) (x := x) (y := y) (by omega) (by omega) (by omega)]; rfl
          case measure => simp [intOf]; omega
        · have hn : withinF f lo hi = true := by rw [hall.out, drop_end hlt]; rfl
          have hlt1 : ¬ k < lo.length := by omega
          have hbw0 := hbw 0
          have Hn := Lib.hid hn; clear hn
          have Hbw := Lib.hid hbw; clear hbw
          have L1 := Lib.hid l1; clear l1
          have L2 := Lib.hid l2; clear l2
          have L3 := Lib.hid l3; clear l3
          clear hb
          go_wp2
          go_ret
          exact ⟨by rw [Hn.out]; rfl, hbw0⟩
    · have e1 : ((hi.length : Int) != (f.lo.length : Int)) = true := by simp; omega
      have hn := within_len (f := f) (lo := lo) (hi := hi) (.inr n2)
      have Hn := Lib.hid hn; clear hn
      clear n1 n2
      go_enter Try.func23, Try.ntmps23
      go_wp2
      go_ret
      exact ⟨by rw [Hn.out]; rfl, by rw [← HW0.out]; exact Hb0.out⟩
  · have e0 : ((lo.length : Int) != (f.lo.length : Int)) = true := by simp; omega
    have hn := within_len (f := f) (lo := lo) (hi := hi) (.inl n1)
    have Hn := Lib.hid hn; clear hn
    clear n1
    go_enter Try.func23, Try.ntmps23
    go_wp2
    go_ret
    exact ⟨by rw [Hn.out]; rfl, by rw [← HW0.out]; exact Hb0.out⟩

set_option maxRecDepth 100000 in
set_option maxHeartbeats 4000000 in
theorem refCube_calls (f : Fit) (A1 : Option Addr) (c1 : Nat) (A2 : Option Addr) (c2 : Nat) (A3 : Option Addr) (c3 : Nat) (A4 : Option Addr) (c4 : Nat) (lo hi : List Int) (B1 : Option Addr) (d1 : Nat) (B2 : Option Addr) (d2 : Nat) (w : World) (h : FitAt f (Old w) w A1 c1 A2 c2 A3 c3 A4 c4) (hl : SlAt (pI .i64) (Old w) w B1 d1 lo) (hh : SlAt (pI .i64) (Old w) w B2 d2 hi) (hf : f.hi.length = f.lo.length) (h4 : f.lo.length ≤ 4) :
    Calls Try.prog 26 #[.agg #[.slice A1 f.lo.length c1, .slice A2 f.hi.length c2, .slice A3 f.terms.length c3, .slice A4 f.goals.length c4], .agg #[.slice B1 lo.length d1, .slice B2 hi.length d2]] w (BoolPost (withinF f lo hi) w) := by
  have m1 := h.l.lenle
  have m2 := h.h.lenle
  have m5 := hl.lenle
  have m6 := hh.lenle
  obtain ⟨W0, hW0⟩ : ∃ W0, W0 = (w.alloc (.cells #[.slice A1 f.lo.length c1, .slice A2 f.hi.length c2, .slice A3 f.terms.length c3, .slice A4 f.goals.length c4] 25)).alloc (.cells #[.slice B1 lo.length d1, .slice B2 hi.length d2] 40) := ⟨_, rfl⟩
  have hb0 : Below w.heap.size w W0 := by rw [hW0]; exact ((Below.refl _ _).alloc (Nat.le_refl _) _).alloc (by simp) _
  have hz0 : W0.heap.size = w.heap.size + 2 := by rw [hW0]; simp
  have hbf : Blk W0 w.heap.size 25 #[.slice A1 f.lo.length c1, .slice A2 f.hi.length c2, .slice A3 f.terms.length c3, .slice A4 f.goals.length c4] := by rw [hW0]; exact (Blk.new _ _ _).alloc _
  have hbc : Blk W0 (w.heap.size + 1) 40 #[.slice B1 lo.length d1, .slice B2 hi.length d2] := by
    rw [hW0]
    have := Blk.new (w.alloc (.cells #[.slice A1 f.lo.length c1, .slice A2 f.hi.length c2, .slice A3 f.terms.length c3, .slice A4 f.goals.length c4] 25)) 40 #[.slice B1 lo.length d1, .slice B2 hi.length d2]
    rwa [show (w.alloc (.cells #[.slice A1 f.lo.length c1, .slice A2 f.hi.length c2, .slice A3 f.terms.length c3, .slice A4 f.goals.length c4] 25)).heap.size = w.heap.size + 1 from by simp] at this
  have h0 := h.later hb0
  have h1 := hl.later hb0
  have h2 := hh.later hb0
  have hzl : w.heap.size + 1 < W0.heap.size := by omega
  have H0 := Lib.hid h0; clear h0
  have H1 := Lib.hid h1; clear h1
  have H2 := Lib.hid h2; clear h2
  have Hb0 := Lib.hid hb0; clear hb0
  have Hbf := Lib.hid hbf; clear hbf
  have Hbc := Lib.hid hbc; clear hbc
  have Hz0 := Lib.hid hz0; clear hz0
  have HW0 := Lib.hid hW0; clear hW0
  have Hf := Lib.hid hf; clear hf
  clear h hl hh
  by_cases n1 : lo.length = f.lo.length
  · have e0 : ((lo.length : Int) != (f.lo.length : Int)) = false := by simp [n1]
    by_cases n2 : hi.length = f.lo.length
    · have e1 : ((hi.length : Int) != (f.lo.length : Int)) = false := by simp [n2]
      have hw := within_eq n1 n2
      have Hw := Lib.hid hw; clear hw
      have N1 := Lib.hid n1; clear n1
      have N2 := Lib.hid n2; clear n2
      go_enter Try.func26, Try.ntmps26
      go_wp2
      rw [← HW0.out]
      clear e0 e1
      go_loopw [5] (fun i wr => ∃ k : Nat, k ≤ f.lo.length ∧ i = .int .i64 k ∧ Hid (∃ n, wr = W0.drewN n) ∧ Hid (withinF f lo hi = allC (f.lo.drop k) (f.hi.drop k) (lo.drop k) (hi.drop k))) (fun i _ => f.lo.length - (intOf i).toNat)
      case atStart => exact ⟨0, Nat.zero_le _, rfl, ⟨0, rfl⟩, Hw⟩
      case round =>
        obtain ⟨k, hk, rfl, hdr, hall⟩ := hrel
        obtain ⟨wo, rfl⟩ : ∃ wo : World, wo = wr := ⟨_, rfl⟩
        have hb : Below W0.heap.size W0 wo := by obtain ⟨n, rfl⟩ := hdr.out; exact below_drewN (Below.refl _ _) n
        have hbw : ∀ n, Below w.heap.size w (wo.drewN n) := fun n => below_drewN (Hb0.out.trans (hb.mono (by omega))) n
        have l1 : lo.length = f.lo.length := N1.out
        have l2 : hi.length = f.lo.length := N2.out
        have l3 : f.hi.length = f.lo.length := Hf.out
        obtain ⟨x0, x1, x2, x3⟩ := (Hbf.out.same (hb.block _ (by omega))).four
        obtain ⟨y0, y1⟩ := (Hbc.out.same (hb.block _ hzl)).two
        by_cases hlt : k < f.lo.length
        · have hf2 := H0.out.below hb
          obtain ⟨b1, o1, a, hd0, rfl, hob1, hc0, hf0⟩ := hf2.l.getI hlt
          obtain ⟨b2, o2, b, hd1, rfl, hob2, hc1, hf1⟩ := hf2.h.getI (i := k) (by omega)
          obtain ⟨b3, o3, x, hd2, rfl, hob3, hc2, hf3⟩ := (H1.out.below hb).getI (i := k) (by omega)
          obtain ⟨b4, o4, y, hd3, rfl, hob4, hc3, hf4⟩ := (H2.out.below hb).getI (i := k) (by omega)
          have step := allC_step hd0.out hd1.out hd2.out hd3.out
          have no : okC a b x y = false → withinF f lo hi = false := fun hn => by rw [hall.out, step, hn]; rfl
          have g0 := hf0.i64
          have g1 := hf1.i64
          have g2 := hf3.i64
          have g3 := hf4.i64
          have hk0 : (0 : Int) ≤ (k : Int) := Int.natCast_nonneg _
          have hk1 : (k : Int) < (f.lo.length : Int) := by omega
          have hk2 : (k : Int) < (f.hi.length : Int) := by omega
          have hk3 : (k : Int) < (lo.length : Int) := by omega
          have hk4 : (k : Int) < (hi.length : Int) := by omega
          have Step := Lib.hid step; clear step
          have No := Lib.hid no; clear no
          have Hbw := Lib.hid hbw; clear hbw
          have Hb := Lib.hid hb; clear hb
          have Hf2 := Lib.hid hf2; clear hf2
          have L1 := Lib.hid l1; clear l1
          have L2 := Lib.hid l2; clear l2
          have L3 := Lib.hid l3; clear l3
          clear x2 x3
          by_cases c1 : y < x
          · have hn := No.out (okC_no (.inr (.inr c1)))
            have Hn := Lib.hid hn; clear hn
            go_wp2
            go_quiet (fail)
            go_wp2
            go_ret
            exact ⟨by rw [Hn.out]; rfl, Hbw.out _⟩
          have ec : decide (y < x) = false := decide_eq_false c1
          have qc := Lib.hid c1
          clear c1
          by_cases c1 : x < a
          · have hn := No.out (okC_no (.inl c1))
            have Hn := Lib.hid hn; clear hn
            go_wp2
            go_quiet (fail)
            go_wp2
            go_ret
            exact ⟨by rw [Hn.out]; rfl, Hbw.out _⟩
          have ea : decide (x < a) = false := decide_eq_false c1
          have qa := Lib.hid c1
          clear c1
          by_cases c1 : b < y
          · have hn := No.out (okC_no (.inr (.inl c1)))
            have Hn := Lib.hid hn; clear hn
            go_wp2
            go_quiet (fail)
            go_wp2
            go_ret
            exact ⟨by rw [Hn.out]; rfl, Hbw.out _⟩
          have eb : decide (b < y) = false := decide_eq_false c1
          have qb := Lib.hid c1
          clear c1
          go_wp2
          go_quiet (fail)
          go_wp2
          go_roundw
          case rel =>
            refine ⟨k + 1, by omega, by go_num, ?_, ?_⟩
            · obtain ⟨n, rfl⟩ := hdr.out
              exact ⟨_, World.drewN_drewN _ _ _⟩
            · unfold Hid; have pa := qa.out; have pb := qb.out; have pc := qc.out; rw [hall.out, Step.out, okC_yes (a := a) (b := b) (x := x) (y := y) (by omega) (by omega) (by omega)]; rfl
          case measure => simp [intOf]; omega
        · have hn : withinF f lo hi = true := by rw [hall.out, drop_end hlt]; rfl
          have hlt1 : ¬ k < lo.length := by omega
          have hbw0 := hbw 0
          have Hn := Lib.hid hn; clear hn
          have Hbw := Lib.hid hbw; clear hbw
          have L1 := Lib.hid l1; clear l1
          have L2 := Lib.hid l2; clear l2
          have L3 := Lib.hid l3; clear l3
          clear hb
          go_wp2
          go_ret
          exact ⟨by rw [Hn.out]; rfl, hbw0⟩
    · have e1 : ((hi.length : Int) != (f.lo.length : Int)) = true := by simp; omega
      have hn := within_len (f := f) (lo := lo) (hi := hi) (.inr n2)
      have Hn := Lib.hid hn; clear hn
      clear n1 n2
      go_enter Try.func26, Try.ntmps26
      go_wp2
      go_ret
      exact ⟨by rw [Hn.out]; rfl, by rw [← HW0.out]; exact Hb0.out⟩
  · have e0 : ((lo.length : Int) != (f.lo.length : Int)) = true := by simp; omega
    have hn := within_len (f := f) (lo := lo) (hi := hi) (.inl n1)
    have Hn := Lib.hid hn; clear hn
    clear n1
    go_enter Try.func26, Try.ntmps26
    go_wp2
    go_ret
    exact ⟨by rw [Hn.out]; rfl, by rw [← HW0.out]; exact Hb0.out⟩

end Go.Proofs.Ytfeafembifdklaa
