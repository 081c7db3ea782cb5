/-
  Layer 43: the walks of Lower, Cost and, of the reference, size, In, sum.
-/
import Derived.Test.YtcdplnikpbbomaaZf
namespace Go.Proofs.Ytcdplnikpbbomaa
open Go.RowKit Go.Sort


def lowerF (f : Fit) (lo hi : List Int) : Int × Int := if checkFit f = 0 then (if withinF f lo hi = true then (boundF f.terms f.goals lo hi, 0) else (0, 2)) else (0, checkFit f)
theorem checkFit_valid {f : Fit} (h : checkFit f = 0) : validF f = true := by
  unfold checkFit at h
  by_cases hv : validF f = true
  · exact hv
  · rw [if_neg hv] at h; cases h

set_option maxRecDepth 100000 in
set_option maxHeartbeats 4000000 in
theorem fLower_calls (f : Fit) (A1 : Option Addr) (c1 : Nat) (A2 : Option Addr) (c2 : Nat) (A3 : Option Addr) (c3 : Nat) (A4 : Option Addr) (c4 : Nat) (lo hi : List Int) (B1 : Option Addr) (d1 : Nat) (B2 : Option Addr) (d2 : Nat) (w : World) (h : FitAt f (Old w) w A1 c1 A2 c2 A3 c3 A4 c4) (hl : SlAt (pI .i64) (Old w) w B1 d1 lo) (hh : SlAt (pI .i64) (Old w) w B2 d2 hi) :
    Calls Try.prog 13 #[.agg #[.slice A1 f.lo.length c1, .slice A2 f.hi.length c2, .slice A3 f.terms.length c3, .slice A4 f.goals.length c4], .agg #[.slice B1 lo.length d1, .slice B2 hi.length d2]] w (PairPost (lowerF f lo hi) w) := by
  obtain ⟨W0, hW0⟩ : ∃ W0, W0 = (w.alloc (.cells #[.slice A1 f.lo.length c1, .slice A2 f.hi.length c2, .slice A3 f.terms.length c3, .slice A4 f.goals.length c4] 25)).alloc (.cells #[.slice B1 lo.length d1, .slice B2 hi.length d2] 27) := ⟨_, rfl⟩
  have hb0 : Below w.heap.size w W0 := by rw [hW0]; exact ((Below.refl _ _).alloc (Nat.le_refl _) _).alloc (by simp) _
  have hz0 : W0.heap.size = w.heap.size + 2 := by rw [hW0]; simp
  have hbf : Blk W0 w.heap.size 25 #[.slice A1 f.lo.length c1, .slice A2 f.hi.length c2, .slice A3 f.terms.length c3, .slice A4 f.goals.length c4] := by rw [hW0]; exact (Blk.new _ _ _).alloc _
  have hbc : Blk W0 (w.heap.size + 1) 27 #[.slice B1 lo.length d1, .slice B2 hi.length d2] := by
    rw [hW0]
    have := Blk.new (w.alloc (.cells #[.slice A1 f.lo.length c1, .slice A2 f.hi.length c2, .slice A3 f.terms.length c3, .slice A4 f.goals.length c4] 25)) 27 #[.slice B1 lo.length d1, .slice B2 hi.length d2]
    rwa [show (w.alloc (.cells #[.slice A1 f.lo.length c1, .slice A2 f.hi.length c2, .slice A3 f.terms.length c3, .slice A4 f.goals.length c4] 25)).heap.size = w.heap.size + 1 from by simp] at this
  have h0 := h.later hb0
  have h1 := hl.later hb0
  have h2 := hh.later hb0
  have hzl : w.heap.size + 1 < W0.heap.size := by omega
  have cells : ∀ W : World, Below W0.heap.size W0 W → (W.cell? ⟨w.heap.size, 0, none⟩ = some (.slice A1 f.lo.length c1) ∧ W.cell? ⟨w.heap.size, 1, none⟩ = some (.slice A2 f.hi.length c2) ∧ W.cell? ⟨w.heap.size, 2, none⟩ = some (.slice A3 f.terms.length c3) ∧ W.cell? ⟨w.heap.size, 3, none⟩ = some (.slice A4 f.goals.length c4)) ∧
      W.cell? ⟨w.heap.size + 1, 0, none⟩ = some (.slice B1 lo.length d1) ∧ W.cell? ⟨w.heap.size + 1, 1, none⟩ = some (.slice B2 hi.length d2) := fun W hW => ⟨(hbf.same (hW.block _ (by omega))).four, (hbc.same (hW.block _ hzl)).two⟩
  have H0 := Lib.hid h0; clear h0
  have H1 := Lib.hid h1; clear h1
  have H2 := Lib.hid h2; clear h2
  have Hb0 := Lib.hid hb0; clear hb0
  have Hbf := Lib.hid hbf; clear hbf
  have Hbc := Lib.hid hbc; clear hbc
  have Hz0 := Lib.hid hz0; clear hz0
  have HW0 := Lib.hid hW0; clear hW0
  have Cells := Lib.hid cells; clear cells
  clear h hl hh
  go_enter Try.func13, Try.ntmps13
  go_wp2_with fail
  rw [← HW0.out]
  go_wp2_with fail
  refine (fCheck_calls f A1 c1 A2 c2 A3 c3 A4 c4 W0 H0.out).mono ?_
  rintro e w1 ⟨rfl, hb1⟩
  have z1 := hb1.size
  have Hb1 := Lib.hid hb1; clear hb1
  obtain ⟨⟨x0, x1, x2, x3⟩, y0, y1⟩ := Cells.out w1 Hb1.out
  by_cases hck : checkFit f = 0
  · have e0 : (checkFit f != 0) = false := by simp [hck]
    have hv := checkFit_valid hck
    obtain ⟨p1, p2, p3, p4, p5, p6, p7⟩ := valid_parts hv
    have hr : lowerF f lo hi = if withinF f lo hi = true then (boundF f.terms f.goals lo hi, 0) else (0, 2) := by unfold lowerF; rw [if_pos hck]
    have hwc := within_calls f A1 c1 A2 c2 A3 c3 A4 c4 lo hi B1 d1 B2 d2 w1 (H0.out.later Hb1.out) (H1.out.later Hb1.out) (H2.out.later Hb1.out) p3 p2
    have Hck := Lib.hid hck; clear hck
    have Hr := Lib.hid hr; clear hr
    have Hv := Lib.hid hv; clear hv
    have Hwc := Lib.hid hwc; clear hwc
    clear p1 p2 p3 p4 p5 p6 p7
    go_wp2_with fail
    refine (Hwc.out).mono ?_
    rintro e w2 ⟨rfl, hb2⟩
    have Hb2 := Lib.hid (Hb1.out.trans (hb2.mono z1)); clear hb2
    have z2 := Hb2.out.size
    clear x0 x1 x2 x3 y0 y1
    obtain ⟨⟨x0, x1, x2, x3⟩, y0, y1⟩ := Cells.out w2 Hb2.out
    cases hwi : withinF f lo hi
    · have Hwi := Lib.hid hwi; clear hwi
      go_wp2
      go_ret2
      exact ⟨by rw [Hr.out, Hwi.out]; rfl, Hb0.out.trans (Hb2.out.mono (by omega))⟩
    · have hlc := lower_calls f A1 c1 A2 c2 A3 c3 A4 c4 lo hi B1 d1 B2 d2 w2 (H0.out.later Hb2.out) (H1.out.later Hb2.out) (H2.out.later Hb2.out) (within_ok Hv.out hwi)
      have Hwi := Lib.hid hwi; clear hwi
      have Hlc := Lib.hid hlc; clear hlc
      go_wp2_with fail
      refine (Hlc.out).mono ?_
      rintro e w3 ⟨rfl, hb3⟩
      have Hb3 := Lib.hid (Hb2.out.trans (hb3.mono z2)); clear hb3
      have z3 := Hb3.out.size
      go_wp2
      go_ret2
      exact ⟨by rw [Hr.out, Hwi.out]; rfl, Hb0.out.trans (Hb3.out.mono (by omega))⟩
  · have e0 : (checkFit f != 0) = true := by simp [hck]
    have hr : lowerF f lo hi = (0, checkFit f) := by unfold lowerF; rw [if_neg hck]
    have Hr := Lib.hid hr; clear hr
    have Hck := Lib.hid hck; clear hck
    go_wp2
    go_ret2
    exact ⟨by rw [Hr.out]; rfl, Hb0.out.trans (Hb1.out.mono (by omega))⟩

set_option maxRecDepth 100000 in
set_option maxHeartbeats 4000000 in
theorem cost_calls (f : Fit) (A1 : Option Addr) (c1 : Nat) (A2 : Option Addr) (c2 : Nat) (A3 : Option Addr) (c3 : Nat) (A4 : Option Addr) (c4 : Nat) (x : List Int) (B1 : Option Addr) (d1 : Nat) (w : World) (h : FitAt f (Old w) w A1 c1 A2 c2 A3 c3 A4 c4) (hx : SlAt (pI .i64) (Old w) w B1 d1 x) :
    Calls Try.prog 11 #[.agg #[.slice A1 f.lo.length c1, .slice A2 f.hi.length c2, .slice A3 f.terms.length c3, .slice A4 f.goals.length c4], .slice B1 x.length d1] w (PairPost (lowerF f x x) w) := by
  obtain ⟨W0, hW0⟩ : ∃ W0, W0 = w.alloc (.cells #[.slice A1 f.lo.length c1, .slice A2 f.hi.length c2, .slice A3 f.terms.length c3, .slice A4 f.goals.length c4] 25) := ⟨_, rfl⟩
  have hb0 : Below w.heap.size w W0 := by rw [hW0]; exact (Below.refl _ _).alloc (Nat.le_refl _) _
  have hz0 : w.heap.size + 1 ≤ W0.heap.size := by rw [hW0]; simp
  have hl0 : w.heap.size < W0.heap.size := by omega
  have hbl0 : Blk W0 w.heap.size 25 #[.slice A1 f.lo.length c1, .slice A2 f.hi.length c2, .slice A3 f.terms.length c3, .slice A4 f.goals.length c4] := by rw [hW0]; exact Blk.new _ _ _
  have h0 := h.later hb0
  have h1 := hx.later hb0
  have H0 := Lib.hid h0; clear h0
  have H1 := Lib.hid h1; clear h1
  have Hb0 := Lib.hid hb0; clear hb0
  have Hbl0 := Lib.hid hbl0; clear hbl0
  have HW0 := Lib.hid hW0; clear hW0
  clear h hx
  go_enter Try.func11, Try.ntmps11
  go_wp2_with fail
  rw [← HW0.out]
  go_wp2_with fail
  refine (fLower_calls f A1 c1 A2 c2 A3 c3 A4 c4 x x B1 d1 B1 d1 W0 H0.out H1.out H1.out).mono ?_
  rintro e w1 ⟨rfl, hb1⟩
  have z1 := hb1.size
  have Hb1 := Lib.hid hb1; clear hb1
  go_wp2
  go_ret2
  exact ⟨rfl, Hb0.out.trans (Hb1.out.mono (by omega))⟩

/-! ### the reference -/
set_option maxHeartbeats 1000000 in
theorem size_calls (v : Int) (w : World) (hv : -9000000000000000000 ≤ v ∧ v ≤ 9000000000000000000) : Calls Try.prog 51 #[.int .i64 v] w fun e w' => e = .returned (.int .i64 (max v (-v))) ∧ w = w' := by
  obtain ⟨v0, v1⟩ := hv
  go_enter Try.func51, Try.ntmps51
  go_wp2
  go_ret
  exact ⟨rfl, rfl⟩

def inF : List Int → List Int → List Int → Bool
  | a :: as', b :: bs, x :: xs => decide (a ≤ x) && decide (x ≤ b) && inF as' bs xs
  | _, _, _ => true
def inB (lo hi x : List Int) : Bool := x.length == lo.length && inF lo hi x
theorem inF_step {as' bs xs : List Int} {a b x : Int} {k : Nat} (h0 : as'.drop k = a :: as'.drop (k + 1)) (h1 : bs.drop k = b :: bs.drop (k + 1)) (h2 : xs.drop k = x :: xs.drop (k + 1)) :
    inF (as'.drop k) (bs.drop k) (xs.drop k) = (decide (a ≤ x) && decide (x ≤ b) && inF (as'.drop (k + 1)) (bs.drop (k + 1)) (xs.drop (k + 1))) := by rw [h0, h1, h2]; rfl
theorem inF_allC : ∀ (as' bs xs : List Int), inF as' bs xs = allC as' bs xs xs
  | [], bs, xs => by cases bs <;> cases xs <;> rfl
  | a :: as', [], xs => by cases xs <;> rfl
  | a :: as', b :: bs, [] => rfl
  | a :: as', b :: bs, x :: xs => by
    unfold inF allC okC
    rw [inF_allC as' bs xs, decide_eq_true (Int.le_refl x), Bool.and_true]
theorem inB_within {f : Fit} {x : List Int} : inB f.lo f.hi x = withinF f x x := by
  unfold inB withinF
  rw [inF_allC]
  cases (x.length == f.lo.length) <;> rfl

set_option maxRecDepth 100000 in
set_option maxHeartbeats 4000000 in
theorem in_calls (lo hi x : List Int) (B1 : Option Addr) (d1 : Nat) (B2 : Option Addr) (d2 : Nat) (B3 : Option Addr) (d3 : Nat) (w : World) (hl : SlAt (pI .i64) (Old w) w B1 d1 lo) (hh : SlAt (pI .i64) (Old w) w B2 d2 hi) (hx : SlAt (pI .i64) (Old w) w B3 d3 x) (hlen : hi.length = lo.length) :
    Calls Try.prog 32 #[.slice B1 lo.length d1, .slice B2 hi.length d2, .slice B3 x.length d3] w (BoolPost (inB lo hi x) w) := by
  have m1 := hl.lenle
  have m2 := hh.lenle
  have m3 := hx.lenle
  have Hl := Lib.hid hl; clear hl
  have Hh := Lib.hid hh; clear hh
  have Hx := Lib.hid hx; clear hx
  have Hlen := Lib.hid hlen; clear hlen
  by_cases n1 : x.length = lo.length
  · have e0 : ((x.length : Int) != (lo.length : Int)) = false := by simp [n1]
    have hw : inB lo hi x = inF lo hi x := by unfold inB; rw [n1]; simp
    have N1 := Lib.hid n1; clear n1
    have Hw := Lib.hid hw; clear hw
    go_enter Try.func32, Try.ntmps32
    go_wp2
    clear e0
    go_loopw [7] (fun i wr => ∃ k : Nat, k ≤ x.length ∧ i = .int .i64 k ∧ Hid (∃ n, wr = w.drewN n) ∧ Hid (inB lo hi x = inF (lo.drop k) (hi.drop k) (x.drop k))) (fun i _ => x.length - (intOf i).toNat)
    case atStart => exact ⟨0, Nat.zero_le _, rfl, ⟨0, rfl⟩, Hw⟩
    case round =>
      obtain ⟨k, hk, rfl, hdr, hall⟩ := hrel
      obtain ⟨wo, rfl⟩ : ∃ wo : World, wo = wr := ⟨_, rfl⟩
      have hb : Below w.heap.size w wo := by obtain ⟨n, rfl⟩ := hdr.out; exact below_drewN (Below.refl _ _) n
      have hbw : ∀ n, Below w.heap.size w (wo.drewN n) := fun n => below_drewN hb n
      have l1 : x.length = lo.length := N1.out
      have l2 : hi.length = lo.length := Hlen.out
      by_cases hlt : k < x.length
      · obtain ⟨b1, o1, a, hd0, rfl, hob1, hc0, hf0⟩ := (Hl.out.below hb).getI (i := k) (by omega)
        obtain ⟨b2, o2, b, hd1, rfl, hob2, hc1, hf1⟩ := (Hh.out.below hb).getI (i := k) (by omega)
        obtain ⟨b3, o3, v, hd2, rfl, hob3, hc2, hf2⟩ := (Hx.out.below hb).getI (i := k) hlt
        have step := inF_step hd0.out hd1.out hd2.out
        have hk0 : (0 : Int) ≤ (k : Int) := Int.natCast_nonneg _
        have hk1 : (k : Int) < (lo.length : Int) := by omega
        have hk2 : (k : Int) < (hi.length : Int) := by omega
        have hk3 : (k : Int) < (x.length : Int) := by omega
        have g0 := hf0.i64
        have g1 := hf1.i64
        have g2 := hf2.i64
        have Step := Lib.hid step; clear step
        have Hbw := Lib.hid hbw; clear hbw
        have Hb := Lib.hid hb; clear hb
        have L1 := Lib.hid l1; clear l1
        have L2 := Lib.hid l2; clear l2
        by_cases c1 : v < a
        · have hn : inB lo hi x = false := by rw [hall.out, Step.out, decide_eq_false (by omega)]; rfl
          have Hn := Lib.hid hn; clear hn
          go_wp2
          go_quiet (fail)
          go_wp2
          go_ret
          exact ⟨by rw [Hn.out]; rfl, Hbw.out _⟩
        have e1 : decide (v < a) = false := decide_eq_false c1
        have qa := Lib.hid c1
        clear c1
        by_cases c1 : b < v
        · have hn : inB lo hi x = false := by rw [hall.out, Step.out, decide_eq_false (show ¬ v ≤ b by omega), Bool.and_false]; rfl
          have Hn := Lib.hid hn; clear hn
          go_wp2
          go_quiet (fail)
          go_wp2
          go_ret
          exact ⟨by rw [Hn.out]; rfl, Hbw.out _⟩
        have e2 : decide (b < v) = false := decide_eq_false c1
        have qb := Lib.hid c1
        clear c1
        go_wp2
        go_quiet (fail)
        go_wp2
        go_roundw
        case rel =>
          refine ⟨k + 1, by omega, by go_num, ?_, ?_⟩
          · obtain ⟨n, rfl⟩ := hdr.out
            exact ⟨_, World.drewN_drewN _ _ _⟩
          · have pa := qa.out
            have pb := qb.out
            unfold Hid; rw [hall.out, Step.out, decide_eq_true (show a ≤ v by omega), decide_eq_true (show v ≤ b by omega)]; rfl
        case measure => simp [intOf]; omega
      · have hn : inB lo hi x = true := by rw [hall.out, drop_end (xs := lo) (by omega)]; rfl
        have hbw0 := hbw 0
        have Hn := Lib.hid hn; clear hn
        have Hbw := Lib.hid hbw; clear hbw
        have L1 := Lib.hid l1; clear l1
        have L2 := Lib.hid l2; clear l2
        clear hb
        go_wp2
        go_ret
        exact ⟨by rw [Hn.out]; rfl, hbw0⟩
  · have e0 : ((x.length : Int) != (lo.length : Int)) = true := by simp; omega
    have hn : inB lo hi x = false := by unfold inB; rw [beq_false_of_ne n1]; rfl
    have Hn := Lib.hid hn; clear hn
    clear n1
    go_enter Try.func32, Try.ntmps32
    go_wp2
    go_ret
    exact ⟨by rw [Hn.out]; rfl, Below.refl _ _⟩

def sumF : List Frm → List Int → List Int → Int
  | t :: ts, g :: gs, x => max (worthF t x - g) (-(worthF t x - g)) + sumF ts gs x
  | _, _, _ => 0
theorem sumF_step {ts : List Frm} {gs x : List Int} {t : Frm} {g : Int} {k : Nat} (h1 : ts.drop k = t :: ts.drop (k + 1)) (h2 : gs.drop k = g :: gs.drop (k + 1)) :
    sumF (ts.drop k) (gs.drop k) x = max (worthF t x - g) (-(worthF t x - g)) + sumF (ts.drop (k + 1)) (gs.drop (k + 1)) x := by rw [h1, h2]; rfl
theorem minT_point : ∀ (cs xs : List Int), minT cs xs xs = fdot cs xs ∧ maxT cs xs xs = fdot cs xs
  | [], xs => ⟨rfl, rfl⟩
  | c :: cs, [] => ⟨rfl, rfl⟩
  | c :: cs, x :: xs => by
    have := minT_point cs xs
    unfold minT maxT fdot
    rw [this.1, this.2]
    omega
theorem boundT_point (t : Frm) (g : Int) (x : List Int) : boundT t g x x = max (worthF t x - g) (-(worthF t x - g)) := by
  have := minT_point t.coefs x
  unfold boundT highT lowT worthF
  rw [this.1, this.2]
  omega
theorem sumF_bound : ∀ (ts : List Frm) (gs x : List Int), sumF ts gs x = boundF ts gs x x
  | [], gs, x => by cases gs <;> rfl
  | t :: ts, [], x => rfl
  | t :: ts, g :: gs, x => by
    unfold sumF boundF
    rw [boundT_point, sumF_bound ts gs x]
theorem allB_args : ∀ (xs : List Int), allB xs xs = true → ∀ v ∈ xs, argOk v = true
  | [], _, v, hv => by simp at hv
  | x :: xs, h, v, hv => by
    unfold allB at h
    rw [Bool.and_eq_true] at h
    rcases List.mem_cons.1 hv with rfl | hv
    · have := okB_iff.1 h.1
      exact argOk_iff.2 (by omega)
    · exact allB_args xs h.2 v hv
end Go.Proofs.Ytcdplnikpbbomaa
