/-
  Layer 43: the walks of SameInts, Great and FitCosts.
-/
import Derived.Test.YtfeafembifdklaaZl
namespace Go.Proofs.Ytfeafembifdklaa
open Go.RowKit Go.Sort


set_option maxHeartbeats 1000000 in
theorem sameInts_calls {F G : Nat → Prop} (A B : Option Addr) (cap cap' : Nat) (xs ys : List Int) (w : World) (h : SlAt (pI .i64) F w A cap xs) (h' : SlAt (pI .i64) G w B cap' ys) :
    Calls Try.prog 11 #[.slice A xs.length cap, .slice B ys.length cap'] w fun e w' => e = .returned (.bool (xs == ys)) ∧ ∃ n, w' = w.drewN n := by
  have hmx := h.lenle
  have hmy := h'.lenle
  by_cases hl : xs.length = ys.length
  · have e0 : ((xs.length : Int) != (ys.length : Int)) = false := by simp [hl]
    have Hl := Lib.hid hl; clear hl
    go_enter Try.func11, Try.ntmps11
    go_wp2
    go_loopw [5] (fun i wr => ∃ k : Nat, k ≤ xs.length ∧ i = .int .i64 k ∧ Hid ((xs == ys) = (xs.drop k == ys.drop k)) ∧ ∃ n, wr = w.drewN n) (fun i _ => xs.length - (intOf i).toNat)
    case atStart => exact ⟨0, Nat.zero_le _, rfl, rfl, 0, rfl⟩
    case round =>
      obtain ⟨k, hk, rfl, hin, n, rfl⟩ := hrel
      by_cases hlt : k < xs.length
      · have hlt' : k < ys.length := by rw [← Hl.out]; exact hlt
        obtain ⟨b, o, x, hdx, rfl, _, hc, _⟩ := h.getI hlt
        obtain ⟨b', o', y, hdy, rfl, _, hc', _⟩ := h'.getI hlt'
        by_cases hxy : x = y
        · have e1 : (x != y) = false := by simp [hxy]
          have Hxy := Lib.hid hxy; clear hxy
          go_wp2
          go_quiet (fail)
          go_wp2
          go_roundw
          case rel =>
            refine ⟨k + 1, by omega, by go_num, ?_, _, rfl⟩
            unfold Hid; rw [hin.out, hdx.out, hdy.out, Hxy.out]; simp
          case measure => simp [intOf]; omega
        · have e1 : (x != y) = true := by simp [hxy]
          have Hxy := Lib.hid hxy; clear hxy
          go_wp2
          go_quiet (fail)
          go_wp2
          go_ret
          refine ⟨ret_bool ?_, _, World.drewN_drewN _ _ _⟩
          rw [hin.out, hdx.out, hdy.out, List.cons_beq_cons, beq_false_of_ne Hxy.out]; rfl
      · go_wp2
        go_ret
        refine ⟨ret_bool ?_, n, rfl⟩
        rw [hin.out, drop_end hlt, drop_end (by rw [← Hl.out]; exact hlt)]; rfl
  · have e0 : ((xs.length : Int) != (ys.length : Int)) = true := by simp; omega
    go_enter Try.func11, Try.ntmps11
    go_wp2
    go_ret
    refine ⟨ret_bool ?_, 0, rfl⟩
    cases hb : xs == ys
    · rfl
    · exact absurd (congrArg List.length (eq_of_beq hb)) hl

def SomeBool (w : World) (e : Ending) (w' : World) : Prop := (∃ b : Bool, e = .returned (.bool b)) ∧ Below w.heap.size w w'
set_option maxRecDepth 100000 in
set_option maxHeartbeats 4000000 in
theorem greatFit_calls (f : Fit) (A1 : Option Addr) (c1 : Nat) (A2 : Option Addr) (c2 : Nat) (A3 : Option Addr) (c3 : Nat) (A4 : Option Addr) (c4 : Nat) (w : World) (h : FitAt f (Old w) w A1 c1 A2 c2 A3 c3 A4 c4) : Calls Try.prog 4 #[.agg #[.slice A1 f.lo.length c1, .slice A2 f.hi.length c2, .slice A3 f.terms.length c3, .slice A4 f.goals.length c4]] w (SomeBool w) := by
  have m1 := h.l.lenle
  have m2 := h.h.lenle
  have m3 := h.t.lenle
  have m4 := h.g.lenle
  obtain ⟨W0, hW0⟩ : ∃ W0, W0 = w.alloc (.cells #[.slice A1 f.lo.length c1, .slice A2 f.hi.length c2, .slice A3 f.terms.length c3, .slice A4 f.goals.length c4] 25) := ⟨_, rfl⟩
  have hb0 : Below w.heap.size w W0 := by rw [hW0]; exact (Below.refl _ _).alloc (Nat.le_refl _) _
  have hz0 : w.heap.size + 1 ≤ W0.heap.size := by rw [hW0]; simp
  have hl0 : w.heap.size < W0.heap.size := by omega
  have hbl0 : Blk W0 w.heap.size 25 #[.slice A1 f.lo.length c1, .slice A2 f.hi.length c2, .slice A3 f.terms.length c3, .slice A4 f.goals.length c4] := by rw [hW0]; exact Blk.new _ _ _
  have h0 := h.later hb0
  have cells : ∀ W : World, Below W0.heap.size W0 W → (W.cell? ⟨w.heap.size, 0, none⟩ = some (.slice A1 f.lo.length c1) ∧ W.cell? ⟨w.heap.size, 1, none⟩ = some (.slice A2 f.hi.length c2) ∧ W.cell? ⟨w.heap.size, 2, none⟩ = some (.slice A3 f.terms.length c3) ∧ W.cell? ⟨w.heap.size, 3, none⟩ = some (.slice A4 f.goals.length c4)) := fun W hW => (hbl0.same (hW.block _ (by omega))).four
  have H0 := Lib.hid h0; clear h0
  have Hb0 := Lib.hid hb0; clear hb0
  have Hbl0 := Lib.hid hbl0; clear hbl0
  have HW0 := Lib.hid hW0; clear hW0
  have Cells := Lib.hid cells; clear cells
  clear h
  by_cases t1 : 10 < f.lo.length
  · go_enter Try.func4, Try.ntmps4
    go_wp2
    go_ret
    exact ⟨⟨_, rfl⟩, by rw [← HW0.out]; exact Hb0.out⟩
  by_cases t2 : 10 < f.hi.length
  · go_enter Try.func4, Try.ntmps4
    go_wp2
    go_ret
    exact ⟨⟨_, rfl⟩, by rw [← HW0.out]; exact Hb0.out⟩
  by_cases t3 : 30 < f.terms.length
  · go_enter Try.func4, Try.ntmps4
    go_wp2
    go_ret
    exact ⟨⟨_, rfl⟩, by rw [← HW0.out]; exact Hb0.out⟩
  by_cases t4 : 30 < f.goals.length
  · go_enter Try.func4, Try.ntmps4
    go_wp2
    go_ret
    exact ⟨⟨_, rfl⟩, by rw [← HW0.out]; exact Hb0.out⟩
  go_enter Try.func4, Try.ntmps4
  go_wp2
  rw [← HW0.out]
  go_loop [3] (fun i => ∃ k : Nat, k ≤ f.terms.length ∧ i = .int .i64 k) (fun i => f.terms.length - (intOf i).toNat)
  case atStart => exact ⟨0, Nat.zero_le _, rfl⟩
  case round =>
    obtain ⟨k, hk, rfl⟩ := hrel
    obtain ⟨x0, x1, x2, x3⟩ := Cells.out W0 (Below.refl _ _)
    by_cases hlt : k < f.terms.length
    · obtain ⟨b, o, A, c, t, hd, rfl, hob, hs0, hs1, hsc, hsa, hsl⟩ := H0.out.t.getFrm hlt
      by_cases hc : 10 < t.coefs.length
      · go_wp2
        go_ret
        exact ⟨⟨_, rfl⟩, Hb0.out⟩
      · go_wp2
        go_round
        case rel => exact ⟨k + 1, by omega, by go_num⟩
        case measure => simp [intOf]; omega
    · have hvc := refValid_calls f A1 c1 A2 c2 A3 c3 A4 c4 W0 H0.out
      cases hv : validF f
      · rw [hv] at hvc
        have Hvc := Lib.hid hvc; clear hvc
        clear hv
        go_wp2_with fail
        refine Hvc.out.mono ?_
        rintro e w1 ⟨rfl, hb1⟩
        have hbw := Hb0.out.trans (hb1.mono (by omega))
        have Hbw := Lib.hid hbw; clear hbw
        clear hb1
        go_wp2
        go_ret
        exact ⟨⟨_, rfl⟩, Hbw.out⟩
      · obtain ⟨p1, p2, p3, p4, p5, p6, p7⟩ := valid_parts hv
        rw [hv] at hvc
        have Hvc := Lib.hid hvc; clear hvc
        have P3 := Lib.hid p3; clear p3
        have P6 := Lib.hid p6; clear p6
        clear hv p4 p5 p7
        go_wp2_with fail
        refine Hvc.out.mono ?_
        rintro e w1 ⟨rfl, hb1⟩
        have z1 := hb1.size
        clear x0 x1 x2 x3
        obtain ⟨x0, x1, x2, x3⟩ := Cells.out w1 hb1
        have Hb1 := Lib.hid hb1
        clear hb1
        go_wp2_with fail
        refine (refMany_calls f.lo f.hi A1 c1 A2 c2 w1 (H0.out.later Hb1.out).l (H0.out.later Hb1.out).h P3.out P6.out).mono ?_
        rintro e w2 ⟨rfl, hb2⟩
        have Hb2 := Lib.hid (Hb1.out.trans (hb2.mono z1)); clear hb2
        have z2 := Hb2.out.size
        obtain ⟨mv, hmv⟩ : ∃ mv, manyF 1 f.lo f.hi = mv := ⟨_, rfl⟩
        rw [hmv]
        have Hmv := Lib.hid hmv; clear hmv
        clear x0 x1 x2 x3
        obtain ⟨x0, x1, x2, x3⟩ := Cells.out w2 Hb2.out
        by_cases h400 : 400 < mv
        · go_wp2_with fail
          refine (refMany_calls f.lo f.hi A1 c1 A2 c2 w2 (H0.out.later Hb2.out).l (H0.out.later Hb2.out).h P3.out P6.out).mono ?_
          rintro e w3 ⟨rfl, hb3⟩
          have Hb3 := Lib.hid (Hb2.out.trans (hb3.mono z2)); clear hb3
          have z3 := Hb3.out.size
          go_wp2
          go_ret
          exact ⟨⟨_, rfl⟩, Hb0.out.trans (Hb3.out.mono (by omega))⟩
        · go_wp2
          go_ret
          exact ⟨⟨_, rfl⟩, Hb0.out.trans (Hb2.out.mono (by omega))⟩

def bestR (f : Fit) : List Int × Int := if checkFit f = 0 then bestF f else ([], 0)
theorem best_uniform {f : Fit} {w w' : World} {e : Ending} (h : BestPost f w e w') : Below w.heap.size w w' ∧ ∃ A c, e = .returned (.tuple #[.slice A (bestR f).1.length c, .int .i64 (bestR f).2, .int .i64 (checkFit f)]) ∧ SlAt (pI .i64) (fun k => w.heap.size ≤ k ∧ k < w'.heap.size) w' A c (bestR f).1 := by
  obtain ⟨hb, ⟨h1, rfl⟩ | ⟨h1, A, c, rfl, hs⟩⟩ := h
  · refine ⟨hb, none, 0, ?_, ?_⟩
    · unfold bestR; rw [if_neg h1]; rfl
    · unfold bestR; rw [if_neg h1]; exact ⟨Nat.le_refl _, Nat.zero_le _, fun _ => rfl, fun i x hx => by simp at hx⟩
  · refine ⟨hb, A, c, ?_, ?_⟩
    · unfold bestR; rw [if_pos h1, h1]
    · unfold bestR; rw [if_pos h1]; exact hs

end Go.Proofs.Ytfeafembifdklaa
