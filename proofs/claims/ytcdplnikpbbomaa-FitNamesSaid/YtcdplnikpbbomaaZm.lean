/-
  Layer 43: the walks of SameInts, Great and FitCosts.
-/
import Derived.Test.YtcdplnikpbbomaaZl
namespace Go.Proofs.Ytcdplnikpbbomaa
open Go.RowKit Go.Sort


set_option maxHeartbeats 1000000 in
theorem sameInts_calls {F G : Nat → Prop} (A B : Option Addr) (cap cap' : Nat) (xs ys : List Int) (w : World) (h : SlAt (pI .i64) F w A cap xs) (h' : SlAt (pI .i64) G w B cap' ys) :
    Calls Try.prog 19 #[.slice A xs.length cap, .slice B ys.length cap'] w fun e w' => e = .returned (.bool (xs == ys)) ∧ ∃ n, w' = w.drewN n := by
  have hmx := h.lenle
  have hmy := h'.lenle
  by_cases hl : xs.length = ys.length
  · have e0 : ((xs.length : Int) != (ys.length : Int)) = false := by simp [hl]
    have Hl := Lib.hid hl; clear hl
    go_enter Try.func19, Try.ntmps19
    go_wp2
    go_loopw [5] (fun i wr => ∃ k : Nat, k ≤ xs.length ∧ i = .int .i64 k ∧ Hid ((xs == ys) = (xs.drop k == ys.drop k)) ∧ ∃ n, wr = w.drewN n) (fun i _ => xs.length - (intOf i).toNat)
    case atStart => exact ⟨0, Nat.zero_le _, rfl, rfl, 0, rfl⟩
    case round =>
      obtain ⟨k, hk, rfl, hin, n, rfl⟩ := hrel
      by_cases hlt : k < xs.length
      · have hlt' : k < ys.length := by rw [← Hl.out]; exact hlt
        obtain ⟨b, o, x, hdx, rfl, _, hc, _⟩ := h.getI hlt
        obtain ⟨b', o', y, hdy, rfl, _, hc', _⟩ := h'.getI hlt'
        by_cases hxy : x = y
        · have e1 : (x != y) = false := by simp [hxy]
          have Hxy := Lib.hid hxy; clear hxy
          go_wp2
          go_quiet (fail)
          go_wp2
          go_roundw
          case rel =>
            refine ⟨k + 1, by omega, by go_num, ?_, _, rfl⟩
            unfold Hid; rw [hin.out, hdx.out, hdy.out, Hxy.out]; simp
          case measure => simp [intOf]; omega
        · have e1 : (x != y) = true := by simp [hxy]
          have Hxy := Lib.hid hxy; clear hxy
          go_wp2
          go_quiet (fail)
          go_wp2
          go_ret
          refine ⟨ret_bool ?_, _, World.drewN_drewN _ _ _⟩
          rw [hin.out, hdx.out, hdy.out, List.cons_beq_cons, beq_false_of_ne Hxy.out]; rfl
      · go_wp2
        go_ret
        refine ⟨ret_bool ?_, n, rfl⟩
        rw [hin.out, drop_end hlt, drop_end (by rw [← Hl.out]; exact hlt)]; rfl
  · have e0 : ((xs.length : Int) != (ys.length : Int)) = true := by simp; omega
    go_enter Try.func19, Try.ntmps19
    go_wp2
    go_ret
    refine ⟨ret_bool ?_, 0, rfl⟩
    cases hb : xs == ys
    · rfl
    · exact absurd (congrArg List.length (eq_of_beq hb)) hl

def SomeBool (w : World) (e : Ending) (w' : World) : Prop := (∃ b : Bool, e = .returned (.bool b)) ∧ Below w.heap.size w w'
set_option maxRecDepth 100000 in
set_option maxHeartbeats 4000000 in
theorem greatFit_calls (f : Fit) (A1 : Option Addr) (c1 : Nat) (A2 : Option Addr) (c2 : Nat) (A3 : Option Addr) (c3 : Nat) (A4 : Option Addr) (c4 : Nat) (w : World) (h : FitAt f (Old w) w A1 c1 A2 c2 A3 c3 A4 c4) : Calls Try.prog 10 #[.agg #[.slice A1 f.lo.length c1, .slice A2 f.hi.length c2, .slice A3 f.terms.length c3, .slice A4 f.goals.length c4]] w (SomeBool w) := by
  have m1 := h.l.lenle
  have m2 := h.h.lenle
  have m3 := h.t.lenle
  have m4 := h.g.lenle
  obtain ⟨W0, hW0⟩ : ∃ W0, W0 = w.alloc (.cells #[.slice A1 f.lo.length c1, .slice A2 f.hi.length c2, .slice A3 f.terms.length c3, .slice A4 f.goals.length c4] 25) := ⟨_, rfl⟩
  have hb0 : Below w.heap.size w W0 := by rw [hW0]; exact (Below.refl _ _).alloc (Nat.le_refl _) _
  have hz0 : w.heap.size + 1 ≤ W0.heap.size := by rw [hW0]; simp
  have hl0 : w.heap.size < W0.heap.size := by omega
  have hbl0 : Blk W0 w.heap.size 25 #[.slice A1 f.lo.length c1, .slice A2 f.hi.length c2, .slice A3 f.terms.length c3, .slice A4 f.goals.length c4] := by rw [hW0]; exact Blk.new _ _ _
  have h0 := h.later hb0
  have cells : ∀ W : World, Below W0.heap.size W0 W → (W.cell? ⟨w.heap.size, 0, none⟩ = some (.slice A1 f.lo.length c1) ∧ W.cell? ⟨w.heap.size, 1, none⟩ = some (.slice A2 f.hi.length c2) ∧ W.cell? ⟨w.heap.size, 2, none⟩ = some (.slice A3 f.terms.length c3) ∧ W.cell? ⟨w.heap.size, 3, none⟩ = some (.slice A4 f.goals.length c4)) := fun W hW => (hbl0.same (hW.block _ (by omega))).four
  have H0 := Lib.hid h0; clear h0
  have Hb0 := Lib.hid hb0; clear hb0
  have Hbl0 := Lib.hid hbl0; clear hbl0
  have HW0 := Lib.hid hW0; clear hW0
  have Cells := Lib.hid cells; clear cells
  clear h
  by_cases t1 : 10 < f.lo.length
  · go_enter Try.func10, Try.ntmps10
    go_wp2
    go_ret
    exact ⟨⟨_, rfl⟩, by rw [← HW0.out]; exact Hb0.out⟩
  by_cases t2 : 10 < f.hi.length
  · go_enter Try.func10, Try.ntmps10
    go_wp2
    go_ret
    exact ⟨⟨_, rfl⟩, by rw [← HW0.out]; exact Hb0.out⟩
  by_cases t3 : 30 < f.terms.length
  · go_enter Try.func10, Try.ntmps10
    go_wp2
    go_ret
    exact ⟨⟨_, rfl⟩, by rw [← HW0.out]; exact Hb0.out⟩
  by_cases t4 : 30 < f.goals.length
  · go_enter Try.func10, Try.ntmps10
    go_wp2
    go_ret
    exact ⟨⟨_, rfl⟩, by rw [← HW0.out]; exact Hb0.out⟩
  go_enter Try.func10, Try.ntmps10
  go_wp2
  rw [← HW0.out]
  go_loop [3] (fun i => ∃ k : Nat, k ≤ f.terms.length ∧ i = .int .i64 k) (fun i => f.terms.length - (intOf i).toNat)
  case atStart => exact ⟨0, Nat.zero_le _, rfl⟩
  case round =>
    obtain ⟨k, hk, rfl⟩ := hrel
    obtain ⟨x0, x1, x2, x3⟩ := Cells.out W0 (Below.refl _ _)
    by_cases hlt : k < f.terms.length
    · obtain ⟨b, o, A, c, t, hd, rfl, hob, hs0, hs1, hsc, hsa, hsl⟩ := H0.out.t.getFrm hlt
      by_cases hc : 10 < t.coefs.length
      · go_wp2
        go_ret
        exact ⟨⟨_, rfl⟩, Hb0.out⟩
      · go_wp2
        go_round
        case rel => exact ⟨k + 1, by omega, by go_num⟩
        case measure => simp [intOf]; omega
    · have hvc := refValid_calls f A1 c1 A2 c2 A3 c3 A4 c4 W0 H0.out
      cases hv : validF f
      · rw [hv] at hvc
        have Hvc := Lib.hid hvc; clear hvc
        clear hv
        go_wp2_with fail
        refine Hvc.out.mono ?_
        rintro e w1 ⟨rfl, hb1⟩
        have hbw := Hb0.out.trans (hb1.mono (by omega))
        have Hbw := Lib.hid hbw; clear hbw
        clear hb1
        go_wp2
        go_ret
        exact ⟨⟨_, rfl⟩, Hbw.out⟩
      · obtain ⟨p1, p2, p3, p4, p5, p6, p7⟩ := valid_parts hv
        rw [hv] at hvc
        have Hvc := Lib.hid hvc; clear hvc
        have P3 := Lib.hid p3; clear p3
        have P6 := Lib.hid p6; clear p6
        clear hv p4 p5 p7
        go_wp2_with fail
        refine Hvc.out.mono ?_
        rintro e w1 ⟨rfl, hb1⟩
        have z1 := hb1.size
        clear x0 x1 x2 x3
        obtain ⟨x0, x1, x2, x3⟩ := Cells.out w1 hb1
        have Hb1 := Lib.hid hb1
        clear hb1
        go_wp2_with fail
        refine (refMany_calls f.lo f.hi A1 c1 A2 c2 w1 (H0.out.later Hb1.out).l (H0.out.later Hb1.out).h P3.out P6.out).mono ?_
        rintro e w2 ⟨rfl, hb2⟩
        have Hb2 := Lib.hid (Hb1.out.trans (hb2.mono z1)); clear hb2
        have z2 := Hb2.out.size
        obtain ⟨mv, hmv⟩ : ∃ mv, manyF 1 f.lo f.hi = mv := ⟨_, rfl⟩
        rw [hmv]
        have Hmv := Lib.hid hmv; clear hmv
        clear x0 x1 x2 x3
        obtain ⟨x0, x1, x2, x3⟩ := Cells.out w2 Hb2.out
        by_cases h400 : 400 < mv
        · go_wp2_with fail
          refine (refMany_calls f.lo f.hi A1 c1 A2 c2 w2 (H0.out.later Hb2.out).l (H0.out.later Hb2.out).h P3.out P6.out).mono ?_
          rintro e w3 ⟨rfl, hb3⟩
          have Hb3 := Lib.hid (Hb2.out.trans (hb3.mono z2)); clear hb3
          have z3 := Hb3.out.size
          go_wp2
          go_ret
          exact ⟨⟨_, rfl⟩, Hb0.out.trans (Hb3.out.mono (by omega))⟩
        · go_wp2
          go_ret
          exact ⟨⟨_, rfl⟩, Hb0.out.trans (Hb2.out.mono (by omega))⟩

def bestR (f : Fit) : List Int × Int := if checkFit f = 0 then bestF f else ([], 0)
theorem best_uniform {f : Fit} {w w' : World} {e : Ending} (h : BestPost f w e w') : Below w.heap.size w w' ∧ ∃ A c, e = .returned (.tuple #[.slice A (bestR f).1.length c, .int .i64 (bestR f).2, .int .i64 (checkFit f)]) ∧ SlAt (pI .i64) (fun k => w.heap.size ≤ k ∧ k < w'.heap.size) w' A c (bestR f).1 := by
  obtain ⟨hb, ⟨h1, rfl⟩ | ⟨h1, A, c, rfl, hs⟩⟩ := h
  · refine ⟨hb, none, 0, ?_, ?_⟩
    · unfold bestR; rw [if_neg h1]; rfl
    · unfold bestR; rw [if_neg h1]; exact ⟨Nat.le_refl _, Nat.zero_le _, fun _ => rfl, fun i x hx => by simp at hx⟩
  · refine ⟨hb, A, c, ?_, ?_⟩
    · unfold bestR; rw [if_pos h1, h1]
    · unfold bestR; rw [if_pos h1]; exact hs

set_option maxRecDepth 100000 in
set_option maxHeartbeats 8000000 in
theorem fitCosts_walk (f : Fit) (A1 : Option Addr) (c1 : Nat) (A2 : Option Addr) (c2 : Nat) (A3 : Option Addr) (c3 : Nat) (A4 : Option Addr) (c4 : Nat) (x : List Int) (B3 : Option Addr) (d3 : Nat) (lo hi : List Int) (B1 : Option Addr) (d1 : Nat) (B2 : Option Addr) (d2 : Nat) (w : World) (h : FitAt f (Old w) w A1 c1 A2 c2 A3 c3 A4 c4) (hx : SlAt (pI .i64) (Old w) w B3 d3 x) (hl : SlAt (pI .i64) (Old w) w B1 d1 lo) (hh : SlAt (pI .i64) (Old w) w B2 d2 hi) :
    Calls Try.prog 3 #[.agg #[.slice A1 f.lo.length c1, .slice A2 f.hi.length c2, .slice A3 f.terms.length c3, .slice A4 f.goals.length c4], .slice B3 x.length d3, .agg #[.slice B1 lo.length d1, .slice B2 hi.length d2]] w (OkPost w) := by
  have m1 := hx.lenle
  have m2 := hl.lenle
  have m3 := hh.lenle
  obtain ⟨W0, hW0⟩ : ∃ W0, W0 = (w.alloc (.cells #[.slice A1 f.lo.length c1, .slice A2 f.hi.length c2, .slice A3 f.terms.length c3, .slice A4 f.goals.length c4] 25)).alloc (.cells #[.slice B1 lo.length d1, .slice B2 hi.length d2] 27) := ⟨_, rfl⟩
  have hb0 : Below w.heap.size w W0 := by rw [hW0]; exact ((Below.refl _ _).alloc (Nat.le_refl _) _).alloc (by simp) _
  have hz0 : W0.heap.size = w.heap.size + 2 := by rw [hW0]; simp
  have hbf : Blk W0 w.heap.size 25 #[.slice A1 f.lo.length c1, .slice A2 f.hi.length c2, .slice A3 f.terms.length c3, .slice A4 f.goals.length c4] := by rw [hW0]; exact (Blk.new _ _ _).alloc _
  have hbc : Blk W0 (w.heap.size + 1) 27 #[.slice B1 lo.length d1, .slice B2 hi.length d2] := by
    rw [hW0]
    have := Blk.new (w.alloc (.cells #[.slice A1 f.lo.length c1, .slice A2 f.hi.length c2, .slice A3 f.terms.length c3, .slice A4 f.goals.length c4] 25)) 27 #[.slice B1 lo.length d1, .slice B2 hi.length d2]
    rwa [show (w.alloc (.cells #[.slice A1 f.lo.length c1, .slice A2 f.hi.length c2, .slice A3 f.terms.length c3, .slice A4 f.goals.length c4] 25)).heap.size = w.heap.size + 1 from by simp] at this
  have h0 := h.later hb0
  have h1 := hl.later hb0
  have h2 := hh.later hb0
  have h3 := hx.later hb0
  have hzl : w.heap.size + 1 < W0.heap.size := by omega
  have cells : ∀ W : World, Below W0.heap.size W0 W → (W.cell? ⟨w.heap.size, 0, none⟩ = some (.slice A1 f.lo.length c1) ∧ W.cell? ⟨w.heap.size, 1, none⟩ = some (.slice A2 f.hi.length c2) ∧ W.cell? ⟨w.heap.size, 2, none⟩ = some (.slice A3 f.terms.length c3) ∧ W.cell? ⟨w.heap.size, 3, none⟩ = some (.slice A4 f.goals.length c4)) ∧
      W.cell? ⟨w.heap.size + 1, 0, none⟩ = some (.slice B1 lo.length d1) ∧ W.cell? ⟨w.heap.size + 1, 1, none⟩ = some (.slice B2 hi.length d2) := fun W hW => ⟨(hbf.same (hW.block _ (by omega))).four, (hbc.same (hW.block _ hzl)).two⟩
  have H0 := Lib.hid h0; clear h0
  have H1 := Lib.hid h1; clear h1
  have H2 := Lib.hid h2; clear h2
  have H3 := Lib.hid h3; clear h3
  have Hb0 := Lib.hid hb0; clear hb0
  have Hbf := Lib.hid hbf; clear hbf
  have Hbc := Lib.hid hbc; clear hbc
  have Hz0 := Lib.hid hz0; clear hz0
  have HW0 := Lib.hid hW0; clear hW0
  have Cells := Lib.hid cells; clear cells
  clear h hl hh hx
  go_enter Try.func3, Try.ntmps3
  go_wp2_with fail
  rw [← HW0.out]
  refine (greatFit_calls f A1 c1 A2 c2 A3 c3 A4 c4 W0 H0.out).mono ?_
  rintro e w1 ⟨⟨bg, rfl⟩, hb1⟩
  have z1 := hb1.size
  have Hb1 := Lib.hid hb1
  clear hb1
  obtain ⟨⟨x0, x1, x2, x3⟩, y0, y1⟩ := Cells.out w1 Hb1.out
  cases bg
  · by_cases t1 : 10 < x.length
    · go_wp2
      go_ret
      exact ⟨rfl, Hb0.out.trans (Hb1.out.mono (by omega))⟩
    by_cases t2 : 10 < lo.length
    · go_wp2
      go_ret
      exact ⟨rfl, Hb0.out.trans (Hb1.out.mono (by omega))⟩
    by_cases t3 : 10 < hi.length
    · go_wp2
      go_ret
      exact ⟨rfl, Hb0.out.trans (Hb1.out.mono (by omega))⟩
    go_wp2_with fail
    refine (cost_calls f A1 c1 A2 c2 A3 c3 A4 c4 x B3 d3 w1 (H0.out.later Hb1.out) (H3.out.later Hb1.out)).mono ?_
    rintro e w2 ⟨rfl, hb2⟩
    have Hb2 := Lib.hid (Hb1.out.trans (hb2.mono z1)); clear hb2
    have z2 := Hb2.out.size
    clear x0 x1 x2 x3 y0 y1
    obtain ⟨⟨x0, x1, x2, x3⟩, y0, y1⟩ := Cells.out w2 Hb2.out
    go_wp2_with fail
    refine (refCost_calls f A1 c1 A2 c2 A3 c3 A4 c4 x B3 d3 w2 (H0.out.later Hb2.out) (H3.out.later Hb2.out)).mono ?_
    rintro e w3 ⟨rfl, hb3⟩
    have Hb3 := Lib.hid (Hb2.out.trans (hb3.mono z2)); clear hb3
    have z3 := Hb3.out.size
    clear x0 x1 x2 x3 y0 y1
    obtain ⟨⟨x0, x1, x2, x3⟩, y0, y1⟩ := Cells.out w3 Hb3.out
    go_wp2_with fail
    refine (fLower_calls f A1 c1 A2 c2 A3 c3 A4 c4 lo hi B1 d1 B2 d2 w3 (H0.out.later Hb3.out) (H1.out.later Hb3.out) (H2.out.later Hb3.out)).mono ?_
    rintro e w4 ⟨rfl, hb4⟩
    have Hb4 := Lib.hid (Hb3.out.trans (hb4.mono z3)); clear hb4
    have z4 := Hb4.out.size
    clear x0 x1 x2 x3 y0 y1
    obtain ⟨⟨x0, x1, x2, x3⟩, y0, y1⟩ := Cells.out w4 Hb4.out
    go_wp2_with fail
    refine (refLower_calls f A1 c1 A2 c2 A3 c3 A4 c4 lo hi B1 d1 B2 d2 w4 (H0.out.later Hb4.out) (H1.out.later Hb4.out) (H2.out.later Hb4.out)).mono ?_
    rintro e w5 ⟨rfl, hb5⟩
    have Hb5 := Lib.hid (Hb4.out.trans (hb5.mono z4)); clear hb5
    have z5 := Hb5.out.size
    clear x0 x1 x2 x3 y0 y1
    obtain ⟨⟨x0, x1, x2, x3⟩, y0, y1⟩ := Cells.out w5 Hb5.out
    go_wp2_with fail
    refine (best_calls f A1 c1 A2 c2 A3 c3 A4 c4 w5 (H0.out.later Hb5.out)).mono ?_
    intro e w6 hbp
    obtain ⟨hb6, A6, c6, rfl, hs6⟩ := best_uniform hbp
    have Hb6 := Lib.hid (Hb5.out.trans (hb6.mono z5))
    have z6 := Hb6.out.size
    clear hb6 hbp
    clear x0 x1 x2 x3 y0 y1
    obtain ⟨⟨x0, x1, x2, x3⟩, y0, y1⟩ := Cells.out w6 Hb6.out
    have Hs6 := Lib.hid hs6; clear hs6
    go_wp2_with fail
    refine (refBest_calls f A1 c1 A2 c2 A3 c3 A4 c4 w6 (H0.out.later Hb6.out)).mono ?_
    intro e w7 hbp
    obtain ⟨hb7, A7, c7, rfl, hs7⟩ := best_uniform hbp
    have hs67 : SlAt (pI .i64) (Old w7) w7 A6 c6 (bestR f).1 := (Hs6.out.keep fun k hk => hb7.block k hk.2).wide fun k hk => Nat.lt_of_lt_of_le hk.2 hb7.size
    have hs77 : SlAt (pI .i64) (Old w7) w7 A7 c7 (bestR f).1 := hs7.wide fun k hk => hk.2
    have Hb7 := Lib.hid (Hb6.out.trans (hb7.mono z6))
    have z7 := Hb7.out.size
    clear hb7 hbp hs7
    clear x0 x1 x2 x3 y0 y1
    obtain ⟨⟨x0, x1, x2, x3⟩, y0, y1⟩ := Cells.out w7 Hb7.out
    have k0 := cell_regrown x0
    have k1 := cell_regrown x1
    have k2 := cell_regrown x2
    have k3 := cell_regrown x3
    have hf7 := H0.out.later Hb7.out
    have hc1 : ∀ (q : Nat) (os : Array Obj), Calls Try.prog 17 #[.agg #[.slice A1 f.lo.length c1, .slice A2 f.hi.length c2, .slice A3 f.terms.length c3, .slice A4 f.goals.length c4]] (grow (redrawn w7 q) os) fun e w'' => e = .returned (.int .i64 (checkFit f)) ∧ ∃ p : Regrown, w'' = grow (redrawn w7 p.d) p.os := fun q os => Calls.regrown_of (fCheck_calls f A1 c1 A2 c2 A3 c3 A4 c4 _ (hf7.later (below_regrown w7 q os)))
    have hc2 : ∀ (q : Nat) (os : Array Obj), Calls Try.prog 18 #[.agg #[.slice A1 f.lo.length c1, .slice A2 f.hi.length c2, .slice A3 f.terms.length c3, .slice A4 f.goals.length c4]] (grow (redrawn w7 q) os) fun e w'' => e = .returned (.int .i64 (checkFit f)) ∧ ∃ p : Regrown, w'' = grow (redrawn w7 p.d) p.os := fun q os => Calls.regrown_of (refFCheck_calls f A1 c1 A2 c2 A3 c3 A4 c4 _ (hf7.later (below_regrown w7 q os)))
    have hc3 : ∀ (q : Nat) (os : Array Obj), Calls Try.prog 19 #[.slice A6 (bestR f).1.length c6, .slice A7 (bestR f).1.length c7] (grow (redrawn w7 q) os) fun e w'' => e = .returned (.bool true) ∧ ∃ p : Regrown, w'' = grow (redrawn w7 p.d) p.os := fun q os => by
      have hg := below_regrown w7 q os
      refine Calls.regrown_of ((sameInts_calls A6 A7 c6 c7 (bestR f).1 (bestR f).1 _ (hs67.below hg) (hs77.below hg)).mono fun e w' ⟨he, n, hn⟩ => ⟨by rw [he]; simp, ?_⟩)
      rw [hn]; exact below_drewN (Below.refl _ _) n
    obtain ⟨cv, hcv⟩ : ∃ cv, checkFit f = cv := ⟨_, rfl⟩
    rw [hcv] at hc1 hc2 ⊢
    obtain ⟨⟨p1, p2⟩, hp⟩ : ∃ p, lowerF f x x = p := ⟨_, rfl⟩
    obtain ⟨⟨q1, q2⟩, hq⟩ : ∃ p, lowerF f lo hi = p := ⟨_, rfl⟩
    obtain ⟨bl, hbl⟩ : ∃ bl, (bestR f).1.length = bl := ⟨_, rfl⟩
    obtain ⟨bc, hbc2⟩ : ∃ bc, (bestR f).2 = bc := ⟨_, rfl⟩
    rw [hbl] at hc3 ⊢
    rw [hp, hq, hbc2]
    have Hc1 := Lib.hid hc1; clear hc1
    have Hc2 := Lib.hid hc2; clear hc2
    have Hc3 := Lib.hid hc3; clear hc3
    have Hf7 := Lib.hid hf7; clear hf7
    have Hcv := Lib.hid hcv; clear hcv
    have Hp := Lib.hid hp; clear hp
    have Hq := Lib.hid hq; clear hq
    have Hbl := Lib.hid hbl; clear hbl
    have Hbc2 := Lib.hid hbc2; clear hbc2
    have Hs67 := Lib.hid hs67; clear hs67
    have Hs77 := Lib.hid hs77; clear hs77
    clear x0 x1 x2 x3 y0 y1
    go_wp2
    refine wp_region_quiet_below (by kernel_rfl) (by kernel_rfl) ?_
    repeat (quiet_step (first | exact Hc1.out _ _ | exact Hc2.out _ _ | exact Hc3.out _ _))
    refine wpQuiet_nil ?_
    intro _ hw'
    obtain ⟨⟨dq, osq⟩, hw''⟩ := hw'
    subst hw''
    have hbr := below_regrown w7 dq osq
    have hbw := Hb0.out.trans ((Hb7.out.trans (hbr.mono z7)).mono (by omega))
    have Hbw := Lib.hid hbw; clear hbw
    clear hbr k0 k1 k2 k3
    go_wp2
    go_ret
    exact ⟨rfl, Hbw.out⟩
  · go_wp2
    go_ret
    exact ⟨rfl, Hb0.out.trans (Hb1.out.mono (by omega))⟩
end Go.Proofs.Ytcdplnikpbbomaa
