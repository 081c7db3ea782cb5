/-
  Layer 43: the walks of the statements' own helpers: costs, alive, small.
-/
import Derived.Test.YtcdplnikpbbomaaUc
import Derived.Test.YtcdplnikpbbomaaZu
import Derived.Test.YtcdplnikpbbomaaZy
namespace Go.Proofs.Ytcdplnikpbbomaa
open Go.RowKit Go.Sort


def GreatPost (f : Fit) (w : World) (e : Ending) (w' : World) : Prop := (∃ b : Bool, e = .returned (.bool b) ∧ (b = false → validF f = true → 400 < manyF 1 f.lo f.hi → 20000 < manyF 1 f.lo f.hi)) ∧ Below w.heap.size w w'
set_option maxRecDepth 100000 in
set_option maxHeartbeats 4000000 in
theorem greatFit2_calls (f : Fit) (A1 : Option Addr) (c1 : Nat) (A2 : Option Addr) (c2 : Nat) (A3 : Option Addr) (c3 : Nat) (A4 : Option Addr) (c4 : Nat) (w : World) (h : FitAt f (Old w) w A1 c1 A2 c2 A3 c3 A4 c4) : Calls Try.prog 10 #[.agg #[.slice A1 f.lo.length c1, .slice A2 f.hi.length c2, .slice A3 f.terms.length c3, .slice A4 f.goals.length c4]] w (GreatPost f w) := by
  have m1 := h.l.lenle
  have m2 := h.h.lenle
  have m3 := h.t.lenle
  have m4 := h.g.lenle
  obtain ⟨W0, hW0⟩ : ∃ W0, W0 = w.alloc (.cells #[.slice A1 f.lo.length c1, .slice A2 f.hi.length c2, .slice A3 f.terms.length c3, .slice A4 f.goals.length c4] 25) := ⟨_, rfl⟩
  have hb0 : Below w.heap.size w W0 := by rw [hW0]; exact (Below.refl _ _).alloc (Nat.le_refl _) _
  have hz0 : w.heap.size + 1 ≤ W0.heap.size := by rw [hW0]; simp
  have hl0 : w.heap.size < W0.heap.size := by omega
  have hbl0 : Blk W0 w.heap.size 25 #[.slice A1 f.lo.length c1, .slice A2 f.hi.length c2, .slice A3 f.terms.length c3, .slice A4 f.goals.length c4] := by rw [hW0]; exact Blk.new _ _ _
  have h0 := h.later hb0
  have cells : ∀ W : World, Below W0.heap.size W0 W → (W.cell? ⟨w.heap.size, 0, none⟩ = some (.slice A1 f.lo.length c1) ∧ W.cell? ⟨w.heap.size, 1, none⟩ = some (.slice A2 f.hi.length c2) ∧ W.cell? ⟨w.heap.size, 2, none⟩ = some (.slice A3 f.terms.length c3) ∧ W.cell? ⟨w.heap.size, 3, none⟩ = some (.slice A4 f.goals.length c4)) := fun W hW => (hbl0.same (hW.block _ (by omega))).four
  have H0 := Lib.hid h0; clear h0
  have Hb0 := Lib.hid hb0; clear hb0
  have Hbl0 := Lib.hid hbl0; clear hbl0
  have HW0 := Lib.hid hW0; clear hW0
  have Cells := Lib.hid cells; clear cells
  clear h
  by_cases t1 : 10 < f.lo.length
  · go_enter Try.func10, Try.ntmps10
    go_wp2
    go_ret
    exact ⟨⟨_, rfl, fun h => by cases h⟩, by rw [← HW0.out]; exact Hb0.out⟩
  by_cases t2 : 10 < f.hi.length
  · go_enter Try.func10, Try.ntmps10
    go_wp2
    go_ret
    exact ⟨⟨_, rfl, fun h => by cases h⟩, by rw [← HW0.out]; exact Hb0.out⟩
  by_cases t3 : 30 < f.terms.length
  · go_enter Try.func10, Try.ntmps10
    go_wp2
    go_ret
    exact ⟨⟨_, rfl, fun h => by cases h⟩, by rw [← HW0.out]; exact Hb0.out⟩
  by_cases t4 : 30 < f.goals.length
  · go_enter Try.func10, Try.ntmps10
    go_wp2
    go_ret
    exact ⟨⟨_, rfl, fun h => by cases h⟩, by rw [← HW0.out]; exact Hb0.out⟩
  go_enter Try.func10, Try.ntmps10
  go_wp2
  rw [← HW0.out]
  go_loop [3] (fun i => ∃ k : Nat, k ≤ f.terms.length ∧ i = .int .i64 k) (fun i => f.terms.length - (intOf i).toNat)
  case atStart => exact ⟨0, Nat.zero_le _, rfl⟩
  case round =>
    obtain ⟨k, hk, rfl⟩ := hrel
    obtain ⟨x0, x1, x2, x3⟩ := Cells.out W0 (Below.refl _ _)
    by_cases hlt : k < f.terms.length
    · obtain ⟨b, o, A, c, t, hd, rfl, hob, hs0, hs1, hsc, hsa, hsl⟩ := H0.out.t.getFrm hlt
      by_cases hc : 10 < t.coefs.length
      · go_wp2
        go_ret
        exact ⟨⟨_, rfl, fun h => by cases h⟩, Hb0.out⟩
      · go_wp2
        go_round
        case rel => exact ⟨k + 1, by omega, by go_num⟩
        case measure => simp [intOf]; omega
    · have hvc := refValid_calls f A1 c1 A2 c2 A3 c3 A4 c4 W0 H0.out
      cases hv : validF f
      · rw [hv] at hvc
        have Hvc := Lib.hid hvc; clear hvc
        have Hv0 := Lib.hid hv
        clear hv
        go_wp2_with fail
        refine Hvc.out.mono ?_
        rintro e w1 ⟨rfl, hb1⟩
        have hbw := Hb0.out.trans (hb1.mono (by omega))
        have Hbw := Lib.hid hbw; clear hbw
        clear hb1
        go_wp2
        go_ret
        exact ⟨⟨_, rfl, fun _ h => by rw [Hv0.out] at h; cases h⟩, Hbw.out⟩
      · obtain ⟨p1, p2, p3, p4, p5, p6, p7⟩ := valid_parts hv
        rw [hv] at hvc
        have Hvc := Lib.hid hvc; clear hvc
        have P3 := Lib.hid p3; clear p3
        have P6 := Lib.hid p6; clear p6
        clear hv p4 p5 p7
        go_wp2_with fail
        refine Hvc.out.mono ?_
        rintro e w1 ⟨rfl, hb1⟩
        have z1 := hb1.size
        clear x0 x1 x2 x3
        obtain ⟨x0, x1, x2, x3⟩ := Cells.out w1 hb1
        have Hb1 := Lib.hid hb1
        clear hb1
        go_wp2_with fail
        refine (refMany_calls f.lo f.hi A1 c1 A2 c2 w1 (H0.out.later Hb1.out).l (H0.out.later Hb1.out).h P3.out P6.out).mono ?_
        rintro e w2 ⟨rfl, hb2⟩
        have Hb2 := Lib.hid (Hb1.out.trans (hb2.mono z1)); clear hb2
        have z2 := Hb2.out.size
        obtain ⟨mv, hmv⟩ : ∃ mv, manyF 1 f.lo f.hi = mv := ⟨_, rfl⟩
        rw [hmv]
        have Hmv := Lib.hid hmv; clear hmv
        clear x0 x1 x2 x3
        obtain ⟨x0, x1, x2, x3⟩ := Cells.out w2 Hb2.out
        by_cases h400 : 400 < mv
        · go_wp2_with fail
          refine (refMany_calls f.lo f.hi A1 c1 A2 c2 w2 (H0.out.later Hb2.out).l (H0.out.later Hb2.out).h P3.out P6.out).mono ?_
          rintro e w3 ⟨rfl, hb3⟩
          have Hb3 := Lib.hid (Hb2.out.trans (hb3.mono z2)); clear hb3
          have z3 := Hb3.out.size
          go_wp2
          go_ret
          exact ⟨⟨_, rfl, fun h _ _ => by simpa using h⟩, Hb0.out.trans (Hb3.out.mono (by omega))⟩
        · go_wp2
          go_ret
          exact ⟨⟨_, rfl, fun _ _ h => absurd h (by rw [Hmv.out]; omega)⟩, Hb0.out.trans (Hb2.out.mono (by omega))⟩


theorem FitAt.new {f : Fit} {B : Nat} {w : World} (A1 : Option Addr) (c1 : Nat) (A2 : Option Addr) (c2 : Nat) (A3 : Option Addr) (c3 : Nat) (A4 : Option Addr) (c4 : Nat) (h : FitAt f (fun k => B ≤ k ∧ k < w.heap.size) w A1 c1 A2 c2 A3 c3 A4 c4) : FitAt f (Old w) w A1 c1 A2 c2 A3 c3 A4 c4 := h.keep fun _ hk => ⟨rfl, hk.2⟩
theorem sl_new {α : Type} {E : Rp α} {B : Nat} {w : World} {A : Option Addr} {c : Nat} {xs : List α} (h : SlAt E (fun k => B ≤ k ∧ k < w.heap.size) w A c xs) : SlAt E (Old w) w A c xs := h.wide fun _ hk => hk.2
theorem cnt_of_check' {f : Fit} (hck : checkFit f = 0) : manyF 1 f.lo f.hi ≤ 20000 := by
  have hv := checkFit_valid hck
  unfold checkFit at hck
  rw [if_pos hv] at hck
  by_cases hb : 20000 < manyF 1 f.lo f.hi
  · rw [if_pos hb] at hck; omega
  · omega
set_option maxRecDepth 100000 in
set_option maxHeartbeats 4000000 in
theorem costs_calls (a b want : Int) (w : World) (ha : Fits .i64 a) (hb : Fits .i64 b) (h : lowerF givenF [a] [b] = (want, 0)) : Calls Try.prog 49 #[.int .i64 a, .int .i64 b, .int .i64 want] w (BoolPost true w) := by
  have H := Lib.hid h; clear h
  have Ha := Lib.hid ha; clear ha
  have Hb := Lib.hid hb; clear hb
  go_enter Try.func49, Try.ntmps49
  go_wp2_with fail
  refine (given_calls w).mono ?_
  rintro e w1 ⟨hb1, A1, c1, A2, c2, A3, c3, A4, c4, rfl, hf1⟩
  have z1 := hb1.size
  have Hb1 := Lib.hid hb1; clear hb1
  have Hf1 := Lib.hid hf1; clear hf1
  go_wp2_with fail
  refine (cube_calls a b w1 Ha.out Hb.out).mono ?_
  rintro e w2 ⟨hb2, B1, d1, B2, d2, rfl, hl2, hh2⟩
  have z2 := hb2.size
  have hb12 := Hb1.out.trans (hb2.mono z1)
  have hf2 := Hf1.out.new.later hb2
  have Hb12 := Lib.hid hb12; clear hb12
  have Hf2 := Lib.hid hf2; clear hf2
  have Hl2 := Lib.hid hl2; clear hl2
  have Hh2 := Lib.hid hh2; clear hh2
  clear hb2
  go_wp2_with fail
  have hc := fLower_calls givenF A1 c1 A2 c2 A3 c3 A4 c4 [a] [b] B1 d1 B2 d2 w2 Hf2.out (sl_new Hl2.out) (sl_new Hh2.out)
  rw [H.out] at hc
  refine hc.mono ?_
  rintro e w3 ⟨rfl, hb3⟩
  have hbw := Hb12.out.trans (hb3.mono (by omega))
  have Hbw := Lib.hid hbw; clear hbw
  clear hb3 hc
  go_wp2
  go_ret
  exact ⟨rfl, Hbw.out⟩

def SmallPost (f : Fit) (w : World) (e : Ending) (w' : World) : Prop := (∃ b : Bool, e = .returned (.bool b) ∧ (b = true → checkFit f = 0 ∧ manyF 1 f.lo f.hi ≤ 400)) ∧ Below w.heap.size w w'
set_option maxRecDepth 100000 in
set_option maxHeartbeats 4000000 in
theorem small_calls (f : Fit) (A1 : Option Addr) (c1 : Nat) (A2 : Option Addr) (c2 : Nat) (A3 : Option Addr) (c3 : Nat) (A4 : Option Addr) (c4 : Nat) (w : World) (h : FitAt f (Old w) w A1 c1 A2 c2 A3 c3 A4 c4) : Calls Try.prog 31 #[.agg #[.slice A1 f.lo.length c1, .slice A2 f.hi.length c2, .slice A3 f.terms.length c3, .slice A4 f.goals.length c4]] w (SmallPost f w) := by
  obtain ⟨W0, hW0⟩ : ∃ W0, W0 = w.alloc (.cells #[.slice A1 f.lo.length c1, .slice A2 f.hi.length c2, .slice A3 f.terms.length c3, .slice A4 f.goals.length c4] 25) := ⟨_, rfl⟩
  have hb0 : Below w.heap.size w W0 := by rw [hW0]; exact (Below.refl _ _).alloc (Nat.le_refl _) _
  have hz0 : w.heap.size + 1 ≤ W0.heap.size := by rw [hW0]; simp
  have hl0 : w.heap.size < W0.heap.size := by omega
  have hbl0 : Blk W0 w.heap.size 25 #[.slice A1 f.lo.length c1, .slice A2 f.hi.length c2, .slice A3 f.terms.length c3, .slice A4 f.goals.length c4] := by rw [hW0]; exact Blk.new _ _ _
  have h0 := h.later hb0
  have cells : ∀ W : World, Below W0.heap.size W0 W → (W.cell? ⟨w.heap.size, 0, none⟩ = some (.slice A1 f.lo.length c1) ∧ W.cell? ⟨w.heap.size, 1, none⟩ = some (.slice A2 f.hi.length c2) ∧ W.cell? ⟨w.heap.size, 2, none⟩ = some (.slice A3 f.terms.length c3) ∧ W.cell? ⟨w.heap.size, 3, none⟩ = some (.slice A4 f.goals.length c4)) := fun W hW => (hbl0.same (hW.block _ (by omega))).four
  have H0 := Lib.hid h0; clear h0
  have Hb0 := Lib.hid hb0; clear hb0
  have Hbl0 := Lib.hid hbl0; clear hbl0
  have HW0 := Lib.hid hW0; clear hW0
  have Cells := Lib.hid cells; clear cells
  clear h
  go_enter Try.func31, Try.ntmps31
  go_wp2_with fail
  rw [← HW0.out]
  refine (greatFit2_calls f A1 c1 A2 c2 A3 c3 A4 c4 W0 H0.out).mono ?_
  rintro e w1 ⟨⟨b, rfl, hg⟩, hb1⟩
  have z1 := hb1.size
  obtain ⟨x0, x1, x2, x3⟩ := Cells.out w1 hb1
  have Hb1 := Lib.hid hb1; clear hb1
  have Hg := Lib.hid hg; clear hg
  cases b
  · go_wp2_with fail
    refine (refFCheck_calls f A1 c1 A2 c2 A3 c3 A4 c4 w1 (H0.out.later Hb1.out)).mono ?_
    rintro e w2 ⟨rfl, hb2⟩
    have hbw := Hb0.out.trans ((Hb1.out.trans (hb2.mono z1)).mono (by omega))
    have Hbw := Lib.hid hbw; clear hbw
    clear hb2
    go_wp2
    go_ret
    refine ⟨⟨_, rfl, fun hc => ?_⟩, Hbw.out⟩
    have hck : checkFit f = 0 := by simpa using hc
    have hv := checkFit_valid hck
    refine ⟨hck, ?_⟩
    have hcm := cnt_of_check' hck
    by_cases h4 : 400 < manyF 1 f.lo f.hi
    · have := Hg.out trivial hv h4
      omega
    · omega
  · have hbw := Hb0.out.trans (Hb1.out.mono (by omega))
    have Hbw := Lib.hid hbw; clear hbw
    go_wp2
    go_ret
    exact ⟨⟨_, rfl, fun hc => by cases hc⟩, Hbw.out⟩
end Go.Proofs.Ytcdplnikpbbomaa
