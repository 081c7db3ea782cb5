/-
  Layer 43: the walk of FitBounds.
-/
import Derived.Test.YtcdplnikpbbomaaUb
import Derived.Test.YtcdplnikpbbomaaUe
namespace Go.Proofs.Ytcdplnikpbbomaa
open Go.RowKit Go.Sort
set_option linter.unusedVariables false


theorem lowerF_ok {f : Fit} {lo hi : List Int} (hck : checkFit f = 0) (h : withinF f lo hi = true) : lowerF f lo hi = (boundF f.terms f.goals lo hi, 0) := by unfold lowerF; rw [if_pos hck, if_pos h]
set_option maxRecDepth 100000 in
set_option maxHeartbeats 8000000 in
theorem fitBounds_walk (f : Fit) (A1 : Option Addr) (c1 : Nat) (A2 : Option Addr) (c2 : Nat) (A3 : Option Addr) (c3 : Nat) (A4 : Option Addr) (c4 : Nat) (lo hi : List Int) (B1 : Option Addr) (d1 : Nat) (B2 : Option Addr) (d2 : Nat) (x : List Int) (B3 : Option Addr) (d3 : Nat) (w : World) (h : FitAt f (Old w) w A1 c1 A2 c2 A3 c3 A4 c4) (hl : SlAt (pI .i64) (Old w) w B1 d1 lo) (hh : SlAt (pI .i64) (Old w) w B2 d2 hi) (hx : SlAt (pI .i64) (Old w) w B3 d3 x) :
    Calls Try.prog 8 #[.agg #[.slice A1 f.lo.length c1, .slice A2 f.hi.length c2, .slice A3 f.terms.length c3, .slice A4 f.goals.length c4], .agg #[.slice B1 lo.length d1, .slice B2 hi.length d2], .slice B3 x.length d3] w (OkPost w) := by
  have m1 := hx.lenle
  have m2 := hl.lenle
  have m3 := hh.lenle
  obtain ⟨W0, hW0⟩ : ∃ W0, W0 = (w.alloc (.cells #[.slice A1 f.lo.length c1, .slice A2 f.hi.length c2, .slice A3 f.terms.length c3, .slice A4 f.goals.length c4] 25)).alloc (.cells #[.slice B1 lo.length d1, .slice B2 hi.length d2] 27) := ⟨_, rfl⟩
  have hb0 : Below w.heap.size w W0 := by rw [hW0]; exact ((Below.refl _ _).alloc (Nat.le_refl _) _).alloc (by simp) _
  have hz0 : W0.heap.size = w.heap.size + 2 := by rw [hW0]; simp
  have hbf : Blk W0 w.heap.size 25 #[.slice A1 f.lo.length c1, .slice A2 f.hi.length c2, .slice A3 f.terms.length c3, .slice A4 f.goals.length c4] := by rw [hW0]; exact (Blk.new _ _ _).alloc _
  have hbc : Blk W0 (w.heap.size + 1) 27 #[.slice B1 lo.length d1, .slice B2 hi.length d2] := by
    rw [hW0]
    have := Blk.new (w.alloc (.cells #[.slice A1 f.lo.length c1, .slice A2 f.hi.length c2, .slice A3 f.terms.length c3, .slice A4 f.goals.length c4] 25)) 27 #[.slice B1 lo.length d1, .slice B2 hi.length d2]
    rwa [show (w.alloc (.cells #[.slice A1 f.lo.length c1, .slice A2 f.hi.length c2, .slice A3 f.terms.length c3, .slice A4 f.goals.length c4] 25)).heap.size = w.heap.size + 1 from by simp] at this
  have h0 := h.later hb0
  have h1 := hl.later hb0
  have h2 := hh.later hb0
  have h3 := hx.later hb0
  have hzl : w.heap.size + 1 < W0.heap.size := by omega
  have cells : ∀ W : World, Below W0.heap.size W0 W → (W.cell? ⟨w.heap.size, 0, none⟩ = some (.slice A1 f.lo.length c1) ∧ W.cell? ⟨w.heap.size, 1, none⟩ = some (.slice A2 f.hi.length c2) ∧ W.cell? ⟨w.heap.size, 2, none⟩ = some (.slice A3 f.terms.length c3) ∧ W.cell? ⟨w.heap.size, 3, none⟩ = some (.slice A4 f.goals.length c4)) ∧
      W.cell? ⟨w.heap.size + 1, 0, none⟩ = some (.slice B1 lo.length d1) ∧ W.cell? ⟨w.heap.size + 1, 1, none⟩ = some (.slice B2 hi.length d2) := fun W hW => ⟨(hbf.same (hW.block _ (by omega))).four, (hbc.same (hW.block _ (by omega))).two⟩
  have fin : ∀ W e W', Below W0.heap.size W0 W → BoolPost true W e W' → OkPost w e W' := fun W e W' hW ⟨he, hb⟩ => ⟨he, hb0.trans ((hW.trans (hb.mono hW.size)).mono (by omega))⟩
  have H0 := Lib.hid h0; clear h0
  have H1 := Lib.hid h1; clear h1
  have H2 := Lib.hid h2; clear h2
  have H3 := Lib.hid h3; clear h3
  have Hb0 := Lib.hid hb0; clear hb0
  have Hbf := Lib.hid hbf; clear hbf
  have Hbc := Lib.hid hbc; clear hbc
  have Hz0 := Lib.hid hz0; clear hz0
  have HW0 := Lib.hid hW0; clear hW0
  have Cells := Lib.hid cells; clear cells
  have Fin := Lib.hid fin; clear fin
  clear h hl hh hx
  go_enter Try.func8, Try.ntmps8
  go_wp2_with fail
  rw [← HW0.out]
  refine (small_calls f A1 c1 A2 c2 A3 c3 A4 c4 W0 H0.out).mono ?_
  rintro e w1 ⟨⟨b, rfl, hs⟩, hb1⟩
  have z1 := hb1.size
  have Hb1 := Lib.hid hb1
  clear hb1
  obtain ⟨⟨x0, x1, x2, x3⟩, y0, y1⟩ := Cells.out w1 Hb1.out
  cases b
  · clear hs
    go_wp2_with fail
    refine (alive_calls w1).mono ?_
    rintro e w2 hb2
    have hf := Fin.out w1 e w2 Hb1.out hb2
    obtain ⟨rfl, _⟩ := hb2
    have Hf := Lib.hid hf; clear hf
    go_wp2
    go_ret
    exact Hf.out
  obtain ⟨hck, hm⟩ := hs rfl
  clear hs
  have hv := checkFit_valid hck
  obtain ⟨p1, p2, p3, p4, p5, p6, p7⟩ := valid_parts hv
  have hcc := refCube_calls f A1 c1 A2 c2 A3 c3 A4 c4 lo hi B1 d1 B2 d2 w1 (H0.out.later Hb1.out) (H1.out.later Hb1.out) (H2.out.later Hb1.out) p3 p2
  have Hcc := Lib.hid hcc; clear hcc
  have Hck := Lib.hid hck; clear hck
  have Hm := Lib.hid hm; clear hm
  have Hv := Lib.hid hv; clear hv
  have P3 := Lib.hid p3; clear p3
  have P6 := Lib.hid p6; clear p6
  clear p1 p2 p4 p5 p7
  go_wp2_with fail
  refine Hcc.out.mono ?_
  rintro e w2 ⟨rfl, hb2⟩
  have Hb2 := Lib.hid (Hb1.out.trans (hb2.mono z1))
  have z2 := Hb2.out.size
  clear hb2 x0 x1 x2 x3 y0 y1 Hcc
  obtain ⟨⟨x0, x1, x2, x3⟩, y0, y1⟩ := Cells.out w2 Hb2.out
  cases hwi : withinF f lo hi
  · have Hwi := Lib.hid hwi; clear hwi
    go_wp2_with fail
    refine (alive_calls w2).mono ?_
    rintro e w3 hb3
    have hf := Fin.out w2 e w3 Hb2.out hb3
    obtain ⟨rfl, _⟩ := hb3
    have Hf := Lib.hid hf; clear hf
    go_wp2
    go_ret
    exact Hf.out
  have Hwi := Lib.hid hwi; clear hwi
  go_wp2_with fail
  refine (in_calls f.lo f.hi x A1 c1 A2 c2 B3 d3 w2 (H0.out.later Hb2.out).l (H0.out.later Hb2.out).h (H3.out.later Hb2.out) P3.out).mono ?_
  rintro e w3 ⟨rfl, hb3⟩
  have Hb3 := Lib.hid (Hb2.out.trans (hb3.mono z2)); clear hb3
  have z3 := Hb3.out.size
  clear x0 x1 x2 x3 y0 y1
  obtain ⟨⟨x0, x1, x2, x3⟩, y0, y1⟩ := Cells.out w3 Hb3.out
  cases hin : inB f.lo f.hi x
  · have Hin := Lib.hid hin; clear hin
    go_wp2_with fail
    refine (alive_calls w3).mono ?_
    rintro e w4 hb4
    have hf := Fin.out w3 e w4 Hb3.out hb4
    obtain ⟨rfl, _⟩ := hb4
    have Hf := Lib.hid hf; clear hf
    go_wp2
    go_ret
    exact Hf.out
  rw [inB_within] at hin
  have s1 := (withinF_sub Hv.out).1 Hwi.out
  have s2 := (withinF_sub Hv.out).1 hin
  have e1 := lowerF_ok Hck.out Hwi.out
  have e2 := lowerF_ok Hck.out hin
  have e3 := lowerF_ok Hck.out ((withinF_sub Hv.out).2 (subC_refl P3.out P6.out))
  have g1 := boundF_mono s1 f.terms f.goals
  have g2 := (bound_range (within_ok Hv.out Hwi.out)).1
  have g3 : inB lo hi x = true → boundF f.terms f.goals lo hi ≤ boundF f.terms f.goals x x := fun hi' => by
    rw [inB] at hi'
    simp only [Bool.and_eq_true, beq_iff_eq, inF_allC] at hi'
    exact boundF_mono ⟨s1.h'.trans s1.l'.symm, hi'.1, hi'.1, hi'.2⟩ _ _
  obtain ⟨low, hlow⟩ : ∃ v, boundF f.terms f.goals lo hi = v := ⟨_, rfl⟩
  obtain ⟨n, hn⟩ : ∃ v, boundF f.terms f.goals x x = v := ⟨_, rfl⟩
  obtain ⟨al, hal⟩ : ∃ v, boundF f.terms f.goals f.lo f.hi = v := ⟨_, rfl⟩
  rw [hlow] at e1 g1 g2 g3
  rw [hn] at e2 g3
  rw [hal] at e3 g1
  have hlh : hi.length = lo.length := s1.h'.trans s1.l'.symm
  have Hin := Lib.hid hin; clear hin
  have S1 := Lib.hid s1; clear s1
  have S2 := Lib.hid s2; clear s2
  have E1 := Lib.hid e1; clear e1
  have E2 := Lib.hid e2; clear e2
  have E3 := Lib.hid e3; clear e3
  have Hlow := Lib.hid hlow; clear hlow
  have Hn := Lib.hid hn; clear hn
  have Hal := Lib.hid hal; clear hal
  have G3 := Lib.hid g3; clear g3
  have Hlh := Lib.hid hlh; clear hlh
  have c4' := fLower_calls f A1 c1 A2 c2 A3 c3 A4 c4 lo hi B1 d1 B2 d2 w3 (H0.out.later Hb3.out) (H1.out.later Hb3.out) (H2.out.later Hb3.out)
  rw [E1.out] at c4'
  have C4 := Lib.hid c4'; clear c4'
  go_wp2_with fail
  refine C4.out.mono ?_
  rintro e w4 ⟨rfl, hb4⟩
  have Hb4 := Lib.hid (Hb3.out.trans (hb4.mono z3))
  have z4 := Hb4.out.size
  clear hb4 x0 x1 x2 x3 y0 y1 C4
  obtain ⟨⟨x0, x1, x2, x3⟩, y0, y1⟩ := Cells.out w4 Hb4.out
  have c5' := cost_calls f A1 c1 A2 c2 A3 c3 A4 c4 x B3 d3 w4 (H0.out.later Hb4.out) (H3.out.later Hb4.out)
  rw [E2.out] at c5'
  have C5 := Lib.hid c5'; clear c5'
  go_wp2_with fail
  refine C5.out.mono ?_
  rintro e w5 ⟨rfl, hb5⟩
  have Hb5 := Lib.hid (Hb4.out.trans (hb5.mono z4))
  have z5 := Hb5.out.size
  clear hb5 x0 x1 x2 x3 y0 y1 C5
  obtain ⟨⟨x0, x1, x2, x3⟩, y0, y1⟩ := Cells.out w5 Hb5.out
  have c6' := fLower_calls f A1 c1 A2 c2 A3 c3 A4 c4 x x B3 d3 B3 d3 w5 (H0.out.later Hb5.out) (H3.out.later Hb5.out) (H3.out.later Hb5.out)
  rw [E2.out] at c6'
  have C6 := Lib.hid c6'; clear c6'
  go_wp2_with fail
  refine C6.out.mono ?_
  rintro e w6 ⟨rfl, hb6⟩
  have Hb6 := Lib.hid (Hb5.out.trans (hb6.mono z5))
  have z6 := Hb6.out.size
  clear hb6 x0 x1 x2 x3 y0 y1 C6
  obtain ⟨⟨x0, x1, x2, x3⟩, y0, y1⟩ := Cells.out w6 Hb6.out
  have c7' := fLower_calls f A1 c1 A2 c2 A3 c3 A4 c4 f.lo f.hi A1 c1 A2 c2 w6 (H0.out.later Hb6.out) (H0.out.later Hb6.out).l (H0.out.later Hb6.out).h
  rw [E3.out] at c7'
  have C7 := Lib.hid c7'; clear c7'
  go_wp2_with fail
  refine C7.out.mono ?_
  rintro e w7 ⟨rfl, hb7⟩
  have Hb7 := Lib.hid (Hb6.out.trans (hb7.mono z6))
  have z7 := Hb7.out.size
  clear hb7 x0 x1 x2 x3 y0 y1 C7
  obtain ⟨⟨x0, x1, x2, x3⟩, y0, y1⟩ := Cells.out w7 Hb7.out
  go_wp2_with fail
  refine (in_calls lo hi x B1 d1 B2 d2 B3 d3 w7 (H1.out.later Hb7.out) (H2.out.later Hb7.out) (H3.out.later Hb7.out) Hlh.out).mono ?_
  rintro e w8 ⟨rfl, hb8⟩
  have Hb8 := Lib.hid (Hb7.out.trans (hb8.mono z7)); clear hb8
  have z8 := Hb8.out.size
  clear x0 x1 x2 x3 y0 y1
  cases hi2 : inB lo hi x
  · have Hi2 := Lib.hid hi2; clear hi2
    go_wp2_with fail
    refine (alive_calls w8).mono ?_
    rintro e w9 hb9
    have hf := Fin.out w8 e w9 Hb8.out hb9
    obtain ⟨rfl, _⟩ := hb9
    have Hf := Lib.hid hf; clear hf
    go_wp2
    go_ret
    exact Hf.out
  have g4 := G3.out hi2
  have Hi2 := Lib.hid hi2; clear hi2
  go_wp2_with fail
  refine (alive_calls w8).mono ?_
  rintro e w9 hb9
  have hf := Fin.out w8 e w9 Hb8.out hb9
  obtain ⟨rfl, _⟩ := hb9
  have Hf := Lib.hid hf; clear hf
  go_wp2
  go_ret
  exact Hf.out
end Go.Proofs.Ytcdplnikpbbomaa
