/-
  Layer 43: the walk of FitSound.
-/
import Derived.Test.YtcdplnikpbbomaaUb
import Derived.Test.YtcdplnikpbbomaaUe
import Derived.Test.YtcdplnikpbbomaaUf
namespace Go.Proofs.Ytcdplnikpbbomaa
open Go.RowKit Go.Sort
set_option linter.unusedVariables false



theorem accept_given_up {f : Fit} {cost : Int} {l : List Cub} (hck : checkFit f = 0) : (acceptF f cost l = (false, 4)) ∨ (l.length ≤ 2000 ∧ acceptF f cost l = (false, 0)) ∨ (l.length ≤ 2000 ∧ acceptF f cost l = (true, 0)) := by
  by_cases hl : 2000 < l.length
  · left; unfold acceptF; rw [if_pos hck, if_pos hl]
  · right
    rcases accept_pair (cost := cost) hck (show l.length ≤ 2000 by omega) with h | h
    · exact .inr ⟨by omega, h⟩
    · exact .inl ⟨by omega, h⟩
set_option maxRecDepth 100000 in
set_option maxHeartbeats 8000000 in
theorem fitSound_walk (f : Fit) (A1 : Option Addr) (c1 : Nat) (A2 : Option Addr) (c2 : Nat) (A3 : Option Addr) (c3 : Nat) (A4 : Option Addr) (c4 : Nat) (cost : Int) (l : List Cub) (B5 : Option Addr) (d5 : Nat) (x : List Int) (B3 : Option Addr) (d3 : Nat) (w : World) (hcost : Fits .i64 cost) (h : FitAt f (Old w) w A1 c1 A2 c2 A3 c3 A4 c4) (hl : SlAt pCub (Old w) w B5 d5 l) (hx : SlAt (pI .i64) (Old w) w B3 d3 x) :
    Calls Try.prog 6 #[.agg #[.slice A1 f.lo.length c1, .slice A2 f.hi.length c2, .slice A3 f.terms.length c3, .slice A4 f.goals.length c4], .int .i64 cost, .slice B5 l.length d5, .slice B3 x.length d3] w (OkPost w) := by
  have m1 := hx.lenle
  have m2 := hl.lenle
  have m3 := hcost.i64
  obtain ⟨W0, hW0⟩ : ∃ W0, W0 = w.alloc (.cells #[.slice A1 f.lo.length c1, .slice A2 f.hi.length c2, .slice A3 f.terms.length c3, .slice A4 f.goals.length c4] 25) := ⟨_, rfl⟩
  have hb0 : Below w.heap.size w W0 := by rw [hW0]; exact (Below.refl _ _).alloc (Nat.le_refl _) _
  have hz0 : w.heap.size + 1 ≤ W0.heap.size := by rw [hW0]; simp
  have hl0 : w.heap.size < W0.heap.size := by omega
  have hbl0 : Blk W0 w.heap.size 25 #[.slice A1 f.lo.length c1, .slice A2 f.hi.length c2, .slice A3 f.terms.length c3, .slice A4 f.goals.length c4] := by rw [hW0]; exact Blk.new _ _ _
  have h0 := h.later hb0
  have h1 := hl.later hb0
  have h3 := hx.later hb0
  have cells : ∀ W : World, Below W0.heap.size W0 W → (W.cell? ⟨w.heap.size, 0, none⟩ = some (.slice A1 f.lo.length c1) ∧ W.cell? ⟨w.heap.size, 1, none⟩ = some (.slice A2 f.hi.length c2) ∧ W.cell? ⟨w.heap.size, 2, none⟩ = some (.slice A3 f.terms.length c3) ∧ W.cell? ⟨w.heap.size, 3, none⟩ = some (.slice A4 f.goals.length c4)) := fun W hW => (hbl0.same (hW.block _ hl0)).four
  have fin : ∀ W e W', Below W0.heap.size W0 W → BoolPost true W e W' → OkPost w e W' := fun W e W' hW ⟨he, hb⟩ => ⟨he, hb0.trans ((hW.trans (hb.mono hW.size)).mono (by omega))⟩
  have H0 := Lib.hid h0; clear h0
  have H1 := Lib.hid h1; clear h1
  have H3 := Lib.hid h3; clear h3
  have Hb0 := Lib.hid hb0; clear hb0
  have Hbl0 := Lib.hid hbl0; clear hbl0
  have HW0 := Lib.hid hW0; clear hW0
  have Cells := Lib.hid cells; clear cells
  have Fin := Lib.hid fin; clear fin
  have Hcost := Lib.hid hcost; clear hcost
  clear h hl hx
  go_enter Try.func6, Try.ntmps6
  go_wp2_with fail
  rw [← HW0.out]
  refine (small_calls f A1 c1 A2 c2 A3 c3 A4 c4 W0 H0.out).mono ?_
  rintro e w1 ⟨⟨b, rfl, hs⟩, hb1⟩
  have z1 := hb1.size
  have Hb1 := Lib.hid hb1
  clear hb1
  obtain ⟨x0, x1, x2, x3⟩ := Cells.out w1 Hb1.out
  cases b
  · clear hs
    go_wp2_with fail
    refine (alive_calls w1).mono ?_
    rintro e w2 hb2
    have hf := Fin.out w1 e w2 Hb1.out hb2
    obtain ⟨rfl, _⟩ := hb2
    have Hf := Lib.hid hf; clear hf
    go_wp2
    go_ret
    exact Hf.out
  obtain ⟨hck, hm⟩ := hs rfl
  clear hs
  have hv := checkFit_valid hck
  have hbm := best_min hv
  have hps := prove_sound hck hm
  have hbr : bestR f = bestF f := by unfold bestR; rw [if_pos hck]
  have hrange := cost_range hv hbm.2.1
  rw [← hbm.1] at hrange
  have hcost2 : ∀ y, InBox f.lo f.hi y → (bestF f).2 ≤ costF f y := fun y hy => (hbm.2.2 y hy).1
  have hdown : acceptF f (bestF f).2 (proveL f) = (true, 0) := hps.2.2 _ (Int.le_refl _)
  have hmin : ∀ c, c ≤ (bestF f).2 → acceptF f c (proveL f) = (true, 0) := hps.2.2
  have hover := accept_over (l := proveL f) hck hps.2.1
  have hsnd : acceptF f cost l = (true, 0) → cost ≤ (bestF f).2 := fun h => by have := accept_sound hck h hbm.2.1; rw [← hbm.1] at this; exact this
  have hsnd2 : acceptF f cost l = (true, 0) → withinF f x x = true → cost ≤ boundF f.terms f.goals x x := fun h h' => accept_sound hck h ((box_withinF hv).1 h')
  obtain ⟨least, hle⟩ : ∃ v, (bestF f).2 = v := ⟨_, rfl⟩
  rw [hle] at hrange hdown hmin hover hsnd
  obtain ⟨r0, r1⟩ := hrange
  have Hck := Lib.hid hck; clear hck
  have Hm := Lib.hid hm; clear hm
  have Hv := Lib.hid hv; clear hv
  have Hps := Lib.hid hps; clear hps
  have Hbr := Lib.hid hbr; clear hbr
  have Hdown := Lib.hid hdown; clear hdown
  have Hmin := Lib.hid hmin; clear hmin
  have Hover := Lib.hid hover; clear hover
  have Hsnd := Lib.hid hsnd; clear hsnd
  have Hsnd2 := Lib.hid hsnd2; clear hsnd2
  have Hle := Lib.hid hle; clear hle
  clear hbm hcost2
  go_wp2_with fail
  refine (greatProof_calls B5 d5 l w1 (H1.out.later Hb1.out)).mono ?_
  rintro e w2 ⟨⟨b2, rfl⟩, hb2⟩
  have Hb2 := Lib.hid (Hb1.out.trans (hb2.mono z1))
  have z2 := Hb2.out.size
  clear hb2 x0 x1 x2 x3
  obtain ⟨x0, x1, x2, x3⟩ := Cells.out w2 Hb2.out
  cases b2
  case true =>
    go_wp2_with fail
    refine (alive_calls w2).mono ?_
    rintro e w4 hb4
    have hf := Fin.out w2 e w4 Hb2.out hb4
    obtain ⟨rfl, _⟩ := hb4
    have Hf := Lib.hid hf; clear hf
    go_wp2
    go_ret
    exact Hf.out
  go_wp2_with fail
  refine (best_calls f A1 c1 A2 c2 A3 c3 A4 c4 w2 (H0.out.later Hb2.out)).mono ?_
  intro e w3 hbp
  obtain ⟨hb3, Ax, cx, rfl, hs3⟩ := best_uniform hbp
  rw [Hbr.out, Hle.out, Hck.out]
  have Hb3 := Lib.hid (Hb2.out.trans (hb3.mono z2))
  have z3 := Hb3.out.size
  clear hb3 hbp x0 x1 x2 x3 hs3
  obtain ⟨x0, x1, x2, x3⟩ := Cells.out w3 Hb3.out
  go_wp2_with fail
  refine (prove_calls f A1 c1 A2 c2 A3 c3 A4 c4 w3 (H0.out.later Hb3.out)).mono ?_
  rintro e w4 ⟨hb4, Ap, cp, rfl, hp⟩
  rw [Hps.out.1] at hp ⊢
  have Hb4 := Lib.hid (Hb3.out.trans (hb4.mono z3))
  have z4 := Hb4.out.size
  have Hp := Lib.hid (show SlAt pCub (Old w4) w4 Ap cp (proveL f) from sl_new hp)
  clear hb4 hp x0 x1 x2 x3
  obtain ⟨x0, x1, x2, x3⟩ := Cells.out w4 Hb4.out
  have c5 := accept_calls f A1 c1 A2 c2 A3 c3 A4 c4 least (proveL f) Ap cp w4 (H0.out.later Hb4.out) Hp.out
  rw [Hdown.out] at c5
  have C5 := Lib.hid c5; clear c5
  go_wp2_with fail
  refine C5.out.mono ?_
  rintro e w5 ⟨rfl, hb5⟩
  have Hp_ := Lib.hid (Hp.out.later hb5)
  clear Hp
  have Hp := Hp_
  clear Hp_
  have Hb5 := Lib.hid (Hb4.out.trans (hb5.mono z4))
  have z5 := Hb5.out.size
  clear hb5 x0 x1 x2 x3 C5
  obtain ⟨x0, x1, x2, x3⟩ := Cells.out w5 Hb5.out
  obtain ⟨mn, hmn⟩ : ∃ v, min cost least = v := ⟨_, rfl⟩
  have hmn2 : mn ≤ least := by omega
  have c6 := accept_calls f A1 c1 A2 c2 A3 c3 A4 c4 mn (proveL f) Ap cp w5 (H0.out.later Hb5.out) Hp.out
  rw [Hmin.out _ hmn2] at c6
  have C6 := Lib.hid c6; clear c6
  have Hmn := Lib.hid hmn; clear hmn
  go_wp2_with fail
  rw [Hmn.out]
  refine C6.out.mono ?_
  rintro e w6 ⟨rfl, hb6⟩
  have Hp_ := Lib.hid (Hp.out.later hb6)
  clear Hp
  have Hp := Hp_
  clear Hp_
  have Hb6 := Lib.hid (Hb5.out.trans (hb6.mono z5))
  have z6 := Hb6.out.size
  clear hb6 x0 x1 x2 x3 C6
  obtain ⟨x0, x1, x2, x3⟩ := Cells.out w6 Hb6.out
  have c7 := accept_calls f A1 c1 A2 c2 A3 c3 A4 c4 (least + 1) (proveL f) Ap cp w6 (H0.out.later Hb6.out) Hp.out
  rw [Hover.out] at c7
  have C7 := Lib.hid c7; clear c7
  go_wp2_with fail
  refine C7.out.mono ?_
  rintro e w7 ⟨rfl, hb7⟩
  have Hb7 := Lib.hid (Hb6.out.trans (hb7.mono z6))
  have z7 := Hb7.out.size
  clear hb7 x0 x1 x2 x3 C7 Hp
  obtain ⟨x0, x1, x2, x3⟩ := Cells.out w7 Hb7.out
  have c8 := accept_calls f A1 c1 A2 c2 A3 c3 A4 c4 cost l B5 d5 w7 (H0.out.later Hb7.out) (H1.out.later Hb7.out)
  rcases accept_given_up (cost := cost) (l := l) Hck.out with ha | ⟨_, ha⟩ | ⟨_, ha⟩
  · rw [ha] at c8
    have C8 := Lib.hid c8
    have Ha := Lib.hid ha; clear ha
    clear c8
    go_wp2_with fail
    refine C8.out.mono ?_
    rintro e w8 ⟨rfl, hb8⟩
    have Hb8 := Lib.hid (Hb7.out.trans (hb8.mono z7))
    clear hb8
    go_wp2_with fail
    refine (alive_calls w8).mono ?_
    rintro e w9 hb9
    have hf := Fin.out w8 e w9 Hb8.out hb9
    obtain ⟨rfl, _⟩ := hb9
    have Hf := Lib.hid hf; clear hf
    go_wp2
    go_ret
    exact Hf.out
  · rw [ha] at c8
    have C8 := Lib.hid c8
    have Ha := Lib.hid ha; clear ha
    clear c8
    go_wp2_with fail
    refine C8.out.mono ?_
    rintro e w8 ⟨rfl, hb8⟩
    have Hb8 := Lib.hid (Hb7.out.trans (hb8.mono z7))
    clear hb8
    go_wp2_with fail
    refine (alive_calls w8).mono ?_
    rintro e w9 hb9
    have hf := Fin.out w8 e w9 Hb8.out hb9
    obtain ⟨rfl, _⟩ := hb9
    have Hf := Lib.hid hf; clear hf
    go_wp2
    go_ret
    exact Hf.out
  · rw [ha] at c8
    have C8 := Lib.hid c8
    have s1 := Hsnd.out ha
    have s2 := Hsnd2.out ha
    have Ha := Lib.hid ha; clear ha
    have S2 := Lib.hid s2; clear s2
    clear c8
    go_wp2_with fail
    refine C8.out.mono ?_
    rintro e w8 ⟨rfl, hb8⟩
    have Hb8 := Lib.hid (Hb7.out.trans (hb8.mono z7))
    have z8 := Hb8.out.size
    clear hb8 x0 x1 x2 x3 C8
    obtain ⟨x0, x1, x2, x3⟩ := Cells.out w8 Hb8.out
    have c9 := cost_calls f A1 c1 A2 c2 A3 c3 A4 c4 x B3 d3 w8 (H0.out.later Hb8.out) (H3.out.later Hb8.out)
    cases hwx : withinF f x x
    · rw [show lowerF f x x = (0, 2) from by unfold lowerF; rw [if_pos Hck.out, if_neg (by rw [hwx]; decide)]] at c9
      have C9 := Lib.hid c9
      have Hwx := Lib.hid hwx; clear hwx
      clear c9
      go_wp2_with fail
      refine C9.out.mono ?_
      rintro e w9 ⟨rfl, hb9⟩
      have Hb9 := Lib.hid (Hb8.out.trans (hb9.mono z8))
      clear hb9
      go_wp2_with fail
      refine (alive_calls w9).mono ?_
      rintro e w10 hb10
      have hf := Fin.out w9 e w10 Hb9.out hb10
      obtain ⟨rfl, _⟩ := hb10
      have Hf := Lib.hid hf; clear hf
      go_wp2
      go_ret
      exact Hf.out
    · have s3 := S2.out hwx
      rw [lowerF_ok Hck.out hwx] at c9
      obtain ⟨n, hn⟩ : ∃ v, boundF f.terms f.goals x x = v := ⟨_, rfl⟩
      rw [hn] at s3 c9
      have C9 := Lib.hid c9
      have Hwx := Lib.hid hwx; clear hwx
      have Hn := Lib.hid hn; clear hn
      clear c9
      go_wp2_with fail
      refine C9.out.mono ?_
      rintro e w9 ⟨rfl, hb9⟩
      have Hb9 := Lib.hid (Hb8.out.trans (hb9.mono z8))
      clear hb9
      go_wp2_with fail
      refine (alive_calls w9).mono ?_
      rintro e w10 hb10
      have hf := Fin.out w9 e w10 Hb9.out hb10
      obtain ⟨rfl, _⟩ := hb10
      have Hf := Lib.hid hf; clear hf
      go_wp2
      go_ret
      exact Hf.out
end Go.Proofs.Ytcdplnikpbbomaa
