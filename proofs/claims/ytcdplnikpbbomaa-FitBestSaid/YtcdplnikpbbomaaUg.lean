/-
  Layer 43: the walk of FitBest.
-/
import Derived.Test.YtcdplnikpbbomaaUb
import Derived.Test.YtcdplnikpbbomaaUe
import Derived.Test.YtcdplnikpbbomaaUf
import Derived.Lib.QuietBelow
namespace Go.Proofs.Ytcdplnikpbbomaa
open Go.RowKit Go.Sort
set_option linter.unusedVariables false



theorem best_first {f : Fit} {x : List Int} (hv : validF f = true) (hx : InBox f.lo f.hi x) (he : costF f x = (bestF f).2) {k : Nat} {u v : Int} (ht : (bestF f).1.take k = x.take k) (hu : x[k]? = some u) (hvv : (bestF f).1[k]? = some v) (hne : ¬ u = v) : v < u := by
  rcases ((best_min hv).2.2 x hx).2 he with h | h
  · rw [← h, hu] at hvv
    exact absurd (by simpa using hvv) hne
  · exact lex_first h ht hvv hu (fun h => hne h.symm)
set_option maxRecDepth 100000 in
set_option maxHeartbeats 8000000 in
theorem fitBest_walk (f : Fit) (A1 : Option Addr) (c1 : Nat) (A2 : Option Addr) (c2 : Nat) (A3 : Option Addr) (c3 : Nat) (A4 : Option Addr) (c4 : Nat) (x : List Int) (B3 : Option Addr) (d3 : Nat) (w : World) (h : FitAt f (Old w) w A1 c1 A2 c2 A3 c3 A4 c4) (hx : SlAt (pI .i64) (Old w) w B3 d3 x) :
    Calls Try.prog 7 #[.agg #[.slice A1 f.lo.length c1, .slice A2 f.hi.length c2, .slice A3 f.terms.length c3, .slice A4 f.goals.length c4], .slice B3 x.length d3] w (OkPost w) := by
  have m1 := hx.lenle
  obtain ⟨W0, hW0⟩ : ∃ W0, W0 = w.alloc (.cells #[.slice A1 f.lo.length c1, .slice A2 f.hi.length c2, .slice A3 f.terms.length c3, .slice A4 f.goals.length c4] 25) := ⟨_, rfl⟩
  have hb0 : Below w.heap.size w W0 := by rw [hW0]; exact (Below.refl _ _).alloc (Nat.le_refl _) _
  have hz0 : w.heap.size + 1 ≤ W0.heap.size := by rw [hW0]; simp
  have hl0 : w.heap.size < W0.heap.size := by omega
  have hbl0 : Blk W0 w.heap.size 25 #[.slice A1 f.lo.length c1, .slice A2 f.hi.length c2, .slice A3 f.terms.length c3, .slice A4 f.goals.length c4] := by rw [hW0]; exact Blk.new _ _ _
  have h0 := h.later hb0
  have h3 := hx.later hb0
  have cells : ∀ W : World, Below W0.heap.size W0 W → (W.cell? ⟨w.heap.size, 0, none⟩ = some (.slice A1 f.lo.length c1) ∧ W.cell? ⟨w.heap.size, 1, none⟩ = some (.slice A2 f.hi.length c2) ∧ W.cell? ⟨w.heap.size, 2, none⟩ = some (.slice A3 f.terms.length c3) ∧ W.cell? ⟨w.heap.size, 3, none⟩ = some (.slice A4 f.goals.length c4)) := fun W hW => (hbl0.same (hW.block _ hl0)).four
  have fin : ∀ W e W', Below W0.heap.size W0 W → BoolPost true W e W' → OkPost w e W' := fun W e W' hW ⟨he, hb⟩ => ⟨he, hb0.trans ((hW.trans (hb.mono hW.size)).mono (by omega))⟩
  have H0 := Lib.hid h0; clear h0
  have H3 := Lib.hid h3; clear h3
  have Hb0 := Lib.hid hb0; clear hb0
  have Hbl0 := Lib.hid hbl0; clear hbl0
  have HW0 := Lib.hid hW0; clear hW0
  have Cells := Lib.hid cells; clear cells
  have Fin := Lib.hid fin; clear fin
  clear h hx
  go_enter Try.func7, Try.ntmps7
  go_wp2_with fail
  rw [← HW0.out]
  refine (small_calls f A1 c1 A2 c2 A3 c3 A4 c4 W0 H0.out).mono ?_
  rintro e w1 ⟨⟨b, rfl, hs⟩, hb1⟩
  have z1 := hb1.size
  have Hb1 := Lib.hid hb1
  clear hb1
  obtain ⟨x0, x1, x2, x3⟩ := Cells.out w1 Hb1.out
  cases b
  · clear hs
    go_wp2_with fail
    refine (alive_calls w1).mono ?_
    rintro e w2 hb2
    have hf := Fin.out w1 e w2 Hb1.out hb2
    obtain ⟨rfl, _⟩ := hb2
    have Hf := Lib.hid hf; clear hf
    go_wp2
    go_ret
    exact Hf.out
  obtain ⟨hck, hm⟩ := hs rfl
  clear hs
  have hv := checkFit_valid hck
  obtain ⟨p1, p2, p3, p4, p5, p6, p7⟩ := valid_parts hv
  have Hck := Lib.hid hck; clear hck
  have Hm := Lib.hid hm; clear hm
  have Hv := Lib.hid hv; clear hv
  have P3 := Lib.hid p3; clear p3
  have P6 := Lib.hid p6; clear p6
  clear p1 p2 p4 p5 p7
  go_wp2_with fail
  refine (in_calls f.lo f.hi x A1 c1 A2 c2 B3 d3 w1 (H0.out.later Hb1.out).l (H0.out.later Hb1.out).h (H3.out.later Hb1.out) P3.out).mono ?_
  rintro e w2 ⟨rfl, hb2⟩
  have Hb2 := Lib.hid (Hb1.out.trans (hb2.mono z1)); clear hb2
  have z2 := Hb2.out.size
  clear x0 x1 x2 x3
  obtain ⟨x0, x1, x2, x3⟩ := Cells.out w2 Hb2.out
  cases hin : inB f.lo f.hi x
  · have Hin := Lib.hid hin; clear hin
    go_wp2_with fail
    refine (alive_calls w2).mono ?_
    rintro e w4 hb4
    have hf := Fin.out w2 e w4 Hb2.out hb4
    obtain ⟨rfl, _⟩ := hb4
    have Hf := Lib.hid hf; clear hf
    go_wp2
    go_ret
    exact Hf.out
  rw [inB_within] at hin
  have hbox := (box_withinF Hv.out).1 hin
  have hbm := best_min Hv.out
  have e2 := lowerF_ok Hck.out hin
  have e3 := lowerF_ok Hck.out ((box_withinF Hv.out).2 hbm.2.1)
  have hlen : (bestF f).1.length = x.length := (inBox_len hbm.2.1).1.trans (inBox_len hbox).1.symm
  have hmin := (hbm.2.2 x hbox).1
  have hfirst : ∀ (k : Nat) (u v : Int), costF f x = (bestF f).2 → (bestF f).1.take k = x.take k → x[k]? = some u → (bestF f).1[k]? = some v → ¬ u = v → v < u := fun k u v h1 h2 h3 h4 h5 => best_first Hv.out hbox h1 h2 h3 h4 h5
  have hbr : bestR f = bestF f := by unfold bestR; rw [if_pos Hck.out]
  have hbc := hbm.1
  rw [show boundF f.terms f.goals (bestF f).1 (bestF f).1 = (bestF f).2 from hbc.symm] at e3
  rw [show boundF f.terms f.goals x x = costF f x from rfl] at e2
  obtain ⟨least, hle⟩ : ∃ v, (bestF f).2 = v := ⟨_, rfl⟩
  obtain ⟨n, hn⟩ : ∃ v, costF f x = v := ⟨_, rfl⟩
  obtain ⟨bs, hbs⟩ : ∃ v, (bestF f).1 = v := ⟨_, rfl⟩
  rw [hle, hn] at hmin
  rw [hle, hn, hbs] at hfirst
  rw [hle, hbs] at e3
  rw [hn] at e2
  rw [hbs] at hlen
  have Hin := Lib.hid hin; clear hin
  have Hbox := Lib.hid hbox; clear hbox
  have E2 := Lib.hid e2; clear e2
  have E3 := Lib.hid e3; clear e3
  have Hlen := Lib.hid hlen; clear hlen
  have Hfirst := Lib.hid hfirst; clear hfirst
  have Hle := Lib.hid hle; clear hle
  have Hn := Lib.hid hn; clear hn
  have Hbs := Lib.hid hbs; clear hbs
  clear hbm hbc
  go_wp2_with fail
  refine (best_calls f A1 c1 A2 c2 A3 c3 A4 c4 w2 (H0.out.later Hb2.out)).mono ?_
  intro e w3 hbp
  obtain ⟨hb3, Ax, cx, rfl, hs3⟩ := best_uniform hbp
  rw [hbr, Hbs.out] at hs3
  rw [hbr, Hbs.out, Hle.out, Hck.out, Hlen.out]
  have Hb3 := Lib.hid (Hb2.out.trans (hb3.mono z2))
  have z3 := Hb3.out.size
  have hbest := sl_new hs3
  clear hb3 hbp x0 x1 x2 x3 hs3 hbr
  obtain ⟨x0, x1, x2, x3⟩ := Cells.out w3 Hb3.out
  have c4' := cost_calls f A1 c1 A2 c2 A3 c3 A4 c4 x B3 d3 w3 (H0.out.later Hb3.out) (H3.out.later Hb3.out)
  rw [E2.out] at c4'
  have C4 := Lib.hid c4'; clear c4'
  have Hbest := Lib.hid hbest; clear hbest
  go_wp2_with fail
  refine C4.out.mono ?_
  rintro e w4 ⟨rfl, hb4⟩
  have hbest := Hbest.out.later hb4
  have Hb4 := Lib.hid (Hb3.out.trans (hb4.mono z3))
  have z4 := Hb4.out.size
  clear hb4 x0 x1 x2 x3 C4 Hbest
  obtain ⟨x0, x1, x2, x3⟩ := Cells.out w4 Hb4.out
  have c5' := cost_calls f A1 c1 A2 c2 A3 c3 A4 c4 bs Ax cx w4 (H0.out.later Hb4.out) hbest
  rw [E3.out, Hlen.out] at c5'
  have C5 := Lib.hid c5'; clear c5'
  have Hbest := Lib.hid hbest; clear hbest
  go_wp2_with fail
  refine C5.out.mono ?_
  rintro e w5 ⟨rfl, hb5⟩
  have hbest := Hbest.out.later hb5
  have Hb5 := Lib.hid (Hb4.out.trans (hb5.mono z4))
  have z5 := Hb5.out.size
  clear hb5 x0 x1 x2 x3 C5 Hbest
  have hx5 := H3.out.later Hb5.out
  have Hbest := Lib.hid hbest; clear hbest
  have Hx5 := Lib.hid hx5; clear hx5
  by_cases hnl : n = least
  · subst hnl
    clear hmin
    go_wp2
    go_loopw [12] (fun i wr => ∃ k : Nat, k ≤ x.length ∧ i = .int .i64 k ∧ Hid (Below w5.heap.size w5 wr) ∧ Hid (bs.take k = x.take k)) (fun i _ => x.length - (intOf i).toNat)
    case atStart => exact ⟨0, Nat.zero_le _, rfl, Below.refl _ _, rfl⟩
    case round =>
      obtain ⟨k, hk, rfl, hb, hpre⟩ := hrel
      obtain ⟨wo, rfl⟩ : ∃ wo : World, wo = wr := ⟨_, rfl⟩
      have htot := Hb5.out.trans (hb.out.mono z5)
      by_cases hlt : k < x.length
      · obtain ⟨b, o, u, hd, rfl, hob, hc1, _⟩ := (Hx5.out.later hb.out).getI hlt
        obtain ⟨b', o', v, hd', rfl, hob', hc2, _⟩ := (Hbest.out.later hb.out).getI (i := k) (by rw [Hlen.out]; exact hlt)
        have hu := get_of_drop hd.out
        have hv' := get_of_drop hd'.out
        have hk0 : (0 : Int) ≤ (k : Int) := Int.natCast_nonneg _
        have hk1 : (k : Int) < (x.length : Int) := by omega
        by_cases huv : u = v
        · subst huv
          have hpre2 : bs.take (k + 1) = x.take (k + 1) := by rw [take_of_drop hd.out, take_of_drop hd'.out, hpre.out]
          have Hu := Lib.hid hu; clear hu
          have Hv' := Lib.hid hv'; clear hv'
          have Hpre2 := Lib.hid hpre2; clear hpre2
          have Htot := Lib.hid htot; clear htot
          go_wp2
          go_quiet (fail)
          go_wp2
          go_roundw
          case rel => exact ⟨k + 1, by omega, by go_num, below_drewN hb.out _, Hpre2⟩
          case measure => simp [intOf]; omega
        · have hlt2 := Hfirst.out k u v (by trivial) hpre.out hu hv' huv
          have huv1 : (u == v) = false := by simpa using huv
          have huv2 : (u != v) = true := by simp [huv]
          have Hu := Lib.hid hu; clear hu
          have Hv' := Lib.hid hv'; clear hv'
          have Htot := Lib.hid htot; clear htot
          have Huv := Lib.hid huv; clear huv
          go_wp2
          go_quiet (fail)
          rename_i nq
          obtain ⟨wd, hwd⟩ : ∃ wd, wd = World.drewN wo nq := ⟨_, rfl⟩
          rw [← hwd]
          have q1 : wd.cell? ⟨b, o + k, none⟩ = some (.int .i64 u) := by rw [hwd]; exact hc1
          have q2 : wd.cell? ⟨b', o' + k, none⟩ = some (.int .i64 v) := by rw [hwd]; exact hc2
          have hbd : Below W0.heap.size W0 wd := by rw [hwd]; exact below_drewN Htot.out _
          have hal : ∀ (q : Nat) (os : Array Obj), Calls Try.prog 30 #[] (grow (redrawn wd q) os) fun e w'' => e = .returned (.bool true) ∧ ∃ p : Regrown, w'' = grow (redrawn wd p.d) p.os := fun q os => Calls.regrown_of (alive_calls _)
          have y1 := cell_regrown q1
          have y2 := cell_regrown q2
          have Hwd := Lib.hid hwd; clear hwd
          have Hbd := Lib.hid hbd; clear hbd
          have Hal := Lib.hid hal; clear hal
          clear hc1 hc2 q1 q2
          go_wp2
          refine wp_region_quiet_below (by kernel_rfl) (by kernel_rfl) ?_
          repeat (quiet_step (first | exact Hal.out _ _))
          refine wpQuiet_nil ?_
          intro _ hw'
          obtain ⟨⟨dq, osq⟩, hw''⟩ := hw'
          subst hw''
          have hbr := below_regrown wd dq osq
          have hbw := Hb0.out.trans ((Hbd.out.trans (hbr.mono Hbd.out.size)).mono (by omega))
          have Hbw := Lib.hid hbw; clear hbw
          clear hbr y1 y2
          go_wp2
          go_ret
          exact ⟨rfl, Hbw.out⟩
      · have hk1 : ¬ (k : Int) < (x.length : Int) := by omega
        have Htot := Lib.hid htot; clear htot
        go_wp2_with fail
        refine (alive_calls wo).mono ?_
        rintro e w6 hb6
        have hf := Fin.out wo e w6 Htot.out hb6
        obtain ⟨rfl, _⟩ := hb6
        have Hf := Lib.hid hf; clear hf
        go_wp2
        go_ret
        exact Hf.out
  · have hne : (n == least) = false := by simpa using hnl
    have Hnl := Lib.hid hnl; clear hnl
    go_wp2
    go_loopw [12] (fun i wr => wr = w5 ∧ i = .int .i64 0) (fun _ _ => 0)
    case atStart => exact ⟨rfl, rfl⟩
    case round =>
      obtain ⟨rfl, rfl⟩ := hrel
      go_wp2_with fail
      refine (alive_calls _).mono ?_
      rintro e w6 hb6
      have hf := Fin.out _ e w6 Hb5.out hb6
      obtain ⟨rfl, _⟩ := hb6
      have Hf := Lib.hid hf; clear hf
      go_wp2
      go_ret
      exact Hf.out
end Go.Proofs.Ytcdplnikpbbomaa
