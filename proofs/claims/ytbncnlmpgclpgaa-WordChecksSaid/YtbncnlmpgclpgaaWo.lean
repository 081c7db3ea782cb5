/-
  Layer 6: the walk of the reference's Close.
-/
import Derived.Test.YtbncnlmpgclpgaaWn
namespace Go.Proofs.Ytbncnlmpgclpgaa
open Go.RowKit

theorem dep_le : ∀ (ms : List Mod) (j : Nat), dep ms j ≤ j
  | [], j => by rw [dep_nil]; omega
  | m :: ms, 0 => by rw [dep_zero]; omega
  | m :: ms, j + 1 => by
    rw [dep_cons]
    have := dep_le ms j
    have h : delta m ≤ 1 := by unfold delta; split <;> (try split) <;> omega
    omega
theorem delta_cases (m : Mod) : delta m = 1 ∨ delta m = -1 ∨ delta m = 0 := by
  unfold delta; split
  · exact .inl rfl
  · split
    · exact .inr (.inl rfl)
    · exact .inr (.inr rfl)

set_option maxRecDepth 100000 in
set_option maxHeartbeats 2000000 in
theorem refClose_calls (A : Option Addr) (c : Nat) (ms : List Mod) (i : Int) (w : World) (h : SlAt pMod (Old w) w A c ms) (hi : Fits .i64 i) :
    Calls Try.prog 13 #[.slice A ms.length c, .int .i64 i] w (ClosePost ms i w) := by
  have hmx := h.lenle
  have hi' := hi.i64
  have H := Lib.hid h; clear h hi
  go_enter Try.func13, Try.ntmps13
  go_wp2_with fail
  refine (refCheck_calls A c ms w H.out).mono ?_
  rintro e w1 ⟨rfl, hb1⟩
  have H1 := Lib.hid (H.out.later hb1)
  have hs1 := hb1.size
  have Hb1 := Lib.hid hb1; clear hb1
  by_cases hc : checkF ms = 0
  · have e1 : (checkF ms != 0) = false := by simp [hc]
    obtain ⟨hle, l, hol, hll, hlj, hpos, hend⟩ := check_zero hc
    have Hpos := Lib.hid hpos; have Hend := Lib.hid hend; have Hc := Lib.hid hc
    have Hol := Lib.hid hol; have Hlj := Lib.hid hlj; have Hll := Lib.hid hll
    clear hpos hend hc hol hlj hll
    by_cases hi0 : i < 0
    · go_wp2
      go_ret2
      exact ⟨(0, 2), .inr (.inl ⟨Hc.out, .inl hi0, rfl⟩), rfl, Hb1.out⟩
    · by_cases hi1 : (ms.length : Int) ≤ i
      · go_wp2
        go_ret2
        exact ⟨(0, 2), .inr (.inl ⟨Hc.out, .inr hi1, rfl⟩), rfl, Hb1.out⟩
      · obtain ⟨n, rfl⟩ : ∃ n : Nat, i = n := ⟨i.toNat, by omega⟩
        have hn : n < ms.length := by omega
        obtain ⟨b, o, A', c', m, hd, rfl, hob, hx0, hx1, _, _, _⟩ := H1.out.getMod hn
        have hget := Lib.hid (get_of_drop hd.out)
        have hop := refOpen_calls _ c ms w1 H1.out (by omega)
        have Hop := Lib.hid hop; clear hop
        by_cases hbr : m.name = 91 ∨ m.name = 93
        · have hcell : ∀ w2 : World, Below w1.heap.size w1 w2 → w2.cell? ⟨b, o + n * 2, none⟩ = some (.int .u8 m.name) := fun w2 h2 => (cell_keep (h2.block b hob)).trans hx0
          have Hcell := Lib.hid hcell; clear hcell
          have Hx0 := Lib.hid hx0; clear hx0 hx1
          have step : ∀ (P : World → Ending → World → Prop), True := fun _ => trivial
          clear step
          by_cases h91 : m.name = 91
          · have e2 : (m.name == 91) = true := by simp [h91]
            have e3 : (m.name != 91) = false := by simp [h91]
            have Hn := Lib.hid h91; clear h91 hbr
            have hx0 := Hx0.out
            go_wp2_with fail
            refine Hop.out.mono ?_
            rintro e w2 ⟨hb2, ⟨hno, rfl⟩ | ⟨l', A1, c1, hsome, hll', rfl, hsl⟩⟩
            · rw [Hol.out] at hno; cases hno
            · rw [Hol.out] at hsome
              cases hsome
              have hx2 := Hcell.out w2 hb2
              have Hb2 := Lib.hid (Hb1.out.trans (hb2.mono hs1)); clear hb2
              have Hsl := Lib.hid hsl; clear hsl hx0
              go_wp2
              go_loopw [8] (fun k wr => ∃ q : Nat, n + 1 ≤ q ∧ q ≤ ms.length ∧ k = .int .i64 q ∧ Hid (∀ j, n ≤ j → j < q → dep ms n < dep ms (j + 1)) ∧ ∃ d : Nat, wr = w2.drewN d) (fun k _ => ms.length - (intOf k).toNat)
              case atStart =>
                refine ⟨n + 1, Nat.le_refl _, by omega, by go_num, fun j h1 h2 => ?_, 0, rfl⟩
                obtain rfl : j = n := by omega
                rw [dep_succ hd.out, delta_open Hn.out]; omega
              case round =>
                obtain ⟨q, hq0, hq1, rfl, hall, hw⟩ := hrel
                have hq : q < ms.length := by
                  refine Nat.lt_of_not_le fun hge => ?_
                  have hqe : q = ms.length := by omega
                  have := hall.out (q - 1) (by omega) (by omega)
                  rw [show q - 1 + 1 = q from by omega, hqe, Hend.out] at this
                  have := Hpos.out n (by omega)
                  omega
                have hsl2 : SlAt (pI .i64) (fun k => w1.heap.size ≤ k ∧ k < w2.heap.size) wr A1 c1 l := by obtain ⟨d, rfl⟩ := hw; exact Hsl.out.keep fun _ _ => rfl
                have hbw : ∀ d : Nat, Below w.heap.size w (wr.drewN d) := fun d => by obtain ⟨d', rfl⟩ := hw; exact below_drewN (below_drewN Hb2.out d') d
                have Hbw := Lib.hid hbw; clear hbw
                have Hw := Lib.hid hw; clear hw
                have hql : q < l.length := by rw [Hll.out]; exact hq
                have hnl : n < l.length := by rw [Hll.out]; exact hn
                obtain ⟨b1, o1, x, hdx, rfl, _, hcx, _⟩ := hsl2.getI hql
                obtain ⟨b2, o2, y, hdy, hA, _, hcy, _⟩ := hsl2.getI hnl
                cases hA
                have hx : x = dep ms (q + 1) := by have h1 := get_of_drop hdx.out; rw [Hlj.out q hq] at h1; exact (Option.some.inj h1).symm
                have hy : y = dep ms (n + 1) := by have h1 := get_of_drop hdy.out; rw [Hlj.out n hn] at h1; exact (Option.some.inj h1).symm
                have hyn : dep ms (n + 1) = dep ms n + 1 := by rw [dep_succ hd.out, delta_open Hn.out]
                have Hx := Lib.hid hx; have Hy := Lib.hid (hy.trans hyn)
                clear hx hy hyn hsl2
                obtain ⟨m2, hd2⟩ : ∃ m2, ms.drop q = m2 :: ms.drop (q + 1) := ⟨_, List.drop_eq_getElem_cons hq⟩
                have hds := Lib.hid (dep_succ hd2)
                have hdl := Lib.hid (delta_cases m2)
                clear hd2
                by_cases hxy : y ≤ x
                · have e4 : decide (y ≤ x) = true := by simp [hxy]
                  have Hall := Lib.hid (fwd_ext hall.out (by have h1 := Hx.out; have h2 := Hy.out; omega))
                  go_wp2
                  go_quiet (fail)
                  go_wp2
                  go_roundw
                  case rel =>
                    refine ⟨q + 1, by omega, by omega, by go_num, Hall, ?_⟩
                    obtain ⟨d, rfl⟩ := Hw.out
                    exact ⟨_, World.drewN_drewN _ _ _⟩
                  case measure => simp [intOf]; omega
                · have e4 : decide (y ≤ x) = false := by simp; omega
                  have hF : Fwd ms n q := by
                    refine ⟨by omega, hq, ?_, hall.out⟩
                    have h1 := hall.out (q - 1) (by omega) (by omega)
                    rw [show q - 1 + 1 = q from by omega] at h1
                    have h2 := hds.out
                    have h3 := Hx.out
                    have h4 := Hy.out
                    rcases hdl.out with h5 | h5 | h5 <;> omega
                  have HF := Lib.hid hF; clear hF
                  go_wp2
                  go_quiet (fail)
                  go_wp2
                  go_ret2
                  exact ⟨((q : Int), 0), .inr (.inr ⟨Hc.out, n, m, rfl, hget.out, .inr (.inl ⟨Hn.out, q, HF.out, rfl⟩)⟩), rfl, Hbw.out _⟩
          · have h93 : m.name = 93 := by omega
            have e2 : (m.name == 91) = false := by simp [h91]
            have e3 : (m.name != 91) = true := by simp [h91]
            have e3b : (m.name != 93) = false := by simp [h93]
            have Hn := Lib.hid h93; clear h91 h93 hbr
            have hx0 := Hx0.out
            go_wp2_with fail
            refine Hop.out.mono ?_
            rintro e w2 ⟨hb2, ⟨hno, rfl⟩ | ⟨l', A1, c1, hsome, hll', rfl, hsl⟩⟩
            · rw [Hol.out] at hno; cases hno
            · rw [Hol.out] at hsome
              cases hsome
              have hx2 := Hcell.out w2 hb2
              have H2 := Lib.hid (H1.out.later hb2)
              have Hb2 := Lib.hid (Hb1.out.trans (hb2.mono hs1)); clear hb2
              have Hsl := Lib.hid hsl; clear hsl hx0
              have hyn : dep ms (n + 1) = dep ms n + -1 := by rw [dep_succ hd.out, delta_close Hn.out]
              have Hyn := Lib.hid hyn; clear hyn
              have hn1 : 1 ≤ n := by
                refine Nat.lt_of_not_le fun h0 => ?_
                obtain rfl : n = 0 := by omega
                have h1 := Hpos.out 1 (by omega)
                have h2 := Hyn.out
                rw [dep_zero] at h2
                simp only [Nat.zero_add] at h2
                omega
              have hn1i : (1 : Int) ≤ (n : Int) := by omega
              go_wp2
              go_loopw [9] (fun k wr => ∃ q : Nat, q + 1 ≤ n ∧ k = .int .i64 q ∧ Hid (∀ j, q < j → j ≤ n → dep ms (n + 1) < dep ms j) ∧ ∃ d : Nat, wr = w2.drewN d) (fun k _ => (intOf k).toNat)
              case atStart =>
                refine ⟨n - 1, by omega, by congr 1; omega, fun j h1 h2 => ?_, 0, rfl⟩
                obtain rfl : j = n := by omega
                have := Hyn.out; omega
              case round =>
                obtain ⟨q, hq0, rfl, hall, hw⟩ := hrel
                have hq : q < ms.length := by omega
                have hsl2 : SlAt (pI .i64) (fun k => w1.heap.size ≤ k ∧ k < w2.heap.size) wr A1 c1 l := by obtain ⟨d, rfl⟩ := hw; exact Hsl.out.keep fun _ _ => rfl
                have h2r : SlAt pMod (Old w2) wr (some ⟨b, o, none⟩) c ms := by obtain ⟨d, rfl⟩ := hw; exact H2.out.keep fun _ _ => rfl
                have hbw : ∀ d : Nat, Below w.heap.size w (wr.drewN d) := fun d => by obtain ⟨d', rfl⟩ := hw; exact below_drewN (below_drewN Hb2.out d') d
                have Hbw := Lib.hid hbw; clear hbw
                have Hw := Lib.hid hw; clear hw
                have hql : q < l.length := by rw [Hll.out]; exact hq
                have hnl : n < l.length := by rw [Hll.out]; exact hn
                obtain ⟨b1, o1, x, hdx, rfl, _, hcx, _⟩ := hsl2.getI hql
                obtain ⟨b2, o2, y, hdy, hA, _, hcy, _⟩ := hsl2.getI hnl
                cases hA
                have hx : x = dep ms (q + 1) := by have h1 := get_of_drop hdx.out; rw [Hlj.out q hq] at h1; exact (Option.some.inj h1).symm
                have hy : y = dep ms (n + 1) := by have h1 := get_of_drop hdy.out; rw [Hlj.out n hn] at h1; exact (Option.some.inj h1).symm
                have hy0 : 0 ≤ y ∧ y ≤ 3000 := by
                  have h1 := dep_le ms (n + 1)
                  have h2 := Hpos.out (n + 1) (by omega)
                  omega
                have Hx := Lib.hid hx; have Hy := Lib.hid hy
                clear hx hy hsl2
                obtain ⟨b3, o3, A3, c3, m2, hd2, hA2, _, hz0, _, _, _, _⟩ := h2r.getMod hq
                cases hA2
                clear h2r
                have hds := Lib.hid (dep_succ hd2.out)
                have hq1 : ¬ dep ms q = dep ms (n + 1) → 1 ≤ q ∧ dep ms (n + 1) < dep ms q := fun hne => by
                  have h1 := hall.out (q + 1) (by omega) (by omega)
                  have h2 := hds.out
                  have h3 : dep ms (n + 1) < dep ms q := by
                    rcases delta_cases m2 with h5 | h5 | h5 <;> omega
                  refine ⟨Nat.lt_of_not_le fun h0 => ?_, h3⟩
                  obtain rfl : q = 0 := by omega
                  rw [dep_zero] at h3
                  have := Hpos.out (n + 1) (by omega); omega
                have Hq1 := Lib.hid hq1; clear hq1
                have next : ¬ dep ms q = dep ms (n + 1) → 1 ≤ q ∧ Hid (∀ j, q - 1 < j → j ≤ n → dep ms (n + 1) < dep ms j) := fun hne => by
                  obtain ⟨h1, h2⟩ := Hq1.out hne
                  refine ⟨h1, fun j h3 h4 => ?_⟩
                  rcases Nat.eq_or_lt_of_le (show q ≤ j by omega) with h5 | h5
                  · subst h5; exact h2
                  · exact hall.out j h5 h4
                have Next := Lib.hid next; clear next Hq1
                by_cases k91 : m2.name = 91
                · have e5 : (m2.name != 91) = false := by simp [k91]
                  have hdl := delta_open k91
                  clear k91
                  by_cases hxy : x = y + 1
                  · have e4 : (x != y + 1) = false := by simp [hxy]
                    have hF : Bwd ms n q := ⟨by omega, by have h1 := Hx.out; have h2 := Hy.out; have h3 := hds.out; omega, hall.out⟩
                    have HF := Lib.hid hF; clear hF
                    have Hxy := Lib.hid hxy; clear hxy
                    go_wp2
                    go_quiet (fail)
                    go_wp2
                    go_ret2
                    exact ⟨((q : Int), 0), .inr (.inr ⟨Hc.out, n, m, rfl, hget.out, .inr (.inr ⟨Hn.out, q, HF.out, rfl⟩)⟩), rfl, Hbw.out _⟩
                  · have e4 : (x != y + 1) = true := by simp [hxy]
                    obtain ⟨hqq, Hall⟩ := Next.out (by have h1 := Hx.out; have h2 := Hy.out; have h3 := hds.out; omega)
                    have hqi : (1 : Int) ≤ (q : Int) := by omega
                    have Hxy := Lib.hid hxy; clear hxy
                    go_wp2
                    go_quiet (fail)
                    go_wp2
                    go_roundw
                    case rel =>
                      refine ⟨q - 1, by omega, by congr 1; omega, Hall, ?_⟩
                      obtain ⟨d, rfl⟩ := Hw.out
                      exact ⟨_, World.drewN_drewN _ _ _⟩
                    case measure => simp [intOf]; omega
                · have e5 : (m2.name != 91) = true := by simp [k91]
                  have hdn : dep ms q ≠ dep ms (n + 1) := by
                    have h1 := hall.out (q + 1) (by omega) (by omega)
                    have h2 := hds.out
                    by_cases k93 : m2.name = 93
                    · rw [delta_close k93] at h2; omega
                    · rw [delta_else k91 k93] at h2; omega
                  obtain ⟨hqq, Hall⟩ := Next.out hdn
                  have hqi : (1 : Int) ≤ (q : Int) := by omega
                  clear k91 hdn
                  go_wp2
                  go_quiet (fail)
                  go_wp2
                  go_roundw
                  case rel =>
                    refine ⟨q - 1, by omega, by congr 1; omega, Hall, ?_⟩
                    obtain ⟨d, rfl⟩ := Hw.out
                    exact ⟨_, World.drewN_drewN _ _ _⟩
                  case measure => simp [intOf]; omega
        · have e2 : (m.name != 91) = true := by simp; omega
          have e3 : (m.name != 93) = true := by simp; omega
          have Hn1 := Lib.hid (show ¬ m.name = 91 by omega); have Hn2 := Lib.hid (show ¬ m.name = 93 by omega)
          clear hbr
          go_wp2
          go_ret2
          exact ⟨(0, 2), .inr (.inr ⟨Hc.out, n, m, rfl, hget.out, .inl ⟨Hn1.out, Hn2.out, rfl⟩⟩), rfl, Hb1.out⟩
  · have e1 : (checkF ms != 0) = true := by simp [hc]
    have Hc := Lib.hid hc; clear hc
    go_wp2_with fail
    refine (refCheck_calls A c ms w1 H1.out).mono ?_
    rintro e w2 ⟨rfl, hb2⟩
    have Hb2 := Lib.hid (Hb1.out.trans (hb2.mono hs1)); clear hb2
    go_wp2
    go_ret2
    exact ⟨(0, checkF ms), .inl ⟨Hc.out, rfl⟩, rfl, Hb2.out⟩
end Go.Proofs.Ytbncnlmpgclpgaa
