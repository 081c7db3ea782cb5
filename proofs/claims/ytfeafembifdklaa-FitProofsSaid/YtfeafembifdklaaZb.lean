/-
  Layer 43: the walks of valid and Valid.
-/
import Derived.Test.YtfeafembifdklaaZa
import Derived.StillTailTactics
import Derived.Deep.RegionHeld3
namespace Go.Proofs.Ytfeafembifdklaa
open Go.RowKit Go.Sort

theorem info_intZ : (Try.prog.info? 3).map (fun i => (i.zero, i.size, i.bytes)) = some (some (.int .i64 0), 1, 8) := by kernel_rfl

set_option maxRecDepth 100000 in
set_option maxHeartbeats 4000000 in
theorem valid_calls (f : Fit) (A1 : Option Addr) (c1 : Nat) (A2 : Option Addr) (c2 : Nat) (A3 : Option Addr) (c3 : Nat) (A4 : Option Addr) (c4 : Nat) (w : World) (h : FitAt f (Old w) w A1 c1 A2 c2 A3 c3 A4 c4) : Calls Try.prog 34 #[.agg #[.slice A1 f.lo.length c1, .slice A2 f.hi.length c2, .slice A3 f.terms.length c3, .slice A4 f.goals.length c4]] w (BoolPost (validF f) w) := by
  have m1 := h.l.lenle
  have m2 := h.h.lenle
  have m3 := h.t.lenle
  have m4 := h.g.lenle
  have hcase := valid_cases f
  obtain ⟨W0, hW0⟩ : ∃ W0, W0 = w.alloc (.cells #[.slice A1 f.lo.length c1, .slice A2 f.hi.length c2, .slice A3 f.terms.length c3, .slice A4 f.goals.length c4] 25) := ⟨_, rfl⟩
  have hb0 : Below w.heap.size w W0 := by rw [hW0]; exact (Below.refl _ _).alloc (Nat.le_refl _) _
  have hz0 : w.heap.size + 1 ≤ W0.heap.size := by rw [hW0]; simp
  have hl0 : w.heap.size < W0.heap.size := by omega
  have hbl0 : Blk W0 w.heap.size 25 #[.slice A1 f.lo.length c1, .slice A2 f.hi.length c2, .slice A3 f.terms.length c3, .slice A4 f.goals.length c4] := by rw [hW0]; exact Blk.new _ _ _
  have h0 := h.later hb0
  obtain ⟨x0, x1, x2, x3⟩ := hbl0.four
  have H0 := Lib.hid h0; clear h0
  have Hb0 := Lib.hid hb0; clear hb0
  have Hbl0 := Lib.hid hbl0; clear hbl0
  have HW0 := Lib.hid hW0; clear hW0
  clear h x0 x1 x2 x3
  rcases hcase with ⟨hno, hc⟩ | ⟨t1, t2, t3, t4, t5, e3, e5, hyes⟩
  · have Hno := Lib.hid hno; clear hno
    go_enter Try.func34, Try.ntmps34
    rcases hc with t1 | ⟨t1, t2⟩ | ⟨t1, t2, t3⟩ | ⟨t1, t2, t3, t4⟩ | ⟨t1, t2, t3, t4, t5⟩
    all_goals
      go_wp2
      go_ret
      exact ⟨by rw [Hno.out]; rfl, by rw [← HW0.out]; exact Hb0.out⟩
  · have hn4 : f.lo.length ≤ 4 := by omega
    obtain ⟨Z, hZ⟩ : ∃ Z, madeCells #[Value.int .i64 0] f.lo.length = Z := ⟨_, rfl⟩
    have hmk := fun (wx : World) => run_make_rowN (P := Try.prog) (t := 22) (e := 3) Try.underlying22 info_intZ f.lo.length (by omega) (by omega) wx
    rw [show madeCells (Value.int .i64 0).cells (f.lo.length * 1) = Z from by rw [Nat.mul_one]; exact hZ] at hmk
    have Hyes := Lib.hid hyes; clear hyes
    have E3 := Lib.hid e3; clear e3
    have E5 := Lib.hid e5; clear e5
    have HZ := Lib.hid hZ; clear hZ
    go_enter Try.func34, Try.ntmps34
    go_wp2
    rw [← HW0.out]
    clear t1 t2 t3 t4 t5
    go_loop [45] (fun i => ∃ k : Nat, k ≤ f.lo.length ∧ i = .int .i64 k ∧ Hid (allB f.lo f.hi = allB (f.lo.drop k) (f.hi.drop k))) (fun i => f.lo.length - (intOf i).toNat)
    case atStart => exact ⟨0, Nat.zero_le _, rfl, rfl⟩
    case round =>
      obtain ⟨k, hk, rfl, hall⟩ := hrel
      obtain ⟨x0, x1, x2, x3⟩ := Hbl0.out.four
      by_cases hlt : k < f.lo.length
      · have hlt' : k < f.hi.length := by rw [E3.out]; exact hlt
        obtain ⟨b, o, x, hdx, rfl, _, hcx, hfx⟩ := H0.out.l.getI hlt
        obtain ⟨b', o', y, hdy, rfl, _, hcy, hfy⟩ := H0.out.h.getI hlt'
        have no : okB x y = false → validF f = false := fun hn => by rw [Hyes.out, hall.out, allB_step hdx.out hdy.out, hn]; rfl
        have hfx' := hfx.i64
        have hfy' := hfy.i64
        have No := Lib.hid no; clear no
        clear hmk x0 x2 x3
        by_cases c1 : y < x
        · have hn := No.out (okB_no (.inl c1))
          have Hn := Lib.hid hn; clear hn
          go_wp2
          go_ret
          exact ⟨by rw [Hn.out]; rfl, Hb0.out⟩
        by_cases c2 : x < -1000000
        · have hn := No.out (okB_no (.inr (.inl c2)))
          have Hn := Lib.hid hn; clear hn
          go_wp2
          go_ret
          exact ⟨by rw [Hn.out]; rfl, Hb0.out⟩
        by_cases c3 : 1000000 < y
        · have hn := No.out (okB_no (.inr (.inr c3)))
          have Hn := Lib.hid hn; clear hn
          go_wp2
          go_ret
          exact ⟨by rw [Hn.out]; rfl, Hb0.out⟩
        go_wp2
        go_round
        case rel =>
          refine ⟨k + 1, by omega, by go_num, ?_⟩
          unfold Hid; rw [hall.out, allB_step hdx.out hdy.out, okB_yes (x := x) (y := y) (by omega) (by omega) (by omega)]; rfl
        case measure => simp [intOf]; omega
      · have hy2 : validF f = allT f.lo.length f.terms f.goals := by rw [Hyes.out, hall.out, drop_end hlt]; rfl
        have Hy2 := Lib.hid hy2; clear hy2
        go_wp2
        clear hmk hlt hall x0 x1 x2 x3
        obtain ⟨W1, hW1⟩ : ∃ W1, W1 = W0.alloc (.cells Z 3) := ⟨_, rfl⟩
        have hb1 : Below W0.heap.size W0 W1 := by rw [hW1]; exact (Below.refl _ _).alloc (Nat.le_refl _) _
        have hz1 : W0.heap.size + 1 ≤ W1.heap.size := by rw [hW1]; simp
        have hbz : Blk W1 W0.heap.size 3 (madeCells #[Value.int .i64 0] f.lo.length) := by rw [hW1, HZ.out]; exact Blk.new _ _ _
        have hbl1 := Hbl0.out.same (hb1.block _ (by omega))
        have h1 := H0.out.later hb1
        have hzs : SlAt (pI .i64) (Old W1) W1 (some ⟨W0.heap.size, 0, none⟩) f.lo.length (List.replicate f.lo.length 0) := zeros_sl hbz (by show W0.heap.size < _; omega) (by unfold maxLen; omega)
        rw [← hW1]
        have hbw1 := Hb0.out.trans (hb1.mono (by omega))
        have Hb1 := Lib.hid hb1; clear hb1
        have Hbw1 := Lib.hid hbw1; clear hbw1
        have Hbl1 := Lib.hid hbl1; clear hbl1
        have H1 := Lib.hid h1; clear h1
        have Hzs := Lib.hid hzs; clear hzs
        have HW1 := Lib.hid hW1; clear hW1
        clear hbz
        go_loopw [75] (fun i wr => ∃ k : Nat, k ≤ f.terms.length ∧ i = .int .i64 k ∧ Hid (Below W1.heap.size W1 wr) ∧ W1.heap.size ≤ wr.heap.size ∧ Hid (validF f = allT f.lo.length (f.terms.drop k) (f.goals.drop k))) (fun i _ => f.terms.length - (intOf i).toNat)
        case atStart => exact ⟨0, Nat.zero_le _, rfl, Below.refl _ _, Nat.le_refl _, Hy2⟩
        case round =>
          obtain ⟨k2, hk2, rfl, hb2, hsz2, hall⟩ := hrel
          obtain ⟨wo, rfl⟩ : ∃ wo : World, wo = wr := ⟨_, rfl⟩
          obtain ⟨x0, x1, x2, x3⟩ := (Hbl1.out.same (hb2.out.block _ (by omega))).four
          clear x0 x1
          have hbwo := Hbw1.out.trans (hb2.out.mono (by omega))
          have Hbwo := Lib.hid hbwo; clear hbwo
          by_cases hlt : k2 < f.terms.length
          · have hlt' : k2 < f.goals.length := by rw [E5.out]; exact hlt
            have h2 := H1.out.later hb2.out
            obtain ⟨b, o, A, c, t, hd, rfl, hob, hs0, hs1, hsc, hsa, hsl⟩ := h2.t.getFrm hlt
            obtain ⟨b', o', g, hdg, rfl, hob', hcg, hfg⟩ := h2.g.getI hlt'
            have hob1 : b < wo.heap.size := hob
            have hob2 : b' < wo.heap.size := hob'
            have hwl : w.heap.size < wo.heap.size := by omega
            have step := allT_step (n := f.lo.length) hd.out hdg.out
            have hfg' := hfg.i64
            have hzo : SlAt (pI .i64) (Old wo) wo (some ⟨W0.heap.size, 0, none⟩) f.lo.length (List.replicate f.lo.length 0) := Hzs.out.later hb2.out
            have hcall : ∀ W : World, Below wo.heap.size wo W → Calls Try.prog 37 #[.agg #[.int .i64 t.const, .slice A t.coefs.length c], .slice (some ⟨W0.heap.size, 0, none⟩) f.lo.length f.lo.length] W (PairPost (if formF t f.lo.length = true then (t.const, 0) else (0, 8)) W) := fun W hW => by
              have := value_calls A c t (some ⟨W0.heap.size, 0, none⟩) f.lo.length (List.replicate f.lo.length 0) W (hsa.out.later hW) (hzo.later hW) hsc
              rwa [valueF_zero t hn4, List.length_replicate] at this
            have Hcall := Lib.hid hcall; clear hcall
            have Step := Lib.hid step; clear step
            have Hzo := Lib.hid hzo; clear hzo
            have H2 := Lib.hid h2; clear h2
            go_wp2_with fail
            refine (Hcall.out _ ((Below.refl _ _).alloc (Nat.le_refl _) _)).mono ?_
            rintro e w5 ⟨rfl, hb5⟩
            have hbo5 : Below wo.heap.size wo w5 := ((Below.refl _ _).alloc (Nat.le_refl _) _).trans (hb5.mono (by simp))
            have y3 := (hbo5.cell (p := ⟨w.heap.size, 3, none⟩) hwl).trans x3
            have yg := (hbo5.cell (p := ⟨b', o' + k2, none⟩) hob2).trans hcg
            have hz5 := hbo5.size
            have hbw5 := Hbwo.out.trans (hbo5.mono (by omega))
            have hb15 := hb2.out.trans (hbo5.mono hsz2)
            have Hbo5 := Lib.hid hbo5; clear hbo5
            have Hbw5 := Lib.hid hbw5; clear hbw5
            have Hb15 := Lib.hid hb15; clear hb15
            clear hb5 x2 x3 hs0 hs1 hcg
            cases hfm : formF t f.lo.length
            · have hn : validF f = false := by rw [hall.out, Step.out, okT_form hfm]; rfl
              have Hn := Lib.hid hn; clear hn
              have Hfm := Lib.hid hfm; clear hfm
              go_wp2
              go_ret
              exact ⟨by rw [Hn.out]; rfl, Hbw5.out⟩
            · by_cases c1 : g < -1000000000
              · have hn : validF f = false := by rw [hall.out, Step.out, okT_no (.inl c1)]; rfl
                have Hn := Lib.hid hn; clear hn
                have Hfm := Lib.hid hfm; clear hfm
                go_wp2
                go_ret
                exact ⟨by rw [Hn.out]; rfl, Hbw5.out⟩
              by_cases c2 : 1000000000 < g
              · have hn : validF f = false := by rw [hall.out, Step.out, okT_no (.inr c2)]; rfl
                have Hn := Lib.hid hn; clear hn
                have Hfm := Lib.hid hfm; clear hfm
                go_wp2
                go_ret
                exact ⟨by rw [Hn.out]; rfl, Hbw5.out⟩
              have Hfm := Lib.hid hfm; clear hfm
              go_wp2
              go_roundw
              case rel =>
                refine ⟨k2 + 1, by omega, by go_num, Hb15, by omega, ?_⟩
                unfold Hid; rw [hall.out, Step.out, okT_yes Hfm.out (g := g) (by omega) (by omega)]; rfl
              case measure => simp [intOf]; omega
          · have hy3 : validF f = true := by rw [hall.out, drop_end hlt]; rfl
            have Hy3 := Lib.hid hy3; clear hy3
            go_wp2
            go_ret
            exact ⟨by rw [Hy3.out]; rfl, Hbwo.out⟩

set_option maxRecDepth 100000 in
set_option maxHeartbeats 4000000 in
theorem refValid_calls (f : Fit) (A1 : Option Addr) (c1 : Nat) (A2 : Option Addr) (c2 : Nat) (A3 : Option Addr) (c3 : Nat) (A4 : Option Addr) (c4 : Nat) (w : World) (h : FitAt f (Old w) w A1 c1 A2 c2 A3 c3 A4 c4) : Calls Try.prog 12 #[.agg #[.slice A1 f.lo.length c1, .slice A2 f.hi.length c2, .slice A3 f.terms.length c3, .slice A4 f.goals.length c4]] w (BoolPost (validF f) w) := by
  have m1 := h.l.lenle
  have m2 := h.h.lenle
  have m3 := h.t.lenle
  have m4 := h.g.lenle
  have hcase := valid_cases f
  obtain ⟨W0, hW0⟩ : ∃ W0, W0 = w.alloc (.cells #[.slice A1 f.lo.length c1, .slice A2 f.hi.length c2, .slice A3 f.terms.length c3, .slice A4 f.goals.length c4] 25) := ⟨_, rfl⟩
  have hb0 : Below w.heap.size w W0 := by rw [hW0]; exact (Below.refl _ _).alloc (Nat.le_refl _) _
  have hz0 : w.heap.size + 1 ≤ W0.heap.size := by rw [hW0]; simp
  have hl0 : w.heap.size < W0.heap.size := by omega
  have hbl0 : Blk W0 w.heap.size 25 #[.slice A1 f.lo.length c1, .slice A2 f.hi.length c2, .slice A3 f.terms.length c3, .slice A4 f.goals.length c4] := by rw [hW0]; exact Blk.new _ _ _
  have h0 := h.later hb0
  have H0 := Lib.hid h0; clear h0
  have Hb0 := Lib.hid hb0; clear hb0
  have Hbl0 := Lib.hid hbl0; clear hbl0
  have HW0 := Lib.hid hW0; clear hW0
  clear h
  rcases hcase with ⟨hno, hc⟩ | ⟨t1, t2, t3, t4, t5, e3, e5, hyes⟩
  · have Hno := Lib.hid hno; clear hno
    go_enter Try.func12, Try.ntmps12
    rcases hc with t1 | ⟨t1, t2⟩ | ⟨t1, t2, t3⟩ | ⟨t1, t2, t3, t4⟩ | ⟨t1, t2, t3, t4, t5⟩
    all_goals
      go_wp2
      go_ret
      exact ⟨by rw [Hno.out]; rfl, by rw [← HW0.out]; exact Hb0.out⟩
  · have hn4 : f.lo.length ≤ 4 := by omega
    have Hyes := Lib.hid hyes; clear hyes
    have E3 := Lib.hid e3; clear e3
    have E5 := Lib.hid e5; clear e5
    go_enter Try.func12, Try.ntmps12
    go_wp2
    rw [← HW0.out]
    clear t1 t2 t3 t4 t5
    go_loopw [4] (fun i wr => ∃ k : Nat, k ≤ f.lo.length ∧ i = .int .i64 k ∧ Hid (allB f.lo f.hi = allB (f.lo.drop k) (f.hi.drop k)) ∧ Hid (∃ n, wr = W0.drewN n)) (fun i _ => f.lo.length - (intOf i).toNat)
    case atStart => exact ⟨0, Nat.zero_le _, rfl, rfl, 0, rfl⟩
    case round =>
      obtain ⟨k, hk, rfl, hall, hw⟩ := hrel
      have hb : Below W0.heap.size W0 wr := by obtain ⟨n, rfl⟩ := hw.out; exact below_drewN (Below.refl _ _) n
      obtain ⟨x0, x1, x2, x3⟩ := (Hbl0.out.same (hb.block _ (by omega))).four
      have h1 := H0.out.below hb
      have hbw : ∀ n : Nat, Below w.heap.size w (wr.drewN n) := fun n => below_drewN (Hb0.out.trans (hb.mono (by omega))) n
      have hsz := hb.size
      have H1 := Lib.hid h1; clear h1
      have Hb := Lib.hid hb; clear hb
      have Hbw := Lib.hid hbw; clear hbw
      by_cases hlt : k < f.lo.length
      · have hlt' : k < f.hi.length := by rw [E3.out]; exact hlt
        obtain ⟨b, o, x, hdx, rfl, _, hcx, hfx⟩ := H1.out.l.getI hlt
        obtain ⟨b', o', y, hdy, rfl, _, hcy, hfy⟩ := H1.out.h.getI hlt'
        have no : okB x y = false → validF f = false := fun hn => by rw [Hyes.out, hall.out, allB_step hdx.out hdy.out, hn]; rfl
        have hfx' := hfx.i64
        have hfy' := hfy.i64
        have hlt2 : (k : Int) < (f.hi.length : Int) := by omega
        have hk0 : (0 : Int) ≤ (k : Int) := Int.natCast_nonneg _
        have No := Lib.hid no; clear no
        clear x2 x3
        by_cases c1 : y < x
        · have hn := No.out (okB_no (.inl c1))
          have Hn := Lib.hid hn; clear hn
          go_wp2
          go_quiet (fail)
          go_wp2
          go_ret
          exact ⟨by rw [Hn.out]; rfl, Hbw.out _⟩
        have d1 : decide (y < x) = false := decide_eq_false c1
        by_cases c2 : x < -1000000
        · have hn := No.out (okB_no (.inr (.inl c2)))
          have Hn := Lib.hid hn; clear hn
          go_wp2
          go_quiet (fail)
          go_wp2
          go_ret
          exact ⟨by rw [Hn.out]; rfl, Hbw.out _⟩
        have d2 : decide (x < -1000000) = false := decide_eq_false c2
        by_cases c3 : 1000000 < y
        · have hn := No.out (okB_no (.inr (.inr c3)))
          have Hn := Lib.hid hn; clear hn
          go_wp2
          go_quiet (fail)
          go_wp2
          go_ret
          exact ⟨by rw [Hn.out]; rfl, Hbw.out _⟩
        have d3 : decide (1000000 < y) = false := decide_eq_false c3
        go_wp2
        go_quiet (fail)
        go_wp2
        go_roundw
        case rel =>
          refine ⟨k + 1, by omega, by go_num, ?_, ?_⟩
          · unfold Hid; rw [hall.out, allB_step hdx.out hdy.out, okB_yes (x := x) (y := y) (by omega) (by omega) (by omega)]; rfl
          · obtain ⟨n, rfl⟩ := hw.out
            exact ⟨_, World.drewN_drewN _ _ _⟩
        case measure => simp [intOf]; omega
      · have hy2 : validF f = allT f.lo.length f.terms f.goals := by rw [Hyes.out, hall.out, drop_end hlt]; rfl
        have Hy2 := Lib.hid hy2; clear hy2
        go_wp2
        clear hlt hall x0 x1 x2 x3
        go_loopw [5] (fun i wr => ∃ k : Nat, k ≤ f.terms.length ∧ i = .int .i64 k ∧ Hid (Below W0.heap.size W0 wr) ∧ W0.heap.size ≤ wr.heap.size ∧ Hid (validF f = allT f.lo.length (f.terms.drop k) (f.goals.drop k))) (fun i _ => f.terms.length - (intOf i).toNat)
        case atStart => exact ⟨0, Nat.zero_le _, rfl, Hb, hsz, Hy2⟩
        case round =>
          obtain ⟨k2, hk2, rfl, hb2, hsz2, hall⟩ := hrel
          obtain ⟨wo, rfl⟩ : ∃ wo : World, wo = wr := ⟨_, rfl⟩
          obtain ⟨x0, x1, x2, x3⟩ := (Hbl0.out.same (hb2.out.block _ (by omega))).four
          clear x0 x1
          have hbwo := Hb0.out.trans (hb2.out.mono (by omega))
          have Hbwo := Lib.hid hbwo; clear hbwo
          by_cases hlt : k2 < f.terms.length
          · have hlt' : k2 < f.goals.length := by rw [E5.out]; exact hlt
            have h2 := H0.out.later hb2.out
            obtain ⟨b, o, A, c, t, hd, rfl, hob, hs0, hs1, hsc, hsa, hsl⟩ := h2.t.getFrm hlt
            obtain ⟨b', o', g, hdg, rfl, hob', hcg, hfg⟩ := h2.g.getI hlt'
            have hob1 : b < wo.heap.size := hob
            have hob2 : b' < wo.heap.size := hob'
            have hwl : w.heap.size < wo.heap.size := by omega
            have step := allT_step (n := f.lo.length) hd.out hdg.out
            have hfg' := hfg.i64
            have hcall := refForm_calls A c t f.lo.length wo hsa.out (fun q hq => hq) hsc (by omega)
            have Hcall := Lib.hid hcall; clear hcall
            have Step := Lib.hid step; clear step
            have H2 := Lib.hid h2; clear h2
            go_wp2_with fail
            refine Hcall.out.mono ?_
            rintro e w5 ⟨rfl, hbo5⟩
            have y3 := (hbo5.cell (p := ⟨w.heap.size, 3, none⟩) hwl).trans x3
            have yg := (hbo5.cell (p := ⟨b', o' + k2, none⟩) hob2).trans hcg
            have hz5 := hbo5.size
            have hbw5 := Hbwo.out.trans (hbo5.mono (by omega))
            have hb15 := hb2.out.trans (hbo5.mono hsz2)
            have Hbo5 := Lib.hid hbo5; clear hbo5
            have Hbw5 := Lib.hid hbw5; clear hbw5
            have Hb15 := Lib.hid hb15; clear hb15
            clear x2 x3 hs0 hs1 hcg
            cases hfm : formF t f.lo.length
            · have hn : validF f = false := by rw [hall.out, Step.out, okT_form hfm]; rfl
              have Hn := Lib.hid hn; clear hn
              have Hfm := Lib.hid hfm; clear hfm
              go_wp2
              go_ret
              exact ⟨by rw [Hn.out]; rfl, Hbw5.out⟩
            · by_cases c1 : g < -1000000000
              · have hn : validF f = false := by rw [hall.out, Step.out, okT_no (.inl c1)]; rfl
                have Hn := Lib.hid hn; clear hn
                have Hfm := Lib.hid hfm; clear hfm
                go_wp2
                go_ret
                exact ⟨by rw [Hn.out]; rfl, Hbw5.out⟩
              by_cases c2 : 1000000000 < g
              · have hn : validF f = false := by rw [hall.out, Step.out, okT_no (.inr c2)]; rfl
                have Hn := Lib.hid hn; clear hn
                have Hfm := Lib.hid hfm; clear hfm
                go_wp2
                go_ret
                exact ⟨by rw [Hn.out]; rfl, Hbw5.out⟩
              have Hfm := Lib.hid hfm; clear hfm
              go_wp2
              go_roundw
              case rel =>
                refine ⟨k2 + 1, by omega, by go_num, Hb15, by omega, ?_⟩
                unfold Hid; rw [hall.out, Step.out, okT_yes Hfm.out (g := g) (by omega) (by omega)]; rfl
              case measure => simp [intOf]; omega
          · have hy3 : validF f = true := by rw [hall.out, drop_end hlt]; rfl
            have Hy3 := Lib.hid hy3; clear hy3
            go_wp2
            go_ret
            exact ⟨by rw [Hy3.out]; rfl, Hbwo.out⟩
end Go.Proofs.Ytfeafembifdklaa
