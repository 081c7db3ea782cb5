/-
  Layer 7: the walk of RewriteFinds.
-/
import Derived.Test.YtajgblblfkcfbaaFi
import Derived.Test.YtajgblblfkcfbaaOp
namespace Go.Proofs.Ytajgblblfkcfbaa
open Go.RowKit Go.Sort

set_option maxRecDepth 100000 in
set_option maxHeartbeats 4000000 in
theorem rewriteFinds_walk (A : Option Addr) (c : Nat) (rs : List Rul) (A1 : Option Addr) (c1 : Nat) (f : Frm) (A2 : Option Addr) (c2 : Nat) (args : List Int) (A3 : Option Addr) (c3 : Nat) (m : Mod) (w : World)
    (h : SlAt pRul (Old w) w A c rs) (hf : SlAt (pI .i64) (Old w) w A1 c1 f.coefs) (hfc : Fits .i64 f.const) (ha : SlAt (pI .i64) (Old w) w A2 c2 args) (hm : SlAt (pI .i64) (Old w) w A3 c3 m.args) (h8 : Fits .u8 m.name) :
    Calls Try.prog 3 #[.slice A rs.length c, .agg #[.int .i64 f.const, .slice A1 f.coefs.length c1], .slice A2 args.length c2, .agg #[.int .u8 m.name, .slice A3 m.args.length c3]] w (OkPost w) := by
  have hmx := h.lenle
  have hfx := hf.lenle
  have hax := ha.lenle
  have hx := hm.lenle
  obtain ⟨W0, hW0⟩ : ∃ W0, W0 = (w.alloc (.cells #[.int .i64 f.const, .slice A1 f.coefs.length c1] 25)).alloc (.cells #[.int .u8 m.name, .slice A3 m.args.length c3] 27) := ⟨_, rfl⟩
  have hb0 : Below w.heap.size w W0 := by rw [hW0]; exact ((Below.refl _ _).alloc (Nat.le_refl _) _).alloc (by simp) _
  have hz0 : w.heap.size + 2 ≤ W0.heap.size := by rw [hW0]; simp
  have hbf0 : Blk W0 w.heap.size 25 #[.int .i64 f.const, .slice A1 f.coefs.length c1] := by rw [hW0]; exact (Blk.new _ _ _).alloc _
  have hbm0 : Blk W0 (w.heap.size + 1) 27 #[.int .u8 m.name, .slice A3 m.args.length c3] := by
    rw [hW0]
    have := Blk.new (w.alloc (.cells #[.int .i64 f.const, .slice A1 f.coefs.length c1] 25)) 27 #[.int .u8 m.name, .slice A3 m.args.length c3]
    rwa [show (w.alloc (.cells #[.int .i64 f.const, .slice A1 f.coefs.length c1] 25)).heap.size = w.heap.size + 1 from by simp] at this
  have h0 : SlAt pRul (Old W0) W0 A c rs := h.later hb0
  have hf0 : SlAt (pI .i64) (Old W0) W0 A1 c1 f.coefs := hf.later hb0
  have ha0 : SlAt (pI .i64) (Old W0) W0 A2 c2 args := ha.later hb0
  have hm0 : SlAt (pI .i64) (Old W0) W0 A3 c3 m.args := hm.later hb0
  have cells : ∀ W : World, Below W0.heap.size W0 W → W.cell? ⟨w.heap.size, 0, none⟩ = some (.int .i64 f.const) ∧ W.cell? ⟨w.heap.size, 1, none⟩ = some (.slice A1 f.coefs.length c1) ∧ W.cell? ⟨w.heap.size + 1, 0, none⟩ = some (.int .u8 m.name) ∧ W.cell? ⟨w.heap.size + 1, 1, none⟩ = some (.slice A3 m.args.length c3) := fun W hW =>
    ⟨(hbf0.same (hW.block _ (by omega))).cell 0, (hbf0.same (hW.block _ (by omega))).cell 1, (hbm0.same (hW.block _ (by omega))).cell 0, (hbm0.same (hW.block _ (by omega))).cell 1⟩
  have hgr := greatR_calls A c rs W0 h0
  have H := Lib.hid h; clear h
  have Hb0 := Lib.hid hb0; clear hb0
  have Hbf0 := Lib.hid hbf0; clear hbf0
  have Hbm0 := Lib.hid hbm0; clear hbm0
  have H0 := Lib.hid h0; clear h0
  have Hf0 := Lib.hid hf0; clear hf0
  have Ha0 := Lib.hid ha0; clear ha0
  have Hm0 := Lib.hid hm0; clear hm0
  have Cells := Lib.hid cells; clear cells
  have Hgr := Lib.hid hgr; clear hgr
  have HW0 := Lib.hid hW0; clear hW0
  cases hg : greatR rs
  · have hs := small_of hg
    have Hs := Lib.hid hs; clear hs
    have Hg := Lib.hid hg; clear hg
    by_cases h1 : 10 < f.coefs.length
    · go_enter Try.func3, Try.ntmps3
      go_wp2_with fail
      rw [← HW0.out]
      refine Hgr.out.mono ?_
      rintro e w' ⟨rfl, rfl⟩
      rw [Hg.out]
      obtain ⟨y0, y1, y2, y3⟩ := Cells.out W0 (Below.refl _ _)
      go_wp2
      go_ret
      exact ⟨rfl, Hb0.out⟩
    by_cases h2 : 10 < args.length
    · go_enter Try.func3, Try.ntmps3
      go_wp2_with fail
      rw [← HW0.out]
      refine Hgr.out.mono ?_
      rintro e w' ⟨rfl, rfl⟩
      rw [Hg.out]
      obtain ⟨y0, y1, y2, y3⟩ := Cells.out W0 (Below.refl _ _)
      go_wp2
      go_ret
      exact ⟨rfl, Hb0.out⟩
    by_cases h3 : 10 < m.args.length
    · go_enter Try.func3, Try.ntmps3
      go_wp2_with fail
      rw [← HW0.out]
      refine Hgr.out.mono ?_
      rintro e w' ⟨rfl, rfl⟩
      rw [Hg.out]
      obtain ⟨y0, y1, y2, y3⟩ := Cells.out W0 (Below.refl _ _)
      go_wp2
      go_ret
      exact ⟨rfl, Hb0.out⟩
    go_enter Try.func3, Try.ntmps3
    go_wp2_with fail
    rw [← HW0.out]
    refine Hgr.out.mono ?_
    rintro e w' ⟨rfl, rfl⟩
    rw [Hg.out]
    obtain ⟨y0, y1, y2, y3⟩ := Cells.out W0 (Below.refl _ _)
    clear hz0
    go_wp2_with fail
    refine (value_calls A1 c1 f A2 c2 args W0 Hf0.out Ha0.out hfc).mono ?_
    rintro e w1 ⟨rfl, hb1⟩
    have z1 := hb1.size
    have Hb1 := Lib.hid hb1; clear hb1
    clear y0 y1 y2 y3
    obtain ⟨y0, y1, y2, y3⟩ := Cells.out w1 Hb1.out
    go_wp2_with fail
    refine (refValue_calls A1 c1 f A2 c2 args w1 (Hf0.out.later Hb1.out) (Ha0.out.later Hb1.out) hfc).mono ?_
    rintro e w2 ⟨rfl, hb2⟩
    have Hb2 := Lib.hid (Hb1.out.trans (hb2.mono z1)); clear hb2
    have z2 := Hb2.out.size
    clear y0 y1 y2 y3
    obtain ⟨y0, y1, y2, y3⟩ := Cells.out w2 Hb2.out
    go_wp2_with fail
    refine (rFind_calls A c rs A3 c3 m w2 (H0.out.later Hb2.out) (Hm0.out.later Hb2.out) h8 Hs.out).mono ?_
    rintro e w3 ⟨rfl, hb3⟩
    have Hb3 := Lib.hid (Hb2.out.trans (hb3.mono z2)); clear hb3
    have z3 := Hb3.out.size
    clear y0 y1 y2 y3
    obtain ⟨y0, y1, y2, y3⟩ := Cells.out w3 Hb3.out
    go_wp2_with fail
    refine (refRFind_calls A c rs A3 c3 m w3 (H0.out.later Hb3.out) (Hm0.out.later Hb3.out) Hs.out).mono ?_
    rintro e w4 ⟨rfl, hb4⟩
    have Hb4 := Lib.hid (Hb3.out.trans (hb4.mono z3)); clear hb4
    have z4 := Hb4.out.size
    clear y0 y1 y2 y3
    go_wp2_with fail
    refine (rCheck_calls A c rs w4 (H0.out.later Hb4.out) Hs.out).mono ?_
    rintro e w5 ⟨rfl, hb5⟩
    have Hb5 := Lib.hid (Hb4.out.trans (hb5.mono z4)); clear hb5
    have z5 := Hb5.out.size
    go_wp2_with fail
    refine (refRCheck_calls A c rs w5 (H0.out.later Hb5.out) Hs.out).mono ?_
    rintro e w6 ⟨rfl, hb6⟩
    have Hb6 := Lib.hid (Hb5.out.trans (hb6.mono z5)); clear hb6
    have z6 := Hb6.out.size
    go_wp2
    go_ret
    exact ⟨rfl, Hb0.out.trans (Hb6.out.mono Hb0.out.size)⟩
  · have Hg := Lib.hid hg; clear hg
    go_enter Try.func3, Try.ntmps3
    go_wp2_with fail
    rw [← HW0.out]
    refine Hgr.out.mono ?_
    rintro e w' ⟨rfl, rfl⟩
    rw [Hg.out]
    go_wp2
    go_ret
    exact ⟨rfl, Hb0.out⟩
end Go.Proofs.Ytajgblblfkcfbaa
