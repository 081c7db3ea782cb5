/-
  Layer 7: found.
-/
import Derived.Test.YtmcgfhgpldfknaaDoorQe
import Derived.BigRegion
namespace Go.Proofs.YtmcgfhgpldfknaaDoor
open Go.RowKit Go.Sort
set_option linter.unusedVariables false
theorem below_undrew {w w' : World} (h : Below w.drew.heap.size w.drew w') : Below w.heap.size w w' := ⟨h.os, h.tape, h.output, h.size, h.block⟩
set_option maxRecDepth 100000 in
set_option maxHeartbeats 1000000 in
theorem found_calls (A : Option Addr) (c : Nat) (m : Mod) (want : Int) (w : World) (h : SlAt (pI .i64) (Old w) w A c m.args) (h8 : Fits .u8 m.name) (hr : findF givenR m = (want, 0)) :
    Calls Tryd.prog 16 #[.agg #[.int .u8 m.name, .slice A m.args.length c], .int .i64 want] w (OkPost w) := by
  have hmx := h.lenle
  have ekk : (want == want) = true := beq_self_eq_true _
  obtain ⟨W0, hW0⟩ : ∃ W0, W0 = w.alloc (.cells #[.int .u8 m.name, .slice A m.args.length c] 44) := ⟨_, rfl⟩
  have hb0 : Below w.heap.size w W0 := by rw [hW0]; exact bl _
  have hz0 : w.heap.size < W0.heap.size := by rw [hW0]; simp
  have hbl : Blk W0 w.heap.size 44 #[.int .u8 m.name, .slice A m.args.length c] := by rw [hW0]; exact Blk.new _ _ _
  have sk : ∀ w', Below W0.heap.size W0 w' → w'.cell? ⟨w.heap.size, 0, none⟩ = some (.int .u8 m.name) ∧ w'.cell? ⟨w.heap.size, 1, none⟩ = some (.slice A m.args.length c) := fun w' hb => by
    have hx := hbl.same (hb.block _ hz0)
    exact ⟨hx.cell 0, hx.cell 1⟩
  have sk0 := sk W0 (Below.refl _ _)
  have fnd : ∀ (wv : World) (A1 : Option Addr) (c1 : Nat), Below W0.heap.size W0 wv → SlAt pRul (Old wv) wv A1 c1 givenR →
      Calls Tryd.prog 21 #[.slice A1 2 c1, .agg #[.int .u8 m.name, .slice A m.args.length c]] wv fun e w' => e = .returned (.tuple #[.int .i64 want, .int .i64 0]) ∧ Hid (Below w.heap.size w w') ∧ Below W0.heap.size W0 w' := fun wv A1 c1 hb hs => by
    have hbw := hb0.trans (hb.mono hb0.size)
    have p2 := rFind_calls A1 c1 givenR A c m wv hs (h.later hbw) h8 (small_of sml_all.2.2.2.2.2.2.2.2.2.2)
    rw [hr] at p2
    exact p2.mono fun e w' hh => ⟨hh.1, hbw.trans (hh.2.mono hbw.size), hb.trans (hh.2.mono hb.size)⟩
  obtain ⟨q0, q1⟩ := sk0
  have H := Lib.hid h; clear h
  have H8 := Lib.hid h8; clear h8
  have Hr := Lib.hid hr; clear hr
  have Hb0 := Lib.hid hb0; clear hb0
  have Hbl := Lib.hid hbl; clear hbl
  have Sk := Lib.hid sk; clear sk
  have Fnd := Lib.hid fnd; clear fnd
  go_enter Tryd.func16, Tryd.ntmps16
  go_wp2
  rw [← hW0]
  have HW0 := Lib.hid hW0; clear hW0
  go_region_held3 (fun w' => w'.cell? ⟨w.heap.size, 0, none⟩ = some (.int .u8 m.name) ∧ w'.cell? ⟨w.heap.size, 1, none⟩ = some (.slice A m.args.length c))
    (first | exact Sk.out _ (by assumption) | exact Sk.out _ (below_undrew (by assumption)) | exact ⟨q0, q1⟩ | assumption)
    (first
      | (go_at_call 17; refine (given_calls _).mono ?_; rintro e wv ⟨A1, c1, rfl, S1, b1⟩)
      | (go_at_call 21; refine (Fnd.out wv A1 c1 (by first | exact below_undrew b1 | exact b1) S1.out).mono ?_; rintro e w2 ⟨rfl, b2, b3⟩))
  all_goals
    go_wp2
    go_ret
    exact ⟨rfl, b2.out⟩
end Go.Proofs.YtmcgfhgpldfknaaDoor
