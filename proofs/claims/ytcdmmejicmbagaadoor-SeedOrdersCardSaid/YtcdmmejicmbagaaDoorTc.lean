/-
  Layer 5: the walk of the chapter's examples.
-/
import Derived.Test.YtcdmmejicmbagaaDoorTa
import Derived.Test.YtcdmmejicmbagaaDoorTb
namespace Go.Proofs.YtcdmmejicmbagaaDoor
open Go.RowKit
set_option linter.unusedVariables false

def wantS : List Int := [0, 2, 2, 0, 2, 2]
theorem want_pick : ∀ k : Fin 6, pickF [1, 0, 2] (k.val : Int) = (wantS.getD k.val 0, 0) := by decide +kernel
theorem want_cell : ∀ k : Fin 6, (#[.int .i64 0, .int .i64 2, .int .i64 2, .int .i64 0, .int .i64 2, .int .i64 2] : Array Value)[k.val]? = some (.int .i64 (wantS.getD k.val 0)) := by intro k; match k with | 0 => rfl | 1 => rfl | 2 => rfl | 3 => rfl | 4 => rfl | 5 => rfl
def bs (l : List UInt8) : ByteArray := ⟨l.toArray⟩
theorem of_apart : (ofF 1 ⟨#[]⟩ != ofF 2 ⟨#[]⟩) = true ∧ (ofF 1 ⟨#[97, 98]⟩ != ofF 1 ⟨#[98, 98]⟩) = true ∧ (ofF 1 ⟨#[97, 98]⟩ != ofF 2 ⟨#[97, 98]⟩) = true := by decide +kernel
theorem draw_one (s : Int) (p : ByteArray) : drawF s p 1 = (0, 0) := by
  unfold drawF; rw [if_neg (by omega), Int.emod_one, show wrap64 0 = 0 from by unfold wrap64; omega]
theorem lit3 (w : World) : SlAt (pI .i64) (Old (w.alloc (.cells #[.int .i64 1, .int .i64 0, .int .i64 2] 3))) (w.alloc (.cells #[.int .i64 1, .int .i64 0, .int .i64 2] 3)) (some ⟨w.heap.size, 0, none⟩) 3 [1, 0, 2] :=
  sl_lit (Blk.new _ _ _) (ints_lit (xs := [1, 0, 2]) (by decide)) (by show _ < _; simp) (by show 3 ≤ maxLen; decide) rfl
theorem al {w : World} (o : Obj) : Below w.heap.size w (w.alloc o) := (Below.refl _ _).alloc (Nat.le_refl _) _
set_option maxRecDepth 100000 in
set_option maxHeartbeats 4000000 in
theorem alive_calls (w : World) : Calls Tryd.prog 14 #[] w (BoolPost true w) := by
  obtain ⟨W0, hW0⟩ : ∃ W0, W0 = w.alloc (.cells #[.int .i64 0, .int .i64 2, .int .i64 2, .int .i64 0, .int .i64 2, .int .i64 2] 50) := ⟨_, rfl⟩
  have hb0 : Below w.heap.size w W0 := by rw [hW0]; exact al _
  have hbl0 : Blk W0 w.heap.size 50 #[.int .i64 0, .int .i64 2, .int .i64 2, .int .i64 0, .int .i64 2, .int .i64 2] := by rw [hW0]; exact Blk.new _ _ _
  have hz0 : w.heap.size < W0.heap.size := hbl0.lt
  have hoa := of_apart
  have HW0 := Lib.hid hW0; clear hW0
  have Hb0 := Lib.hid hb0; clear hb0
  have Hbl0 := Lib.hid hbl0; clear hbl0
  have Hoa := Lib.hid hoa; clear hoa
  go_enter Tryd.func14, Tryd.ntmps14
  go_wp2
  rw [← HW0.out]
  go_loopw [2] (fun i wr => ∃ k : Nat, k ≤ 6 ∧ i = .int .i64 k ∧ Hid (Below W0.heap.size W0 wr)) (fun i _ => 6 - (intOf i).toNat)
  case atStart => exact ⟨0, by omega, rfl, Below.refl _ _⟩
  case round =>
    obtain ⟨k, hk, rfl, hb⟩ := hrel
    obtain ⟨wo, rfl⟩ : ∃ wo : World, wo = wr := ⟨_, rfl⟩
    have hzo := hb.out.size
    by_cases hlt : k < 6
    · have hw : IntKind.u64.wrap (k : Int) = (k : Int) := by rw [IntKind.wrap_u64]; omega
      have hL := lit3 wo
      have hc := pick_calls (some ⟨wo.heap.size, 0, none⟩) 3 [1, 0, 2] (k : Int) _ hL (by omega)
      rw [want_pick ⟨k, hlt⟩] at hc
      have hcell := want_cell ⟨k, hlt⟩
      obtain ⟨v, hv⟩ : ∃ v, wantS.getD k 0 = v := ⟨_, rfl⟩
      simp only [] at hc hcell
      rw [hv] at hc hcell
      have Hc := Lib.hid hc
      have HL := Lib.hid hL; clear hL
      have Hv := Lib.hid hv; clear hv
      have Hcell := Lib.hid hcell; clear hcell
      clear hc
      go_wp2_with fail
      refine Hc.out.mono ?_
      rintro e w2 ⟨rfl, hb2⟩
      have hbb := hb.out.trans (((al (.cells #[.int .i64 1, .int .i64 0, .int .i64 2] 3)).trans (hb2.mono (by simp))).mono hzo)
      have q : w2.cell? ⟨w.heap.size, k, none⟩ = some (.int .i64 v) := ((Hbl0.out.same (hbb.block _ hz0)).cell k).trans Hcell.out
      have hk1 : (k : Int) < 6 := by omega
      have hk0 : (0 : Int) ≤ (k : Int) := by omega
      have Hbb := Lib.hid hbb; clear hbb
      clear hb2 Hc
      go_wp2
      go_roundw
      case rel => exact ⟨k + 1, by omega, by go_num, Hbb⟩
      case measure => simp [intOf]; omega
    · obtain rfl : k = 6 := by omega
      have hb00 := Lib.hid (Hb0.out.trans (hb.out.mono (by omega)))
      clear hb hzo hlt hk
      go_wp2_with fail
      refine (order_one 5 ⟨#[120]⟩ wo).mono ?_
      rintro e w2 ⟨Ao, co, rfl, hso, hb2⟩
      have Hb2 := Lib.hid (hb00.out.trans (hb2.mono hb00.out.size))
      have z2 := Hb2.out.size
      obtain ⟨b, o, x, hd, rfl, hob, hcx, _⟩ := hso.getI (i := 0) (by decide)
      have hx : x = 0 := by have := hd.out; simp at this; exact this.symm
      subst hx
      have hob' : b < w2.heap.size := hob
      clear hb2 hso hd
      have hdr := draw_calls (-3) ⟨#[97, 47, 98]⟩ 1 w2 (fits_i64 (by decide)) (by decide) (fits_i64 (by decide))
      rw [draw_one] at hdr
      have Hdr := Lib.hid hdr; clear hdr
      go_wp2_with fail
      refine Hdr.out.mono ?_
      rintro e w3 ⟨rfl, hb3⟩
      have q3 : w3.cell? ⟨b, o + 0, none⟩ = some (.int .i64 0) := (hb3.cell (p := ⟨b, _, none⟩) hob').trans hcx
      have Hb3 := Lib.hid (Hb2.out.trans (hb3.mono z2))
      have z3 := Hb3.out.size
      simp only [Nat.add_zero] at q3 hcx
      clear hb3 hcx
      obtain ⟨o1, o2, o3⟩ := Hoa.out
      go_wp2_with fail
      refine (of_calls 1 ⟨#[]⟩ w3 (fits_i64 (by decide)) (by decide)).mono ?_
      rintro e w4 ⟨rfl, hb4⟩
      have Hb4 := Lib.hid (Hb3.out.trans (hb4.mono z3))
      have z4 := Hb4.out.size
      clear hb4
      go_wp2_with fail
      refine (of_calls 2 ⟨#[]⟩ w4 (fits_i64 (by decide)) (by decide)).mono ?_
      rintro e w5 ⟨rfl, hb5⟩
      have Hb5 := Lib.hid (Hb4.out.trans (hb5.mono z4)); clear hb5
      have z5 := Hb5.out.size
      go_wp2_with fail
      refine (of_calls 1 ⟨#[97, 98]⟩ w5 (fits_i64 (by decide)) (by decide)).mono ?_
      rintro e w6 ⟨rfl, hb6⟩
      have Hb6 := Lib.hid (Hb5.out.trans (hb6.mono z5)); clear hb6
      have z6 := Hb6.out.size
      go_wp2_with fail
      refine (of_calls 1 ⟨#[98, 98]⟩ w6 (fits_i64 (by decide)) (by decide)).mono ?_
      rintro e w7 ⟨rfl, hb7⟩
      have Hb7 := Lib.hid (Hb6.out.trans (hb7.mono z6)); clear hb7
      have z7 := Hb7.out.size
      go_wp2_with fail
      refine (of_calls 1 ⟨#[97, 98]⟩ w7 (fits_i64 (by decide)) (by decide)).mono ?_
      rintro e w8 ⟨rfl, hb8⟩
      have Hb8 := Lib.hid (Hb7.out.trans (hb8.mono z7)); clear hb8
      have z8 := Hb8.out.size
      go_wp2_with fail
      refine (of_calls 2 ⟨#[97, 98]⟩ w8 (fits_i64 (by decide)) (by decide)).mono ?_
      rintro e w9 ⟨rfl, hb9⟩
      have Hb9 := Lib.hid (Hb8.out.trans (hb9.mono z8)); clear hb9
      have z9 := Hb9.out.size
      go_wp2
      go_ret
      exact ⟨rfl, Hb9.out⟩
end Go.Proofs.YtcdmmejicmbagaaDoor
