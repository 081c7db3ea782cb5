/-
  Layer 5: the walks of Pick and Choose.
-/
import Derived.Test.YtcdmmejicmbagaaDoorSb
namespace Go.Proofs.YtcdmmejicmbagaaDoor
open Go.RowKit

def pickIx : Int → List Int → Nat → Option Nat
  | _, [], _ => none
  | r, x :: l, i => if r < x then some i else pickIx (r - x) l (i + 1)
def pickF (l : List Int) (h : Int) : Int × Int := if sumW l = 0 then (0, 2) else match pickIx (h % sumW l) l 0 with
  | some i => ((i : Int), 0)
  | none => (0, 2)
theorem pickIx_some : ∀ (l : List Int) (r : Int) (i : Nat), 0 ≤ r → r < l.sum → pickIx r l i ≠ none
  | [], r, i, h0, h => by simp at h; omega
  | x :: l, r, i, h0, h => by
    unfold pickIx
    split
    · simp
    · exact pickIx_some l (r - x) (i + 1) (by omega) (by rw [List.sum_cons] at h; omega)

set_option maxHeartbeats 1000000 in
theorem more_calls (x S : Int) (g : Nat) (w : World) (hc : w.cell? ⟨g, 0, none⟩ = some (.int .i64 S)) (hf : w.frozen? ⟨g, 0, none⟩ = false) (hx : Fits .i64 x) (hx1 : x ≤ 1000000000) (hS : 0 ≤ S ∧ S ≤ 1000000000) :
    Calls Tryd.prog 18 #[.int .i64 x, .pointer (some ⟨g, 0, none⟩)] w fun e w' => e = .returned (.bool (decide (0 ≤ x) && decide (S + x ≤ 1000000000))) ∧ w' = w.setCell ⟨g, 0, none⟩ (.int .i64 (S + x)) := by
  have hx' := hx.i64
  have hset : (w.setCell ⟨g, 0, none⟩ (.int .i64 (S + x))).cell? ⟨g, 0, none⟩ = some (.int .i64 (S + x)) := World.cell?_setCell_same _ _ _ hc
  by_cases h0 : x < 0
  · go_enter Tryd.func18, Tryd.ntmps18
    go_wp2
    go_ret
    exact ⟨by rw [show decide (0 ≤ x) = false from by simp; omega]; rfl, rfl⟩
  · go_enter Tryd.func18, Tryd.ntmps18
    go_wp2
    go_ret
    exact ⟨rfl, rfl⟩

set_option maxRecDepth 100000 in
set_option maxHeartbeats 2000000 in
theorem pick_calls (A : Option Addr) (c : Nat) (l : List Int) (h : Int) (w : World) (hl : SlAt (pI .i64) (Old w) w A c l) (hh : 0 ≤ h ∧ h ≤ 18446744073709551615) :
    Calls Tryd.prog 9 #[.slice A l.length c, .int .u64 h] w (PairPost (pickF l h) w) := by
  have hmx := hl.lenle
  have H := Lib.hid hl; clear hl
  by_cases hbig : 200 < l.length
  · go_enter Tryd.func9, Tryd.ntmps9
    go_wp2
    go_ret2
    exact ⟨by unfold pickF sumW; rw [if_pos hbig]; rfl, Below.refl _ _⟩
  · have hle : l.length ≤ 200 := by omega
    have Hbig := Lib.hid hbig; clear hbig
    have hb0 : Below w.heap.size w (w.alloc (.cells #[.int .i64 0] 3)) := (Below.refl _ _).alloc (Nat.le_refl _) _
    have hblk0 := (Blk.new w 3 #[.int .i64 0])
    have hc0 : (w.alloc (.cells #[.int .i64 0] 3)).cell? ⟨w.heap.size, 0, none⟩ = some (.int .i64 0) := (hblk0.cell 0).trans rfl
    have hf0 : (w.alloc (.cells #[.int .i64 0] 3)).frozen? ⟨w.heap.size, 0, none⟩ = false := hblk0.free 0
    have Hb0 := Lib.hid hb0; have Hc0 := Lib.hid hc0; have Hf0 := Lib.hid hf0
    clear hb0 hblk0 hc0 hf0
    go_enter Tryd.func9, Tryd.ntmps9
    go_wp2
    go_loopw [19] (fun i wr => ∃ k : Nat, k ≤ l.length ∧ i = .int .i64 k ∧ Hid (Below w.heap.size w wr) ∧ ∃ S : Int, wr.cell? ⟨w.heap.size, 0, none⟩ = some (.int .i64 S) ∧ wr.frozen? ⟨w.heap.size, 0, none⟩ = false ∧ Hid (allW l = allW (l.drop k)) ∧ Hid (l.sum = S + (l.drop k).sum) ∧ 0 ≤ S ∧ S ≤ 1000000000) (fun i _ => l.length - (intOf i).toNat)
    case atStart => exact ⟨0, Nat.zero_le _, rfl, Hb0, 0, Hc0.out, Hf0.out, rfl, by unfold Hid; simp, by omega, by omega⟩
    case round =>
      obtain ⟨k, hk, rfl, hb, S, hc, hf, hall, hsum, hS0, hS1⟩ := hrel
      obtain ⟨wo, rfl⟩ : ∃ wo : World, wo = wr := ⟨_, rfl⟩
      clear Hb0 Hc0 Hf0
      by_cases hlt : k < l.length
      · obtain ⟨b, o, x, hd, rfl, hob, hcx, hfx⟩ := (H.out.below hb.out).getI hlt
        have hx' := hfx.i64
        by_cases hx1 : 1000000000 < x
        · have hsw : sumW l = 0 := by
            unfold sumW; rw [if_neg Hbig.out, if_neg]
            rw [hall.out, hd.out]; simp [allW]; omega
          have Hsw := Lib.hid hsw; clear hsw
          go_wp2
          go_ret2
          exact ⟨by unfold pickF; rw [if_pos Hsw.out]; rfl, hb.out⟩
        · have hm := more_calls x S w.heap.size wo hc hf hfx (by omega) ⟨hS0, hS1⟩
          have hc2 : (wo.setCell ⟨w.heap.size, 0, none⟩ (.int .i64 (S + x))).cell? ⟨w.heap.size, 0, none⟩ = some (.int .i64 (S + x)) := World.cell?_setCell_same _ _ _ hc
          have hf2 : (wo.setCell ⟨w.heap.size, 0, none⟩ (.int .i64 (S + x))).frozen? ⟨w.heap.size, 0, none⟩ = false := by rw [World.frozen?_setCell]; exact hf
          have hb2 : Below w.heap.size w (wo.setCell ⟨w.heap.size, 0, none⟩ (.int .i64 (S + x))) := hb.out.setCell (Nat.le_refl _) _
          have Hc2 := Lib.hid hc2; have Hf2 := Lib.hid hf2; have Hb2 := Lib.hid hb2
          clear hc2 hf2 hb2
          by_cases hy : 0 ≤ x ∧ S + x ≤ 1000000000
          · rw [show (decide (0 ≤ x) && decide (S + x ≤ 1000000000)) = true from by simp; exact hy] at hm
            have Hm := Lib.hid hm; clear hm
            obtain ⟨wn, hwn⟩ : ∃ wn : World, wn = wo.setCell ⟨w.heap.size, 0, none⟩ (.int .i64 (S + x)) := ⟨_, rfl⟩
            rw [← hwn] at Hc2 Hf2 Hb2 Hm
            have Hwn := Lib.hid hwn; clear hwn
            go_wp2_with (go_at_call 18; refine Hm.out.mono ?_; rintro e w' ⟨rfl, rfl⟩)
            go_roundw
            case rel =>
              refine ⟨k + 1, by omega, by go_num, Hb2, S + x, Hc2.out, Hf2.out, ?_, ?_, by omega, by omega⟩
              · unfold Hid; rw [hall.out, hd.out]
                have : (decide (0 ≤ x) && decide (x ≤ 1000000000)) = true := by simp; omega
                simp only [allW, List.all_cons, this, Bool.true_and]
              · unfold Hid; rw [hsum.out, hd.out, List.sum_cons]; omega
            case measure => simp [intOf]; omega
          · rw [show (decide (0 ≤ x) && decide (S + x ≤ 1000000000)) = false from by simp; omega] at hm
            have Hm := Lib.hid hm; clear hm
            have hsw : sumW l = 0 := by
              unfold sumW
              rw [if_neg Hbig.out]
              split
              · rename_i ha
                rw [hall.out, hd.out] at ha
                simp only [allW, List.all_cons, Bool.and_eq_true, decide_eq_true_eq] at ha
                have h3 := sum_le (l.drop (k + 1)) ha.2
                rw [if_pos]
                rw [hsum.out, hd.out, List.sum_cons]; omega
              · rfl
            have Hsw := Lib.hid hsw; clear hsw hy
            go_wp2_with (go_at_call 18; refine Hm.out.mono ?_; rintro e w' ⟨rfl, rfl⟩)
            go_ret2
            exact ⟨by unfold pickF; rw [if_pos Hsw.out]; rfl, Hb2.out⟩
      · have hs : l.sum = S := by rw [hsum.out, drop_end hlt]; simp
        have ha : allW l = true := by rw [hall.out, drop_end hlt]; rfl
        have hsw : sumW l = S := by unfold sumW; rw [if_neg Hbig.out, if_pos ha, hs, if_neg (by omega)]
        have Hsw := Lib.hid hsw
        have Ha := Lib.hid ha
        clear hs ha hsw hall hsum
        by_cases hz : S = 0
        · subst hz
          go_wp2
          go_ret2
          exact ⟨by unfold pickF; rw [if_pos Hsw.out]; rfl, hb.out⟩
        · have hw : IntKind.u64.wrap S = S := by rw [IntKind.wrap_u64]; omega
          have hr1 := Int.emod_nonneg h hz
          have hr2 := Int.emod_lt_of_pos h (show 0 < S by omega)
          obtain ⟨r0, hr0⟩ : ∃ r0, h % S = r0 := ⟨_, rfl⟩
          rw [hr0] at hr1 hr2
          have hp : pickF l h = match pickIx r0 l 0 with | some i => ((i : Int), 0) | none => (0, 2) := by unfold pickF; rw [if_neg (by rw [Hsw.out]; exact hz), Hsw.out, hr0]
          have Hp := Lib.hid hp; clear hp
          go_wp2
          go_loop [41, 10] (fun i r => ∃ j : Nat, j ≤ l.length ∧ i = .int .i64 j ∧ ∃ r1 : Int, r = .int .i64 r1 ∧ 0 ≤ r1 ∧ r1 ≤ 1000000000 ∧ Hid (pickIx r0 l 0 = pickIx r1 (l.drop j) j)) (fun i _ => l.length - (intOf i).toNat)
          case atStart => exact ⟨0, Nat.zero_le _, rfl, r0, rfl, hr1, by omega, rfl⟩
          case round =>
            obtain ⟨j, hj, rfl, r1, rfl, h10, h11, hpk⟩ := hrel
            by_cases hlt2 : j < l.length
            · obtain ⟨b, o, x, hd, rfl, hob, hcx, hfx⟩ := (H.out.below hb.out).getI hlt2
              have hxa : 0 ≤ x ∧ x ≤ 1000000000 := by
                have := List.all_eq_true.1 Ha.out x (mem_of_drop hd.out)
                simpa using this
              by_cases hrx : r1 < x
              · have hq : pickF l h = ((j : Int), 0) := by rw [Hp.out, hpk.out, hd.out]; unfold pickIx; rw [if_pos hrx]
                have Hq := Lib.hid hq; clear hq
                go_wp2
                go_ret2
                exact ⟨by rw [Hq.out]; rfl, hb.out⟩
              · go_wp2
                go_round
                case rel =>
                  refine ⟨j + 1, by omega, by go_num, r1 - x, rfl, by omega, by omega, ?_⟩
                  unfold Hid; rw [hpk.out, hd.out]; conv => lhs; unfold pickIx
                  rw [if_neg (by omega)]
                case measure => simp [intOf]; omega
            · have hq : pickF l h = (0, 2) := by rw [Hp.out, hpk.out, drop_end hlt2]; rfl
              have Hq := Lib.hid hq; clear hq
              go_wp2
              go_ret2
              exact ⟨by rw [Hq.out]; rfl, hb.out⟩
end Go.Proofs.YtcdmmejicmbagaaDoor
