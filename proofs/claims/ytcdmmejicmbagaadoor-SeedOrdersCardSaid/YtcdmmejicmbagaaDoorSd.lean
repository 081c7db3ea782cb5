/-
  Layer 5: the walks of the reference's Pick, of Choose and of SeedDraws.
-/
import Derived.Test.YtcdmmejicmbagaaDoorSc
import Derived.Test.YtcdmmejicmbagaaDoorOi
namespace Go.Proofs.YtcdmmejicmbagaaDoor
open Go.RowKit

theorem sumW_ne {l : List Int} (h : ¬ sumW l = 0) : allW l = true ∧ sumW l = l.sum ∧ 0 < l.sum ∧ l.sum ≤ 1000000000 ∧ l.length ≤ 200 := by
  unfold sumW at h ⊢
  by_cases h1 : 200 < l.length
  · rw [if_pos h1] at h; exact absurd rfl h
  · rw [if_neg h1] at h ⊢
    by_cases h2 : allW l = true
    · rw [if_pos h2] at h ⊢
      have := sum_le l h2
      by_cases h3 : 1000000000 < l.sum
      · rw [if_pos h3] at h; exact absurd rfl h
      · rw [if_neg h3] at h ⊢
        exact ⟨h2, rfl, by omega, by omega, by omega⟩
    · rw [if_neg h2] at h; exact absurd rfl h

set_option maxRecDepth 100000 in
set_option maxHeartbeats 2000000 in
theorem refPick_calls (A : Option Addr) (c : Nat) (l : List Int) (h : Int) (w : World) (hl : SlAt (pI .i64) (Old w) w A c l) (hh : 0 ≤ h ∧ h ≤ 18446744073709551615) :
    Calls Tryd.prog 10 #[.slice A l.length c, .int .u64 h] w (PairPost (pickF l h) w) := by
  have hmx := hl.lenle
  have H := Lib.hid hl; clear hl
  go_enter Tryd.func10, Tryd.ntmps10
  go_wp2_with fail
  refine (sum_calls A c l w H.out).mono ?_
  rintro e w1 ⟨rfl, hb1⟩
  have H1 := Lib.hid (H.out.later hb1)
  have Hb1 := Lib.hid hb1; clear hb1
  by_cases hz : sumW l = 0
  · have e0 : (sumW l == 0) = true := by simp [hz]
    have Hz := Lib.hid hz; clear hz
    go_wp2
    go_ret2
    exact ⟨by unfold pickF; rw [if_pos Hz.out]; rfl, Hb1.out⟩
  · obtain ⟨ha, hse, hs0, hs1, hln⟩ := sumW_ne hz
    have hp0 : pickF l h = match pickIx (h % l.sum) l 0 with | some i => ((i : Int), 0) | none => (0, 2) := by unfold pickF; rw [if_neg hz, hse]; rfl
    obtain ⟨S, hS⟩ : ∃ S, l.sum = S := ⟨_, rfl⟩
    rw [hS] at hs0 hs1 hse hp0
    rw [hse]
    have Ha := Lib.hid ha
    have HS := Lib.hid hS
    clear ha hse hz hS
    have hr1 := Int.emod_nonneg h (show S ≠ 0 by omega)
    have hr2 := Int.emod_lt_of_pos h (show 0 < S by omega)
    have hw : IntKind.u64.wrap S = S := by rw [IntKind.wrap_u64]; omega
    have e0 : (S == 0) = false := by simp; omega
    obtain ⟨r0, hr0⟩ : ∃ r0, h % S = r0 := ⟨_, rfl⟩
    rw [hr0] at hr1 hr2 hp0
    have Hp := Lib.hid hp0; clear hp0
    go_wp2
    go_loop [8, 7] (fun i r => ∃ j : Nat, j ≤ l.length ∧ i = .int .i64 j ∧ ∃ r1 : Int, r = .int .i64 r1 ∧ 0 ≤ r1 ∧ r1 ≤ 1000000000 ∧ Hid (pickIx r0 l 0 = pickIx r1 (l.drop j) j) ∧ Hid (r1 < (l.drop j).sum)) (fun i _ => l.length - (intOf i).toNat)
    case atStart => exact ⟨0, Nat.zero_le _, rfl, r0, rfl, hr1, by omega, rfl, by unfold Hid; rw [List.drop_zero, HS.out]; exact hr2⟩
    case round =>
      obtain ⟨j, hj, rfl, r1, rfl, h10, h11, hpk, hlt3⟩ := hrel
      have hlt2 : j < l.length := by
        refine Nat.lt_of_not_le fun hge => ?_
        have := hlt3.out
        rw [List.drop_eq_nil_of_le hge] at this
        simp at this; omega
      obtain ⟨b, o, x, hd, rfl, hob, hcx, hfx⟩ := H1.out.getI hlt2
      have hxa : 0 ≤ x ∧ x ≤ 1000000000 := by
        have := List.all_eq_true.1 Ha.out x (mem_of_drop hd.out)
        simpa using this
      by_cases hrx : r1 < x
      · have hq : pickF l h = ((j : Int), 0) := by rw [Hp.out, hpk.out, hd.out]; unfold pickIx; rw [if_pos hrx]
        have Hq := Lib.hid hq; clear hq
        go_wp2
        go_ret2
        exact ⟨by rw [Hq.out]; rfl, Hb1.out⟩
      · go_wp2
        go_round
        case rel =>
          refine ⟨j + 1, by omega, by go_num, r1 - x, by go_num, by omega, by omega, ?_, ?_⟩
          · unfold Hid; rw [hpk.out, hd.out]; conv => lhs; unfold pickIx
            rw [if_neg (by omega)]
          · unfold Hid; have := hlt3.out; rw [hd.out, List.sum_cons] at this; omega
        case measure => simp [intOf]; omega

def chooseF (s : Int) (p : ByteArray) (l : List Int) : Int × Int := pickF l (ofF s p)
set_option maxHeartbeats 1000000 in
theorem choose_calls (s : Int) (p : ByteArray) (A : Option Addr) (c : Nat) (l : List Int) (w : World) (hs : Fits .i64 s) (hp : p.size ≤ 500) (hl : SlAt (pI .i64) (Old w) w A c l) :
    Calls Tryd.prog 17 #[.int .i64 s, .string p, .slice A l.length c] w (PairPost (chooseF s p l) w) := by
  have H := Lib.hid hl; clear hl
  go_enter Tryd.func17, Tryd.ntmps17
  go_wp2_with fail
  refine (of_calls s p w hs hp).mono ?_
  rintro e w1 ⟨rfl, hb1⟩
  have H1 := Lib.hid (H.out.later hb1)
  have hz1 := hb1.size
  have Hb1 := Lib.hid hb1; clear hb1
  go_wp2_with fail
  refine (pick_calls A c l (ofF s p) w1 H1.out (ofF_range s p)).mono ?_
  rintro e w2 ⟨rfl, hb2⟩
  have Hb2 := Lib.hid (Hb1.out.trans (hb2.mono hz1)); clear hb2
  go_wp2
  go_ret2
  exact ⟨rfl, Hb2.out⟩
end Go.Proofs.YtcdmmejicmbagaaDoor
