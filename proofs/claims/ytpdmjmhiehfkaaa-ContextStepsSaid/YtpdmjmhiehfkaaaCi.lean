/-
  Layer 8: the walks of the reference's check and Find.
-/
import Derived.Test.YtpdmjmhiehfkaaaCh
namespace Go.Proofs.Ytpdmjmhiehfkaaa
open Go.RowKit Go.Sort

theorem checkC_zero {rs : List Rul} {p : ByteArray} (h : checkC rs p = 0) : rs.all coreR = true := by
  rw [checkC_ref] at h
  split at h
  · exact absurd h (by decide)
  · split at h
    · rename_i h2
      rw [List.all_eq_true] at h2 ⊢
      intro r hr
      have := h2 r hr
      unfold refFineC at this
      simp only [Bool.and_eq_true] at this
      exact this.1.1
    · exact absurd h (by decide)
theorem openC_bad {rs : List Rul} {p : ByteArray} {ms : List Mod} (h : checkC rs p ≠ 0) : openC rs p ms = checkC rs p := by unfold openC; rw [if_neg h]
theorem openC_good {rs : List Rul} {p : ByteArray} {ms : List Mod} (h : checkC rs p = 0) : openC rs p ms = checkF ms := by unfold openC; rw [if_pos h]
theorem openC_zero {rs : List Rul} {p : ByteArray} {ms : List Mod} (h : openC rs p ms = 0) : checkC rs p = 0 ∧ checkF ms = 0 := by
  by_cases hc : checkC rs p = 0
  · rw [openC_good hc] at h; exact ⟨hc, h⟩
  · rw [openC_bad hc] at h; exact absurd h hc
theorem cFindF_bad {rs : List Rul} {p : ByteArray} {ms : List Mod} {i : Int} (h : openC rs p ms ≠ 0) : cFindF rs p ms i = (0, openC rs p ms) := by unfold cFindF; rw [if_neg h]
theorem cFindF_out {rs : List Rul} {p : ByteArray} {ms : List Mod} {i : Int} (h : openC rs p ms = 0) (hi : i < 0 ∨ (ms.length : Int) ≤ i) : cFindF rs p ms i = (0, 2) := by unfold cFindF; rw [if_pos h, if_neg (by omega)]
theorem cFindF_in {rs : List Rul} {p : ByteArray} {ms : List Mod} {i : Nat} (h : openC rs p ms = 0) (hi : i < ms.length) : cFindF rs p ms (i : Int) = (findC p rs ms i, 0) := by
  unfold cFindF; rw [if_pos h, if_pos (by omega), Int.toNat_natCast]

set_option maxRecDepth 100000 in
set_option maxHeartbeats 1000000 in
theorem refCOpen_calls (A : Option Addr) (c : Nat) (rs : List Rul) (B : Option Addr) (cb : Nat) (ms : List Mod) (p : ByteArray) (w : World) (h : SlAt pRul (Old w) w A c rs) (h' : SlAt pMod (Old w) w B cb ms) (hs : Small rs) (hp : p.size ≤ 1000) :
    Calls Try.prog 29 #[.slice A rs.length c, .string p, .slice B ms.length cb] w (IntPost (openC rs p ms) w) := by
  have hck := refCCheck_calls A c rs p w h hs hp
  have H := Lib.hid h; clear h
  have H' := Lib.hid h'; clear h'
  have Hs := Lib.hid hs; clear hs
  have Hck := Lib.hid hck; clear hck
  go_enter Try.func29, Try.ntmps29
  go_wp2_with fail
  refine Hck.out.mono ?_
  rintro e w1 ⟨rfl, hb1⟩
  have hz1 := hb1.size
  by_cases hc : checkC rs p = 0
  case neg =>
    have e0 : (checkC rs p != 0) = true := by simp [hc]
    have hy := openC_bad (ms := ms) hc
    have hck1 := refCCheck_calls A c rs p w1 (H.out.later hb1) Hs.out hp
    have Hb1 := Lib.hid hb1; clear hb1
    have Hy := Lib.hid hy; clear hy
    have Hc := Lib.hid hc; clear hc
    have Hck1 := Lib.hid hck1; clear hck1
    go_wp2_with fail
    refine Hck1.out.mono ?_
    rintro e w2 ⟨rfl, hb2⟩
    have hbw := Hb1.out.trans (hb2.mono hz1)
    have Hbw := Lib.hid hbw; clear hbw
    clear hb2
    go_wp2
    go_ret
    exact ⟨ret_int Hy.out.symm, Hbw.out⟩
  case pos =>
    have e0 : (checkC rs p != 0) = false := by simp [hc]
    have hy := openC_good (ms := ms) hc
    have hck1 := refCheck_calls B cb ms w1 (H'.out.later hb1)
    have Hb1 := Lib.hid hb1; clear hb1
    have Hy := Lib.hid hy; clear hy
    have Hc := Lib.hid hc; clear hc
    have Hck1 := Lib.hid hck1; clear hck1
    go_wp2_with fail
    refine Hck1.out.mono ?_
    rintro e w2 ⟨rfl, hb2⟩
    have hbw := Hb1.out.trans (hb2.mono hz1)
    have Hbw := Lib.hid hbw; clear hbw
    clear hb2
    go_wp2
    go_ret
    exact ⟨ret_int Hy.out.symm, Hbw.out⟩

theorem ret_pair {x : Int × Int} {a b : Int} (h : x = (a, b)) : Ending.returned (.tuple #[.int .i64 a, .int .i64 b]) = .returned (.tuple #[.int .i64 x.1, .int .i64 x.2]) := by rw [h]

set_option maxRecDepth 100000 in
set_option maxHeartbeats 1000000 in
theorem refCFind_calls (A : Option Addr) (c : Nat) (rs : List Rul) (B : Option Addr) (cb : Nat) (ms : List Mod) (p : ByteArray) (i : Int) (w : World) (h : SlAt pRul (Old w) w A c rs) (h' : SlAt pMod (Old w) w B cb ms) (hs : Small rs) (hi : Fits .i64 i) (hl : ms.length ≤ 100000) (hp : p.size ≤ 1000) :
    Calls Try.prog 12 #[.slice A rs.length c, .string p, .slice B ms.length cb, .int .i64 i] w (PairPost (cFindF rs p ms i) w) := by
  have hmx' := h'.lenle
  have hck := refCOpen_calls A c rs B cb ms p w h h' hs hp
  have hi64 := hi.i64
  have H := Lib.hid h; clear h
  have H' := Lib.hid h'; clear h'
  have Hs := Lib.hid hs; clear hs
  have Hck := Lib.hid hck; clear hck
  go_enter Try.func12, Try.ntmps12
  go_wp2_with fail
  refine Hck.out.mono ?_
  rintro e w1 ⟨rfl, hb1⟩
  have hz1 := hb1.size
  by_cases hc : openC rs p ms = 0
  case neg =>
    have e0 : (openC rs p ms != 0) = true := by simp [hc]
    have hy := cFindF_bad (i := i) hc
    have hck1 := refCOpen_calls A c rs B cb ms p w1 (H.out.later hb1) (H'.out.later hb1) Hs.out hp
    have Hb1 := Lib.hid hb1; clear hb1
    have Hy := Lib.hid hy; clear hy
    have Hc := Lib.hid hc; clear hc
    have Hck1 := Lib.hid hck1; clear hck1
    go_wp2_with fail
    refine Hck1.out.mono ?_
    rintro e w2 ⟨rfl, hb2⟩
    have hbw := Hb1.out.trans (hb2.mono hz1)
    have Hbw := Lib.hid hbw; clear hbw
    clear hb2
    go_wp2
    go_ret2
    exact ⟨ret_pair Hy.out, Hbw.out⟩
  case pos =>
  have e0 : (openC rs p ms != 0) = false := by simp [hc]
  by_cases h0 : i < 0
  · have hy := cFindF_out hc (.inl h0)
    have Hb1 := Lib.hid hb1; clear hb1
    have Hy := Lib.hid hy; clear hy
    have Hc := Lib.hid hc; clear hc
    go_wp2
    go_ret2
    exact ⟨ret_pair Hy.out, Hb1.out⟩
  by_cases h1 : (ms.length : Int) ≤ i
  · have hy := cFindF_out hc (.inr h1)
    have Hb1 := Lib.hid hb1; clear hb1
    have Hy := Lib.hid hy; clear hy
    have Hc := Lib.hid hc; clear hc
    go_wp2
    go_ret2
    exact ⟨ret_pair Hy.out, Hb1.out⟩
  obtain ⟨j, rfl⟩ := Int.eq_ofNat_of_zero_le (Int.not_lt.1 h0)
  have hj : j < ms.length := by omega
  have hy := cFindF_in hc hj
  obtain ⟨hc1, hc2⟩ := openC_zero hc
  have hcf := cFirst_calls A c rs B cb ms p j w1 (H.out.later hb1) (H'.out.later hb1) (checkC_zero hc1) (fun m hm => checkF_fine hc2 m hm) hj hl hp
  have Hb1 := Lib.hid hb1; clear hb1
  have Hy := Lib.hid hy; clear hy
  have Hc := Lib.hid hc; clear hc
  have Hcf := Lib.hid hcf; clear hcf
  have Hc1 := Lib.hid hc1; clear hc1
  have Hc2 := Lib.hid hc2; clear hc2
  go_wp2_with fail
  refine Hcf.out.mono ?_
  rintro e w2 ⟨rfl, hb2⟩
  have hbw := Hb1.out.trans (hb2.mono hz1)
  have Hbw := Lib.hid hbw; clear hbw
  clear hb2
  go_wp2
  go_ret2
  exact ⟨ret_pair Hy.out, Hbw.out⟩
end Go.Proofs.Ytpdmjmhiehfkaaa
