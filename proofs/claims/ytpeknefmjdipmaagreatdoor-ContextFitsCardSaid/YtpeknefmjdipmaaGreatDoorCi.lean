/-
  Layer 8: the walks of the reference's check and Find.
-/
import Derived.Test.YtpeknefmjdipmaaGreatDoorCh
namespace Go.Proofs.YtpeknefmjdipmaaGreatDoor
open Go.RowKit Go.Sort

theorem checkC_zero {rs : List Rul} {p : ByteArray} (h : checkC rs p = 0) : rs.all coreR = true := by
  rw [checkC_ref] at h
  split at h
  · exact absurd h (by decide)
  · split at h
    · rename_i h2
      rw [List.all_eq_true] at h2 ⊢
      intro r hr
      have := h2 r hr
      unfold refFineC at this
      simp only [Bool.and_eq_true] at this
      exact this.1.1
    · exact absurd h (by decide)
theorem openC_bad {rs : List Rul} {p : ByteArray} {ms : List Mod} (h : checkC rs p ≠ 0) : openC rs p ms = checkC rs p := by unfold openC; rw [if_neg h]
theorem openC_good {rs : List Rul} {p : ByteArray} {ms : List Mod} (h : checkC rs p = 0) : openC rs p ms = checkF ms := by unfold openC; rw [if_pos h]
theorem openC_zero {rs : List Rul} {p : ByteArray} {ms : List Mod} (h : openC rs p ms = 0) : checkC rs p = 0 ∧ checkF ms = 0 := by
  by_cases hc : checkC rs p = 0
  · rw [openC_good hc] at h; exact ⟨hc, h⟩
  · rw [openC_bad hc] at h; exact absurd h hc
theorem cFindF_bad {rs : List Rul} {p : ByteArray} {ms : List Mod} {i : Int} (h : openC rs p ms ≠ 0) : cFindF rs p ms i = (0, openC rs p ms) := by unfold cFindF; rw [if_neg h]
theorem cFindF_out {rs : List Rul} {p : ByteArray} {ms : List Mod} {i : Int} (h : openC rs p ms = 0) (hi : i < 0 ∨ (ms.length : Int) ≤ i) : cFindF rs p ms i = (0, 2) := by unfold cFindF; rw [if_pos h, if_neg (by omega)]
theorem cFindF_in {rs : List Rul} {p : ByteArray} {ms : List Mod} {i : Nat} (h : openC rs p ms = 0) (hi : i < ms.length) : cFindF rs p ms (i : Int) = (findC p rs ms i, 0) := by
  unfold cFindF; rw [if_pos h, if_pos (by omega), Int.toNat_natCast]

theorem ret_pair {x : Int × Int} {a b : Int} (h : x = (a, b)) : Ending.returned (.tuple #[.int .i64 a, .int .i64 b]) = .returned (.tuple #[.int .i64 x.1, .int .i64 x.2]) := by rw [h]

end Go.Proofs.YtpeknefmjdipmaaGreatDoor
