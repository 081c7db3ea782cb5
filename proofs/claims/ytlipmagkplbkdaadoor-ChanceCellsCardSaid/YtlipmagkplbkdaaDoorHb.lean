/-
  Layer 9: the walks of path and of the reference's Path.
-/
import Derived.Test.YtlipmagkplbkdaaDoorHa
import Derived.Test.YtlipmagkplbkdaaDoorWa
import Derived.Test.YtlipmagkplbkdaaDoorShelf
import Derived.Shelf.Strings.SlTrimAscii
namespace Go.Proofs.YtlipmagkplbkdaaDoor
open Go.RowKit

theorem str_len (s : ByteArray) : s.data.toList.length = s.size := Array.length_toList
theorem str_empty {s : ByteArray} (h : s.size = 0) : s.toList.isEmpty = true := by
  rw [ByteArray.toList_eq]
  have : s.data.toList.length = 0 := by rw [str_len]; exact h
  rw [List.eq_nil_of_length_eq_zero this]; rfl
theorem str_some {s : ByteArray} (h : s.size ≠ 0) : s.toList.isEmpty = false := by
  rw [ByteArray.toList_eq]
  have : s.data.toList.length ≠ 0 := by rw [str_len]; exact h
  cases hl : s.data.toList with
  | nil => rw [hl] at this; exact absurd rfl this
  | cons a t => rfl
theorem pathF_empty {s : ByteArray} (h : s.size = 0) : pathF s = false := by unfold pathF; simp [h]
theorem pathF_long {s : ByteArray} (h : 200 < s.size) : pathF s = false := by unfold pathF; simp; omega
theorem pathF_all {s : ByteArray} (h0 : s.size ≠ 0) (h : ¬ 200 < s.size) : pathF s = s.data.toList.all pathB := by
  unfold pathF
  rw [show decide (1 ≤ s.size) = true from by simp; omega, show decide (s.size ≤ 200) = true from by simp; omega]; rfl
theorem trim_calls (s : ByteArray) (w : World) (hs : s.size ≤ 9223372036854775807) : Calls Tryd.prog 67 #[.string s, .string ⟨#[47, 48, 49, 50, 51, 52, 53, 54, 55, 56, 57]⟩] w fun e w' =>
    (∃ t : ByteArray, e = .returned (.string t) ∧ Hid (t.toList.isEmpty = s.data.toList.all pathB)) ∧ Below w.heap.size w w' := by
  refine (Any.strings_Trim_laid Tryd.lays160 (by kernel_rfl) s ⟨#[47, 48, 49, 50, 51, 52, 53, 54, 55, 56, 57]⟩ w hs (by decide) (ascii_of_all (by decide))).mono ?_
  rintro e w' ⟨rfl, hb⟩
  refine ⟨⟨_, rfl, ?_⟩, hb⟩
  unfold Hid
  rw [ByteArray.toList_eq]
  have hall : (s.data.toList.all fun b => ([47, 48, 49, 50, 51, 52, 53, 54, 55, 56, 57] : List UInt8).contains b) = s.data.toList.all pathB := by
    congr 1; funext b; exact pathB_contains b
  rw [← hall]
  have h := trim_nil s.data.toList [47, 48, 49, 50, 51, 52, 53, 54, 55, 56, 57]
  show (Lib.trimS s.data.toList [47, 48, 49, 50, 51, 52, 53, 54, 55, 56, 57]).toArray.toList.isEmpty = _
  rw [List.toList_toArray, Bool.eq_iff_iff, List.isEmpty_iff]
  exact h

set_option maxRecDepth 100000 in
set_option maxHeartbeats 1000000 in
theorem path_calls (s : ByteArray) (w : World) (hs : s.size ≤ 9223372036854775807) : Calls Tryd.prog 52 #[.string s] w (BoolPost (pathF s) w) := by
  by_cases h0 : s.size = 0
  · have e0 := str_empty h0
    have hf := pathF_empty h0
    have Hf := Lib.hid hf; clear hf
    clear h0
    go_enter Tryd.func52, Tryd.ntmps52
    go_wp2
    go_ret
    exact ⟨ret_bool Hf.out.symm, Below.refl _ _⟩
  · have e0 := str_some h0
    by_cases h1 : 200 < s.size
    · have hf := pathF_long h1
      have Hf := Lib.hid hf; clear hf
      clear h0
      go_enter Tryd.func52, Tryd.ntmps52
      go_wp2
      go_ret
      exact ⟨ret_bool Hf.out.symm, Below.refl _ _⟩
    · have hf := pathF_all h0 h1
      have ht := trim_calls s w hs
      have Hf := Lib.hid hf; clear hf
      have Ht := Lib.hid ht; clear ht
      clear h0
      go_enter Tryd.func52, Tryd.ntmps52
      go_wp2_with fail
      refine Ht.out.mono ?_
      rintro e w' ⟨⟨t, rfl, hte⟩, hb⟩
      have hq : t.toList.isEmpty = pathF s := by rw [hte.out, Hf.out]
      have Hb := Lib.hid hb; clear hb
      clear hte Hf
      cases hp : pathF s
      all_goals
        rw [hp] at hq
        go_wp2
        go_ret
        exact ⟨ret_bool (by simp [hp]), Hb.out⟩

set_option maxRecDepth 100000 in
set_option maxHeartbeats 2000000 in
theorem refPath_calls (s : ByteArray) (w : World) (hs : s.size ≤ 9223372036854775807) : Calls Tryd.prog 31 #[.string s] w fun e w' => e = .returned (.bool (pathF s)) ∧ w = w' := by
  go_enter Tryd.func31, Tryd.ntmps31
  go_wp2
  go_loop [3] (fun i => ∃ k : Nat, k ≤ s.size ∧ i = .int .i64 k ∧ Hid (s.data.toList.all pathB = (s.data.toList.drop k).all pathB)) (fun i => s.size - (intOf i).toNat)
  case atStart => exact ⟨0, Nat.zero_le _, rfl, rfl⟩
  case round =>
    obtain ⟨k, hk, rfl, hall⟩ := hrel
    by_cases hlt : k < s.size
    · have hd : s.data.toList.drop k = s[k]'hlt :: s.data.toList.drop (k + 1) := by
        rw [List.drop_eq_getElem_cons (by rw [str_len]; exact hlt)]; rfl
      have hcs : (pathB (s[k]'hlt) = false ∧ pathF s = false ∧ (((s[k]'hlt).toNat : Int) ≠ 47 ∧ (((s[k]'hlt).toNat : Int) < 48 ∨ (¬ ((s[k]'hlt).toNat : Int) < 48 ∧ 57 < ((s[k]'hlt).toNat : Int))))) ∨ (pathB (s[k]'hlt) = true ∧ (((s[k]'hlt).toNat : Int) = 47 ∨ (((s[k]'hlt).toNat : Int) ≠ 47 ∧ ¬ ((s[k]'hlt).toNat : Int) < 48 ∧ ¬ 57 < ((s[k]'hlt).toNat : Int)))) := by
        cases hpb : pathB (s[k]'hlt)
        · refine .inl ⟨rfl, ?_, ?_⟩
          · unfold pathF; rw [hall.out, hd, List.all_cons, hpb]; simp
          · unfold pathB at hpb
            have h47 : s[k]'hlt ≠ 47 := by intro h; rw [h] at hpb; simp at hpb
            have h47' : (s[k]'hlt).toNat ≠ 47 := fun h => h47 (UInt8.toNat_inj.1 h)
            simp at hpb
            omega
        · refine .inr ⟨rfl, ?_⟩
          unfold pathB at hpb
          by_cases h47 : s[k]'hlt = 47
          · left; rw [h47]; rfl
          · have h47' : (s[k]'hlt).toNat ≠ 47 := fun h => h47 (UInt8.toNat_inj.1 h)
            simp [h47] at hpb
            omega
      rcases hcs with ⟨hb, hf, h1, h2⟩ | ⟨hb, h2⟩
      · have Hf := Lib.hid hf; clear hf
        have Hb := Lib.hid hb; clear hb
        have Hd := Lib.hid hd; clear hd
        clear hall
        rcases h2 with h2 | ⟨h2, h3⟩
        all_goals
          go_wp2
          go_ret
          exact ⟨ret_bool Hf.out.symm, rfl⟩
      · have hn : Hid (s.data.toList.all pathB = (s.data.toList.drop (k + 1)).all pathB) := by
          unfold Hid; rw [hall.out, hd, List.all_cons, hb]; rfl
        clear hall
        have Hb := Lib.hid hb; clear hb
        have Hd := Lib.hid hd; clear hd
        rcases h2 with h2 | ⟨h1, h2, h3⟩
        all_goals
          go_wp2
          go_round
          case rel => exact ⟨k + 1, by omega, by go_num, hn⟩
          case measure => simp [intOf]; omega
    · have hy : pathF s = (decide (1 ≤ s.size) && decide (s.size ≤ 200)) := by
        unfold pathF; rw [hall.out, List.drop_eq_nil_of_le (by rw [str_len]; omega)]; simp
      have Hy := Lib.hid hy; clear hy
      clear hall
      by_cases h0 : s.size < 1
      · go_wp2
        go_ret
        exact ⟨ret_bool (by rw [Hy.out]; first | (simp; omega) | (simp [h0, h1]; done) | (rw [Bool.eq_iff_iff]; simp; omega)), rfl⟩
      · by_cases h1 : 200 < s.size
        · go_wp2
          go_ret
          exact ⟨ret_bool (by rw [Hy.out]; first | (simp; omega) | (simp [h0, h1]; done) | (rw [Bool.eq_iff_iff]; simp; omega)), rfl⟩
        · go_wp2
          go_ret
          exact ⟨ret_bool (by rw [Hy.out]; first | (simp; omega) | (simp [h0, h1]; done) | (rw [Bool.eq_iff_iff]; simp; omega)), rfl⟩
end Go.Proofs.YtlipmagkplbkdaaDoor
