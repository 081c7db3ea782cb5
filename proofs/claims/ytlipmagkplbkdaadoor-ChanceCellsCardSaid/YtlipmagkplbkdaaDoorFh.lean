/-
  Layer 7: the walks of First, of the two Finds and of Great.
-/
import Derived.Test.YtlipmagkplbkdaaDoorFg
namespace Go.Proofs.YtlipmagkplbkdaaDoor
open Go.RowKit Go.Sort

theorem checkR_ok {rs : List Rul} (h : checkR rs = 0) : rs.all coreR = true ∧ rs.all fineR = true ∧ manyR rs = false := by
  unfold checkR at h
  by_cases hm : manyR rs = true
  · rw [if_pos hm] at h; cases h
  · rw [if_neg hm] at h
    by_cases hf : rs.all fineR = true
    · refine ⟨?_, hf, by simpa using hm⟩
      rw [List.all_eq_true] at hf ⊢
      intro r hr
      have := hf r hr
      unfold fineR at this
      simp only [Bool.and_eq_true] at this
      exact this.1
    · rw [if_neg hf] at h; cases h
theorem checkR_vals (rs : List Rul) : checkR rs = 0 ∨ checkR rs = 4 ∨ checkR rs = 8 := by
  unfold checkR
  split
  · exact .inr (.inl rfl)
  · split
    · exact .inl rfl
    · exact .inr (.inr rfl)
theorem checkF_vals (ms : List Mod) : checkF ms = 0 ∨ checkF ms = 4 ∨ checkF ms = 8 ∨ checkF ms = 28 := by
  unfold checkF
  split
  · exact .inr (.inl rfl)
  · split
    · exact .inr (.inr (.inl rfl))
    · split
      · exact .inr (.inr (.inr rfl))
      · split
        · exact .inr (.inr (.inr rfl))
        · exact .inl rfl

end Go.Proofs.YtlipmagkplbkdaaDoor
