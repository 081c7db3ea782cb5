/-
  Layer 42, plain: what a plain word is. No walk.
-/
import Derived.Test.YtckffdaomjbglaaDoorIj
import Derived.Test.YtckffdaomjbglaaDoorRp
namespace Go.Proofs.YtckffdaomjbglaaDoor
open Go.RowKit

/-! ### a plain word -/
theorem plain_parts {ms : List Mod} (h : plainF ms = 0) : checkF ms = 0 ∧ ms = (ms.map Mod.name).map modOf ∧ (∀ c ∈ ms.map Mod.name, plainC c = true ∨ c = 91 ∨ c = 93) := by
  unfold plainF at h
  by_cases h1 : checkF ms = 0
  · rw [if_pos h1] at h
    by_cases h2 : bareM ms = true
    · refine ⟨h1, ?_, fun c hc => ?_⟩
      · rw [List.map_map]
        refine (List.map_id ms).symm.trans (List.map_congr_left fun m hm => ?_)
        have := List.all_eq_true.1 h2 m hm
        simp only [decide_eq_true_eq, Nat.not_lt, Nat.le_zero_eq, List.length_eq_zero_iff] at this
        show m = modOf m.name
        unfold modOf
        cases m
        simp only at this
        rw [this]
      · obtain ⟨m, hm, rfl⟩ := List.mem_map.1 hc
        have hf := letter_byte (List.all_eq_true.1 (checkF_iff.1 h1).2.1 m hm)
        unfold plainC
        rw [hf]
        by_cases e1 : m.name = 91
        · exact .inr (.inl e1)
        · by_cases e2 : m.name = 93
          · exact .inr (.inr e2)
          · exact .inl (by simp [e1, e2])
    · rw [if_neg h2] at h; cases h
  · rw [if_neg h1] at h; exact absurd h h1
end Go.Proofs.YtckffdaomjbglaaDoor
