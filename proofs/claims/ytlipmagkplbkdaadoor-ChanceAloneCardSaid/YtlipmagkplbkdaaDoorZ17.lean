/- Texts of the proof that the statement of ChanceAlone holds, several in one. -/
import Derived.Test.YtlipmagkplbkdaaDoorZ15
set_option linter.unusedVariables false
set_option linter.unusedSimpArgs false
set_option linter.unusedSectionVars false
set_option maxRecDepth 100000
set_option maxHeartbeats 8000000
namespace Go.Proofs.YtlipmagkplbkdaaDoor
section
open Go.RowKit
theorem fitP_fst (m : Mod) : ∀ (rs : List Rul) (k : Nat), (((rs.zipIdx k).filter fun p => fitsF p.1 m).map (·.1)) = rs.filter fun r => fitsF r m
 | [], _ => rfl
 | r :: rs, k => by
  have ih := fitP_fst m rs (k + 1)
  rw [List.zipIdx_cons, List.filter_cons, List.filter_cons]
  by_cases h : fitsF r m = true
  ·rw [if_pos h, if_pos h, List.map_cons, ih]
  ·rw [if_neg h, if_neg h, ih]
theorem fitP_nil_iff {m : Mod} {rs : List Rul} : fitP m rs = [] ↔ ∀ r ∈ rs, fitsF r m = false := by
 have h1 := fitP_fst m rs 0
 constructor
 ·intro h r hr
  cases hf : fitsF r m
  ·rfl
  ·have : r ∈ rs.filter fun r => fitsF r m := List.mem_filter.2 ⟨hr, hf⟩
   rw [<- h1] at this
   unfold fitP at h
   rw [h] at this
   cases this
 ·intro h
  have : (fitP m rs).map (·.1) = [] := by
   unfold fitP
   rw [h1, List.filter_eq_nil_iff]
   intro r hr
   rw [h r hr]; decide
  exact List.map_eq_nil_iff.1 this
theorem succR_pick {rs : List Rul} (hv : RVal rs) (s : Int) (c : Cel) : ((∀ r ∈ rs, fitsF r c.mod = false) /\ succR rs s c = ([c], 0)) ∨ ∃ r ∈ rs, fitsF r c.mod = true /\ succR rs s c = sucR r c := by
 rcases pick_cases hv s c with ⟨hn, _, hp⟩ | ⟨i, j, r, _, _, _, hj, hf, hp⟩
 ·exact .inl ⟨fitP_nil_iff.1 hn, succR_none hp⟩
 ·exact .inr ⟨r, List.mem_of_getElem? hj, hf, succR_some hp⟩
end
end Go.Proofs.YtlipmagkplbkdaaDoor
