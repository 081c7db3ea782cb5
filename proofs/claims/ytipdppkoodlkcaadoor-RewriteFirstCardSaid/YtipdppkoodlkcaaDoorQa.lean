/-
  Layer 7, plain: steps after steps, steps of a joint word, rules that no module has the name of. No walk.
-/
import Derived.Test.YtipdppkoodlkcaaDoorRu
import Derived.Test.YtipdppkoodlkcaaDoorPr
import Derived.Test.YtipdppkoodlkcaaDoorWk
namespace Go.Proofs.YtipdppkoodlkcaaDoor
open Go.RowKit

theorem checkR_core {rs : List Rul} (h : checkR rs = 0) : rs.all coreR = true := by
  unfold checkR at h
  split at h
  · cases h
  · split at h
    · rename_i hf
      rw [List.all_eq_true] at hf ⊢
      intro r hr
      have := hf r hr
      unfold fineR at this
      exact (Bool.and_eq_true_iff.1 this).1
    · cases h
theorem openR_of {rs : List Rul} {ms : List Mod} (h : checkR rs = 0) (h' : checkF ms = 0) : openR rs ms = 0 := by unfold openR; rw [if_pos h, h']
theorem rRunF_of {rs : List Rul} {ms : List Mod} (h : openR rs ms = 0) {n : Nat} (hn : n ≤ 30) : rRunF rs ms (n : Int) = iterR rs n ms := by
  unfold rRunF
  rw [if_pos h, if_neg (by omega), Int.toNat_natCast]
theorem iter_valid {rs : List Rul} (hr : rs.all coreR = true) : ∀ (n : Nat) {ms : List Mod}, checkF ms = 0 → (iterR rs n ms).2 = 0 → checkF (iterR rs n ms).1 = 0
  | 0, ms, h, _ => h
  | n + 1, ms, h, h2 => by
    rw [iterR_step] at h2 ⊢
    by_cases h3 : (stepF rs ms).2 = 0
    · rw [if_pos h3] at h2 ⊢
      exact iter_valid hr n (step_valid hr h h3) h2
    · rw [if_neg h3] at h2; exact absurd h2 h3
theorem iter_add {rs : List Rul} : ∀ (m n : Nat) (ms : List Mod), iterR rs (m + n) ms = if (iterR rs m ms).2 = 0 then iterR rs n (iterR rs m ms).1 else ([], (iterR rs m ms).2)
  | 0, n, ms => by rw [Nat.zero_add]; rfl
  | m + 1, n, ms => by
    rw [show m + 1 + n = (m + n) + 1 from by omega, iterR_step, iterR_step]
    by_cases h : (stepF rs ms).2 = 0
    · rw [if_pos h, if_pos h, iter_add m n]
    · rw [if_neg h, if_neg h, if_neg h]
structure RunsOk (rs : List Rul) (ms : List Mod) (m n : Nat) : Prop where
  zero : rRunF rs ms ((0 : Nat) : Int) = (ms, 0)
  bad : ¬ (rRunF rs ms (m : Int)).2 = 0 → (rRunF rs ms ((m + n : Nat) : Int)).2 = (rRunF rs ms (m : Int)).2
  good : (rRunF rs ms (m : Int)).2 = 0 → rRunF rs (rRunF rs ms (m : Int)).1 (n : Int) = rRunF rs ms ((m + n : Nat) : Int) ∧ ((rRunF rs ms ((m + n : Nat) : Int)).2 = 0 → checkF (rRunF rs ms ((m + n : Nat) : Int)).1 = 0)
theorem runs_law {rs : List Rul} {ms : List Mod} {m n : Nat} (hr : checkR rs = 0) (hw : checkF ms = 0) (hm : m ≤ 3) (hn : n ≤ 3) : RunsOk rs ms m n := by
  have ho := openR_of hr hw
  have hc := checkR_core hr
  have e0 := rRunF_of ho (n := 0) (by omega)
  have e1 := rRunF_of ho (n := m) (by omega)
  have e2 := rRunF_of ho (n := m + n) (by omega)
  refine ⟨by rw [e0]; rfl, fun h => ?_, fun h => ?_⟩
  · rw [e1] at h ⊢
    rw [e2, iter_add, if_neg h]
  · rw [e1] at h ⊢
    have hv := iter_valid hc m hw h
    rw [rRunF_of (openR_of hr hv) (by omega), e2, iter_add, if_pos h]
    exact ⟨rfl, fun h2 => iter_valid hc n hv h2⟩

theorem succ_more (rs : List Rul) (a b : List Mod) : succF rs (a ++ b) = succF rs a ++ succF rs b := by unfold succF; rw [List.flatMap_append]
theorem rStepF_of {rs : List Rul} {ms : List Mod} (h : openR rs ms = 0) : rStepF rs ms = stepF rs ms := by unfold rStepF; rw [if_pos h]
theorem stepF_bad {rs : List Rul} {ms : List Mod} (h : ¬ (stepF rs ms).2 = 0) : stepF rs ms = ([], (stepF rs ms).2) ∧ (¬ (succF rs ms).all (·.2) = true ∨ 2000 < (succF rs ms).length) := by
  unfold stepF at h ⊢
  by_cases h1 : (succF rs ms).all (·.2) = true
  · rw [if_pos h1] at h ⊢
    by_cases h2 : 2000 < (succF rs ms).length
    · rw [if_pos h2]; exact ⟨rfl, .inr h2⟩
    · rw [if_neg h2] at h; exact absurd rfl h
  · rw [if_neg h1]; exact ⟨rfl, .inl h1⟩
structure JoinsOk (rs : List Rul) (a b : List Mod) : Prop where
  bad : (¬ (rStepF rs a).2 = 0 ∨ ¬ (rStepF rs b).2 = 0) → ¬ (rStepF rs (a ++ b)).2 = 0
  good : (rStepF rs a).2 = 0 → (rStepF rs b).2 = 0 → rStepF rs (a ++ b) = joinRes (rStepF rs a).1 (rStepF rs b).1
theorem joins_law {rs : List Rul} {a b : List Mod} (hr : checkR rs = 0) (ha : checkF a = 0) (hb : checkF b = 0) (hl : ¬ 2000 < a.length + b.length) : JoinsOk rs a b := by
  have hw := check_join ha hb hl
  have hc := checkR_core hr
  rw [show JoinsOk rs a b ↔ JoinsOk rs a b from Iff.rfl]
  have e1 := rStepF_of (openR_of hr ha)
  have e2 := rStepF_of (openR_of hr hb)
  have e3 := rStepF_of (openR_of hr hw)
  refine ⟨fun h hz => ?_, fun h1 h2 => ?_⟩
  · rw [e3] at hz
    obtain ⟨z1, z2, _⟩ := stepF_ok hz
    rw [succ_more, List.all_append, Bool.and_eq_true] at z1
    rw [succ_more, List.length_append] at z2
    rcases h with h | h
    · rw [e1] at h
      rcases (stepF_bad h).2 with h | h
      · exact h z1.1
      · omega
    · rw [e2] at h
      rcases (stepF_bad h).2 with h | h
      · exact h z1.2
      · omega
  · rw [e1] at h1
    rw [e2] at h2
    obtain ⟨a1, a2, a3⟩ := stepF_ok h1
    obtain ⟨b1, b2, b3⟩ := stepF_ok h2
    have ca := step_valid hc ha h1
    have cb := step_valid hc hb h2
    rw [e1, e2, e3]
    have la : (stepF rs a).1.length = (succF rs a).length := by rw [a3, List.length_map]
    have lb : (stepF rs b).1.length = (succF rs b).length := by rw [b3, List.length_map]
    have hall : (succF rs (a ++ b)).all (·.2) = true := by rw [succ_more, List.all_append, a1, b1]; rfl
    conv => lhs; unfold stepF
    rw [if_pos hall]
    by_cases hbig : 2000 < (succF rs (a ++ b)).length
    · rw [if_pos hbig, joinRes_many ca cb (by rw [succ_more, List.length_append] at hbig; omega)]
    · rw [if_neg hbig, joinRes_ok ca cb (by rw [succ_more, List.length_append] at hbig; omega), a3, b3, succ_more, List.map_append]

/-! ### rules that no module has the name of -/
theorem first_shift {m : Mod} : ∀ {rs : List Rul} {k : Nat}, firstFrom m rs (k + 1) = if firstFrom m rs k = -1 then -1 else firstFrom m rs k + 1
  | [], k => rfl
  | r :: rs, k => by
    unfold firstFrom
    by_cases h : fitsF r m = true
    · rw [if_pos h, if_pos h, if_neg (by omega)]; omega
    · rw [if_neg h, if_neg h]; exact first_shift
theorem fits_other {r : Rul} {m : Mod} (h : m.name ≠ r.name) : fitsF r m = false := by
  cases hf : fitsF r m with
  | false => rfl
  | true => exact absurd (fits_name hf).symm h
theorem outs_other {r : Rul} {rs : List Rul} {m : Mod} (h : m.name ≠ r.name) : outsF (r :: rs) m = outsF rs m := by
  have h1 : firstF (r :: rs) m = if firstF rs m = -1 then -1 else firstF rs m + 1 := by
    show firstFrom m (r :: rs) 0 = _
    unfold firstFrom
    rw [if_neg (by rw [fits_other h]; decide)]
    exact first_shift
  have hge : -1 ≤ firstF rs m := by
    rcases firstFrom_none (m := m) (rs := rs) (k := 0) with e | ⟨j, e, _, _⟩
    · have : firstF rs m = -1 := e
      omega
    · have : firstF rs m = (j : Int) := e
      omega
  unfold outsF
  rw [h1]
  by_cases h2 : firstF rs m = -1
  · rw [if_pos h2, h2]
    cases (r :: rs)[(-1 : Int).toNat]? <;> cases rs[(-1 : Int).toNat]? <;> rfl
  · rw [if_neg h2, show (firstF rs m + 1).toNat = (firstF rs m).toNat + 1 from by omega, List.getElem?_cons_succ]
    cases rs[(firstF rs m).toNat]? with
    | none => rfl
    | some x =>
      show (if firstF rs m + 1 < 0 then [(m, true)] else x.out.map (outF m.args)) = (if firstF rs m < 0 then [(m, true)] else x.out.map (outF m.args))
      rw [if_neg (by omega), if_neg (by omega)]
theorem succ_other {r : Rul} {rs : List Rul} : ∀ {ms : List Mod}, (∀ m ∈ ms, m.name ≠ r.name) → succF (r :: rs) ms = succF rs ms
  | [], _ => rfl
  | m :: ms, h => by
    show outsF (r :: rs) m ++ succF (r :: rs) ms = outsF rs m ++ succF rs ms
    rw [outs_other (h m (by simp)), succ_other fun x hx => h x (List.mem_cons_of_mem _ hx)]
theorem succ_nil : ∀ (ms : List Mod), succF [] ms = ms.map fun m => (m, true)
  | [] => rfl
  | m :: ms => by
    show outsF [] m ++ succF [] ms = _
    rw [succ_nil ms]; rfl
theorem manyR_cons {r : Rul} {rs : List Rul} (h : manyR (r :: rs) = false) : manyR rs = false ∧ manyR [r] = false := by
  unfold manyR at h ⊢
  simp only [List.length_cons, List.any_cons, Bool.or_eq_false_iff, decide_eq_false_iff_not, List.length_nil, List.any_nil] at h ⊢
  refine ⟨⟨by omega, h.2.2⟩, ⟨by omega, h.2.1, trivial⟩⟩
theorem checkR_iff {rs : List Rul} : checkR rs = 0 ↔ manyR rs = false ∧ rs.all fineR = true := by
  unfold checkR
  cases manyR rs
  · cases rs.all fineR <;> simp
  · simp
structure StillOk (r : Rul) (rs : List Rul) (ms : List Mod) : Prop where
  alike : rStepF (r :: rs) ms = rStepF rs ms
  still : rStepF [r] ms = (ms, 0)
theorem still_law {r : Rul} {rs : List Rul} {ms : List Mod} (hr : checkR (r :: rs) = 0) (hw : checkF ms = 0) (hn : countF r.name ms = 0) : StillOk r rs ms := by
  obtain ⟨h1, h2⟩ := checkR_iff.1 hr
  obtain ⟨h3, h4⟩ := manyR_cons h1
  rw [List.all_cons, Bool.and_eq_true] at h2
  have c1 : checkR rs = 0 := checkR_iff.2 ⟨h3, h2.2⟩
  have c2 : checkR [r] = 0 := checkR_iff.2 ⟨h4, by rw [List.all_cons, h2.1]; rfl⟩
  have hne : ∀ m ∈ ms, m.name ≠ r.name := by
    intro m hm e
    unfold countF at hn
    have := List.countP_eq_zero.1 hn m hm
    simp [e] at this
  refine ⟨?_, ?_⟩
  · rw [rStepF_of (openR_of hr hw), rStepF_of (openR_of c1 hw)]
    unfold stepF
    rw [succ_other hne]
  · rw [rStepF_of (openR_of c2 hw)]
    unfold stepF
    rw [succ_other hne, succ_nil]
    have e1 : (ms.map fun m => (m, true)).all (·.2) = true := by rw [List.all_map, List.all_eq_true]; intro _ _; rfl
    have e2 := (check_parts.1 hw).1
    rw [if_pos e1, List.length_map, if_neg (by omega), List.map_map]
    congr 1
    exact List.map_id _
end Go.Proofs.YtipdppkoodlkcaaDoor
