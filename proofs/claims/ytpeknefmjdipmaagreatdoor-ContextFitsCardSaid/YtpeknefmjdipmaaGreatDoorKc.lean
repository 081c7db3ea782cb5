/-
  Layer 8, plain: rules that ask for no neighbour (ContextPlain), and what Find finds (ContextFits). No walk.
-/
import Derived.Test.YtpeknefmjdipmaaGreatDoorM1
import Derived.Test.YtpeknefmjdipmaaGreatDoorDa
namespace Go.Proofs.YtpeknefmjdipmaaGreatDoor
open Go.RowKit

theorem bareN_idem (r : Rul) : bareN (bareN r) = bareN r := rfl
theorem bare_bare (rs : List Rul) : (rs.map bareN).map bareN = rs.map bareN := by rw [List.map_map]; congr 1
theorem checkC_parts {rs : List Rul} {p : ByteArray} (h : checkC rs p = 0) : checkR (rs.map bareN) = 0 ∧ ignF p = true ∧ rs.all (fun r => sideOk r.left && sideOk r.right) = true := by
  unfold checkC at h
  by_cases h1 : checkR (rs.map bareN) = 0
  · rw [if_pos h1] at h
    by_cases h2 : ignF p = true ∧ rs.all (fun r => sideOk r.left && sideOk r.right) = true
    · exact ⟨h1, h2.1, h2.2⟩
    · rw [if_neg h2] at h; cases h
  · rw [if_neg h1] at h; exact absurd h h1
theorem checkC_bare {rs : List Rul} {p : ByteArray} (h : checkC rs p = 0) : checkC (rs.map bareN) p = 0 := by
  obtain ⟨h1, h2, _⟩ := checkC_parts h
  unfold checkC
  rw [bare_bare, if_pos h1, if_pos]
  refine ⟨h2, List.all_eq_true.2 fun r hr => ?_⟩
  obtain ⟨q, _, rfl⟩ := List.mem_map.1 hr
  rfl
theorem fitC_bare {p : ByteArray} {ms : List Mod} {i : Nat} {rs : List Rul} : ∀ r ∈ rs.map bareN, fitC p ms i r = fitsF r (ms.getD i ⟨0, []⟩) := by
  intro r hr
  obtain ⟨q, _, rfl⟩ := List.mem_map.1 hr
  unfold fitC
  show (_ && atB ms _ 0 && atB ms _ 0) = _
  have h : ∀ k, atB ms k 0 = true := fun k => rfl
  rw [h, h, Bool.and_true, Bool.and_true]
theorem firstC_from {q : Rul → Bool} {m : Mod} : ∀ {rs : List Rul} {k : Nat}, (∀ r ∈ rs, q r = fitsF r m) → firstC q rs k = firstFrom m rs k
  | [], _, _ => rfl
  | r :: rs, k, h => by
    show (if q r = true then (k : Int) else firstC q rs (k + 1)) = (if fitsF r m = true then (k : Int) else firstFrom m rs (k + 1))
    rw [h r (by simp), firstC_from fun x hx => h x (by simp [hx])]
theorem outs_bare {p : ByteArray} {ms : List Mod} {i : Nat} {rs : List Rul} : outsC p (rs.map bareN) ms i = outsF (rs.map bareN) (ms.getD i ⟨0, []⟩) := by
  have h : findC p (rs.map bareN) ms i = firstF (rs.map bareN) (ms.getD i ⟨0, []⟩) := firstC_from fitC_bare
  unfold outsC outsF
  rw [h]
  cases (rs.map bareN)[(firstF (rs.map bareN) (ms.getD i ⟨0, []⟩)).toNat]? <;> rfl
theorem flat_range {α β : Type} (d : α) (f : α → List β) : ∀ (l : List α), (List.range l.length).flatMap (fun i => f (l.getD i d)) = l.flatMap f
  | [] => rfl
  | x :: l => by
    rw [List.length_cons, List.range_succ_eq_map, List.flatMap_cons, List.flatMap_cons, List.flatMap_map, ← flat_range d f l]
    rfl
theorem step_bare {rs : List Rul} {p : ByteArray} {ms : List Mod} (h : checkC rs p = 0) (hw : checkF ms = 0) : cStepF (rs.map bareN) p ms = rStepF (rs.map bareN) ms := by
  have h1 := checkC_bare h
  obtain ⟨h2, _, _⟩ := checkC_parts h
  unfold cStepF rStepF openC openR
  rw [if_pos h1, if_pos h2, if_pos hw, if_pos hw]
  unfold stepC stepF
  have hs : succC p (rs.map bareN) ms ms.length = succF (rs.map bareN) ms := by
    unfold succC succF
    rw [show outsC p (rs.map bareN) ms = fun i => outsF (rs.map bareN) (ms.getD i ⟨0, []⟩) from funext fun i => outs_bare]
    exact flat_range (⟨0, []⟩ : Mod) (outsF (rs.map bareN)) ms
  rw [hs]

/-! ### what Find finds -/
theorem manyR_sub {rs l : List Rul} (h : manyR l = false) (hs : ∀ r ∈ rs, r ∈ l) (hl : rs.length ≤ l.length) : manyR rs = false := by
  unfold manyR at h ⊢
  rw [Bool.or_eq_false_iff] at h ⊢
  refine ⟨decide_eq_false (by have := of_decide_eq_false h.1; omega), ?_⟩
  rw [List.any_eq_false] at h ⊢
  exact fun x hx => h.2 x (hs x hx)
theorem checkR_one {rs : List Rul} {r : Rul} (h : checkR rs = 0) (hr : r ∈ rs) : checkR [r] = 0 := by
  unfold checkR at h ⊢
  cases h1 : manyR rs with
  | true => rw [h1, if_pos rfl] at h; cases h
  | false =>
    rw [h1, if_neg (by decide)] at h
    have hl : 1 ≤ rs.length := List.length_pos_of_mem hr
    rw [manyR_sub h1 (rs := [r]) (fun x hx => by rw [List.mem_singleton.1 hx]; exact hr) hl, if_neg (by decide)]
    by_cases h2 : rs.all fineR = true
    · rw [if_pos]
      rw [List.all_cons, List.all_eq_true.1 h2 r hr]; rfl
    · rw [if_neg h2] at h; cases h
theorem find_bare {rs : List Rul} {p : ByteArray} {r : Rul} {m : Mod} (h : checkC rs p = 0) (hr : r ∈ rs) (hm : fineF m = true) : findF [bareN r] m = (if fitsF r m = true then 0 else -1, 0) := by
  obtain ⟨h1, _, _⟩ := checkC_parts h
  unfold findF
  rw [if_pos (checkR_one h1 (List.mem_map_of_mem hr)), if_pos hm]
  rfl
theorem firstC_cons (q : Rul → Bool) (r : Rul) (rs : List Rul) (k : Nat) : firstC q (r :: rs) k = if q r = true then (k : Int) else firstC q rs (k + 1) := rfl
theorem findC_rng {p : ByteArray} {rs : List Rul} {ms : List Mod} {i : Nat} : -1 ≤ findC p rs ms i ∧ findC p rs ms i < rs.length := by
  have h : ∀ (q : Rul → Bool) (l : List Rul) (k : Nat), -1 ≤ firstC q l k ∧ firstC q l k < ((k + l.length : Nat) : Int) := by
    intro q l
    induction l with
    | nil => intro k; show -1 ≤ (-1 : Int) ∧ (-1 : Int) < _; omega
    | cons r l ih =>
      intro k
      rw [firstC_cons, List.length_cons]
      have := ih (k + 1)
      split <;> omega
  have := h (fitC p ms i) rs 0
  rw [Nat.zero_add] at this
  exact this
end Go.Proofs.YtpeknefmjdipmaaGreatDoor
