/-
  Layer 8, plain: what a step among neighbours yields. No program is walked here.
-/
import Derived.Test.YtpeknefmjdipmaaGreatDoorCj
import Derived.Test.YtpeknefmjdipmaaGreatDoorM1
namespace Go.Proofs.YtpeknefmjdipmaaGreatDoor
open Go.RowKit

def outsC (p : ByteArray) (rs : List Rul) (ms : List Mod) (i : Nat) : List (Mod × Bool) :=
  match rs[(findC p rs ms i).toNat]? with
  | some r => if findC p rs ms i < 0 then [(ms.getD i ⟨0, []⟩, true)] else r.out.map (outF (ms.getD i ⟨0, []⟩).args)
  | none => [(ms.getD i ⟨0, []⟩, true)]
def succC (p : ByteArray) (rs : List Rul) (ms : List Mod) (k : Nat) : List (Mod × Bool) := (List.range k).flatMap (outsC p rs ms)
theorem succC_succ (p : ByteArray) (rs : List Rul) (ms : List Mod) (k : Nat) : succC p rs ms (k + 1) = succC p rs ms k ++ outsC p rs ms k := by
  unfold succC; rw [List.range_succ, List.flatMap_append]; simp
theorem firstC_fit {q : Rul → Bool} : ∀ {rs : List Rul} {k j : Nat}, firstC q rs k = (j : Int) → ∃ r, rs[j - k]? = some r ∧ q r = true ∧ k ≤ j
  | [], k, j, h => by have e : firstC q [] k = -1 := rfl
                      rw [e] at h; omega
  | r :: rs, k, j, h => by
    cases hq : q r
    · rw [firstC_no hq] at h
      obtain ⟨r', h1, h2, h3⟩ := firstC_fit h
      refine ⟨r', ?_, h2, by omega⟩
      rw [show j - k = (j - (k + 1)) + 1 from by omega, List.getElem?_cons_succ]; exact h1
    · rw [firstC_yes hq] at h
      have : k = j := by omega
      subst this
      exact ⟨r, by simp, hq, Nat.le_refl _⟩
theorem firstC_rng {q : Rul → Bool} : ∀ {rs : List Rul} {k : Nat}, firstC q rs k = -1 ∨ ∃ j : Nat, firstC q rs k = (j : Int)
  | [], _ => .inl rfl
  | r :: rs, k => by
    cases hq : q r
    · rw [firstC_no hq]; exact firstC_rng
    · rw [firstC_yes hq]; exact .inr ⟨k, rfl⟩
theorem outsC_cases (p : ByteArray) (rs : List Rul) {ms : List Mod} {i : Nat} {m : Mod} (hm : ms[i]? = some m) :
    (findC p rs ms i = -1 ∧ outsC p rs ms i = [(m, true)]) ∨ ∃ (j : Nat) (r : Rul), findC p rs ms i = (j : Int) ∧ rs[j]? = some r ∧ fitsF r m = true ∧ outsC p rs ms i = r.out.map (outF m.args) := by
  have hg : ms.getD i ⟨0, []⟩ = m := by rw [List.getD_eq_getElem?_getD, hm]; rfl
  rcases firstC_rng (q := fitC p ms i) (rs := rs) (k := 0) with h | ⟨j, h⟩
  · refine .inl ⟨h, ?_⟩
    unfold outsC
    rw [hg, show findC p rs ms i = -1 from h]
    cases rs[(-1 : Int).toNat]? <;> simp
  · obtain ⟨r, h1, h2, _⟩ := firstC_fit h
    rw [Nat.sub_zero] at h1
    rw [fitC_of hm] at h2
    simp only [Bool.and_eq_true] at h2
    refine .inr ⟨j, r, h, h1, h2.1.1, ?_⟩
    unfold outsC
    rw [hg, show findC p rs ms i = (j : Int) from h, Int.toNat_natCast, h1]
    simp only []
    rw [if_neg (by omega)]
theorem made_outs {p : ByteArray} {rs : List Rul} {ms : List Mod} {i : Nat} {m : Mod} {r : Rul} (e : outsC p rs ms i = r.out.map (outF m.args)) : (outsC p rs ms i).all (·.2) = madeOk r m ∧ (outsC p rs ms i).map (·.1) = madeL r m := by
  rw [e]
  exact ⟨by rw [List.all_map]; rfl, by rw [List.map_map]; rfl⟩
theorem outsC_le {p : ByteArray} {rs : List Rul} {ms : List Mod} {i : Nat} (h : ∀ r ∈ rs, r.out.length ≤ 30) : (outsC p rs ms i).length ≤ 30 := by
  unfold outsC
  split
  · rename_i r hr
    split
    · simp
    · rw [List.length_map]; exact h r (List.mem_of_getElem? hr)
  · simp
theorem succC_le {p : ByteArray} {rs : List Rul} {ms : List Mod} (h : ∀ r ∈ rs, r.out.length ≤ 30) : ∀ k, (succC p rs ms k).length ≤ k * 30
  | 0 => by simp [succC]
  | k + 1 => by
    have h1 := outsC_le (p := p) (ms := ms) (i := k) h
    have h2 := succC_le (p := p) (ms := ms) h k
    rw [succC_succ, List.length_append]; omega
def stepC (p : ByteArray) (rs : List Rul) (ms : List Mod) : List Mod × Int :=
  if (succC p rs ms ms.length).all (·.2) = true then (if 2000 < (succC p rs ms ms.length).length then ([], 4) else ((succC p rs ms ms.length).map (·.1), 0)) else ([], 16)
theorem stepC_not {p : ByteArray} {rs : List Rul} {ms : List Mod} {k : Nat} (hk : k < ms.length) (h : (outsC p rs ms k).all (·.2) = false) : stepC p rs ms = ([], 16) := by
  unfold stepC
  rw [if_neg]
  intro hall
  have : (outsC p rs ms k).all (·.2) = true := List.all_eq_true.2 fun x hx => List.all_eq_true.1 hall x (List.mem_flatMap.2 ⟨k, List.mem_range.2 hk, hx⟩)
  rw [h] at this
  exact Bool.noConfusion this
def cStepF (rs : List Rul) (p : ByteArray) (ms : List Mod) : List Mod × Int := if openC rs p ms = 0 then stepC p rs ms else ([], openC rs p ms)
def iterC (rs : List Rul) (p : ByteArray) : Nat → List Mod → List Mod × Int
  | 0, ms => (ms, 0)
  | n + 1, ms => if (cStepF rs p ms).2 = 0 then iterC rs p n (cStepF rs p ms).1 else ([], (cStepF rs p ms).2)
theorem iterC_step {rs : List Rul} {p : ByteArray} {n : Nat} {ms : List Mod} : iterC rs p (n + 1) ms = if (cStepF rs p ms).2 = 0 then iterC rs p n (cStepF rs p ms).1 else ([], (cStepF rs p ms).2) := rfl
def cRunF (rs : List Rul) (p : ByteArray) (ms : List Mod) (n : Int) : List Mod × Int :=
  if openC rs p ms = 0 then (if n < 0 ∨ 30 < n then ([], 2) else iterC rs p n.toNat ms) else ([], openC rs p ms)
theorem stepC_len {p : ByteArray} {rs : List Rul} {ms : List Mod} : (stepC p rs ms).1.length ≤ 2000 := by
  unfold stepC
  split
  · split
    · simp
    · rw [List.length_map]; omega
  · simp
theorem cStepF_len {rs : List Rul} {p : ByteArray} {ms : List Mod} : (cStepF rs p ms).1.length ≤ 2000 := by
  unfold cStepF
  split
  · exact stepC_len
  · simp
theorem iterC_len {rs : List Rul} {p : ByteArray} : ∀ (n : Nat) (ms : List Mod), ms.length ≤ 2000 → (iterC rs p n ms).1.length ≤ 2000
  | 0, ms, h => h
  | n + 1, ms, h => by
    rw [iterC_step]
    split
    · exact iterC_len n _ cStepF_len
    · simp
theorem cRunF_len {rs : List Rul} {p : ByteArray} {ms : List Mod} {n : Int} : (cRunF rs p ms n).1.length ≤ 2000 := by
  unfold cRunF
  split
  · rename_i h
    split
    · simp
    · exact iterC_len _ _ (checkF_le (openC_zero h).2)
  · simp
end Go.Proofs.YtpeknefmjdipmaaGreatDoor
