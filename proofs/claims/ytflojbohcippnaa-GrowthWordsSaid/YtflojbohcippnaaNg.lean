/-
  Layer 10: the walk of the reference's Rows.
-/
import Derived.Test.YtflojbohcippnaaNf
namespace Go.Proofs.Ytflojbohcippnaa
open Go.RowKit Go.Sort

theorem sl_nil {α : Type} {E : Rp α} {F : Nat → Prop} {w : World} : SlAt E F w none 0 ([] : List α) := ⟨Nat.le_refl _, Nat.zero_le _, fun _ => rfl, fun i x hx => by simp at hx⟩
theorem fits_plain {p : ByteArray} {r : Rul} (h : plainF p r = true) (c : Int) : fitsF r ⟨c, []⟩ = (r.name == c) := by
  unfold plainF at h
  simp only [Bool.and_eq_true] at h
  have h1 : r.guards = [] := List.eq_nil_of_length_eq_zero (by simpa using h.1.1.2)
  unfold fitsF
  rw [h1, show (r.arity == (([] : List Int).length : Int)) = true from by simpa using h.1.1.1]
  simp
theorem first_cases {p : ByteArray} (c : Int) : ∀ (l : List Rul) (k : Nat), l.all (plainF p) = true → (firstFrom ⟨c, []⟩ l k = -1 ∧ l.find? (fun r => r.name == c) = none) ∨
    ∃ j r, firstFrom ⟨c, []⟩ l k = ((k + j : Nat) : Int) ∧ l.drop j = r :: l.drop (j + 1) ∧ l.find? (fun r => r.name == c) = some r
  | [], k, _ => .inl ⟨rfl, rfl⟩
  | r :: l, k, h => by
    rw [List.all_cons, Bool.and_eq_true] at h
    have hf := fits_plain h.1 c
    rw [List.find?_cons]
    cases hn : (r.name == c)
    · rw [firstFrom_no (by rw [hf, hn])]
      rcases first_cases c l (k + 1) h.2 with h1 | ⟨j, r', h1, h2, h3⟩
      · exact .inl h1
      · exact .inr ⟨j + 1, r', by rw [h1]; congr 1; omega, by simpa using h2, h3⟩
    · rw [firstFrom_yes (by rw [hf, hn])]
      exact .inr ⟨0, r, by simp, by simp, rfl⟩

end Go.Proofs.Ytflojbohcippnaa
