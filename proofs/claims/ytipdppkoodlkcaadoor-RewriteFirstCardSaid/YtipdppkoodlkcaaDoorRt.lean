/-
  Layer 7: the walk of the reference's Step.
-/
import Derived.Test.YtipdppkoodlkcaaDoorRq
import Derived.Test.YtipdppkoodlkcaaDoorFi
import Derived.Test.YtipdppkoodlkcaaDoorWf
namespace Go.Proofs.YtipdppkoodlkcaaDoor
open Go.RowKit Go.Sort

theorem sl_one {α : Type} {E : Rp α} {F : Nat → Prop} {w : World} {b o cap : Nat} {xs : List α} {i : Nat} {x : α} (h : SlAt E F w (some ⟨b, o, none⟩) cap xs) (hx : xs[i]? = some x) : SlAt E F w (some ⟨b, o + i * E.n, none⟩) (cap - i) [x] := by
  have hi : i < xs.length := (List.getElem?_eq_some_iff.1 hx).1
  have hle := h.le
  have hmx := h.mx
  refine ⟨by simp; omega, by omega, (fun e => by cases e), fun j y hy => ?_⟩
  have hj : j = 0 := by have := (List.getElem?_eq_some_iff.1 hy).1; simpa using this
  subst hj
  simp at hy; subst hy
  obtain ⟨b', o', cs, h1, h2, h3, h4⟩ := h.el i _ hx
  cases h1
  exact ⟨b, o + i * E.n, cs, rfl, h2, h3, fun j c hc => by rw [Nat.zero_mul, Nat.add_zero]; exact h4 j c hc⟩
theorem outsF_le {rs : List Rul} {m : Mod} (h : ∀ r ∈ rs, r.out.length ≤ 30) : (outsF rs m).length ≤ 30 := by
  rcases outsF_cases rs m with ⟨_, h1⟩ | ⟨j, r, _, h2, _, h3⟩
  · rw [h1]; simp
  · rw [h3, List.length_map]; exact h r (List.mem_of_getElem? h2)
theorem succF_le {rs : List Rul} (h : ∀ r ∈ rs, r.out.length ≤ 30) : ∀ (ms : List Mod), (succF rs ms).length ≤ ms.length * 30
  | [] => by simp [succF]
  | m :: ms => by
    have h1 := outsF_le (m := m) h
    have h2 := succF_le h ms
    have e : succF rs (m :: ms) = outsF rs m ++ succF rs ms := rfl
    rw [e, List.length_append, List.length_cons]
    omega
theorem stepF_not {rs : List Rul} {ms : List Mod} {k : Nat} {m : Mod} (hd : ms.drop k = m :: ms.drop (k + 1)) (h : (outsF rs m).all (·.2) = false) : stepF rs ms = ([], 16) := by
  unfold stepF
  rw [if_neg]
  intro hall
  obtain ⟨t, ht⟩ := succF_prefix (rs := rs) (ms := ms) (k + 1)
  rw [← ht, List.all_append, Bool.and_eq_true, succF_snoc hd, List.all_append, Bool.and_eq_true, h] at hall
  exact Bool.noConfusion hall.1.2

def RefStepPost (rs : List Rul) (ms : List Mod) (w : World) (e : Ending) (w' : World) : Prop :=
  ∃ A c, e = .returned (.tuple #[.slice A (rStepF rs ms).1.length c, .int .i64 (rStepF rs ms).2]) ∧ Own pMod 38 w.heap.size (w.heap.size ≤ ·) w' (.slice A (rStepF rs ms).1.length c) (rStepF rs ms).1 ∧ Below w.heap.size w w'

end Go.Proofs.YtipdppkoodlkcaaDoor
