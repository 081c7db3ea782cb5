/-
  Layer 42: the walk of the reference's best.
-/
import Derived.Test.YtckffdaomjbglaaDoorIg
namespace Go.Proofs.YtckffdaomjbglaaDoor
open Go.RowKit Go.Sort Go.BigFrame

def PairAt (l : List Int) (k : Nat) (u v : Int) : Prop := ∃ i, i < k ∧ l[i]? = some u ∧ l[i + 1]? = some v ∧ plainC u = true ∧ plainC v = true
theorem pairAt_zero {l : List Int} {u v : Int} : PairAt l 0 u v ↔ False := ⟨fun ⟨i, h, _⟩ => by omega, False.elim⟩
theorem pairAt_no {l : List Int} {k : Nat} {x y : Int} (h1 : l[k]? = some x) (h2 : l[k + 1]? = some y) (h : plainC x = false ∨ plainC y = false) (u v : Int) : PairAt l k u v ↔ PairAt l (k + 1) u v := by
  refine ⟨fun ⟨i, hi, r⟩ => ⟨i, by omega, r⟩, fun ⟨i, hi, r1, r2, r3, r4⟩ => ?_⟩
  by_cases he : i = k
  · subst he
    rw [h1] at r1; rw [h2] at r2
    cases r1; cases r2
    rcases h with h | h
    · rw [h] at r3; cases r3
    · rw [h] at r4; cases r4
  · exact ⟨i, by omega, r1, r2, r3, r4⟩
theorem pairAt_yes {l : List Int} {k : Nat} {x y : Int} (h1 : l[k]? = some x) (h2 : l[k + 1]? = some y) (hx : plainC x = true) (hy : plainC y = true) (u v : Int) : (PairAt l k u v ∨ (u = x ∧ v = y)) ↔ PairAt l (k + 1) u v := by
  refine ⟨?_, fun ⟨i, hi, r1, r2, r3, r4⟩ => ?_⟩
  · rintro (⟨i, hi, r⟩ | ⟨rfl, rfl⟩)
    · exact ⟨i, by omega, r⟩
    · exact ⟨k, by omega, h1, h2, hx, hy⟩
  · by_cases he : i = k
    · subst he
      rw [h1] at r1; rw [h2] at r2
      cases r1; cases r2
      exact .inr ⟨rfl, rfl⟩
    · exact .inl ⟨i, by omega, r1, r2, r3, r4⟩
theorem pairAt_end {l : List Int} {k : Nat} (h : l.length ≤ k + 1) (hk : k ≤ l.length) (u v : Int) : PairAt l k u v ↔ PairAt l l.length u v := by
  refine ⟨fun ⟨i, hi, r⟩ => ⟨i, by omega, r⟩, fun ⟨i, hi, r1, r2, r3, r4⟩ => ⟨i, ?_, r1, r2, r3, r4⟩⟩
  have := (List.getElem?_eq_some_iff.1 r2).1
  omega
/-- the comparison's ways -/
theorem ahead_ways (a b n x y m : Int) : (ahead a b n x y m = true ∧ n < m) ∨ (¬ n < m ∧ ((ahead a b n x y m = false ∧ (m == n) = false) ∨ ((m == n) = true ∧ ((ahead a b n x y m = true ∧ x < a) ∨ (¬ x < a ∧ ((ahead a b n x y m = false ∧ (x == a) = false) ∨ ((x == a) = true ∧ ((ahead a b n x y m = true ∧ y < b) ∨ (ahead a b n x y m = false ∧ ¬ y < b))))))))) := by
  have h := ahead_iff (a := a) (b := b) (n := n) (x := x) (y := y) (m := m)
  cases hh : ahead a b n x y m
  · rw [hh] at h
    simp only [Bool.false_eq_true, false_iff, not_or] at h
    simp only [beq_eq_false_iff_ne, beq_iff_eq, ne_eq, Bool.false_eq_true, false_and, true_and, false_or]
    omega
  · rw [hh] at h
    simp only [true_iff] at h
    simp only [beq_eq_false_iff_ne, beq_iff_eq, ne_eq, Bool.true_eq_false, false_and, true_and, false_or, or_false]
    omega

def BestPost (l : List Int) (w : World) (e : Ending) (w' : World) : Prop :=
  ∃ a b n, e = .returned (.tuple #[.int .u8 a, .int .u8 b, .int .i64 n]) ∧ Hid (BestOf (PairAt l l.length) (fun u v => cntR u v l) a b n) ∧ 0 ≤ n ∧ n ≤ l.length ∧ Below w.heap.size w w'
end Go.Proofs.YtckffdaomjbglaaDoor
