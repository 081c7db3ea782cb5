/-
  Layer 42, plain: pairs of neighbours: how often they occur, and which occurs most. No program is walked here.
-/
import Derived.Test.YtckffdaomjbglaaBase
namespace Go.Proofs.Ytckffdaomjbglaa
open Go.RowKit

/-- how often a pair occurs, none of two that overlap: as the reference counts -/
def cntR (a b : Int) : List Int → Int
  | x :: y :: r => if x = a ∧ y = b then cntR a b r + 1 else cntR a b (y :: r)
  | [_] => 0
  | [] => 0
/-- as the program counts: the flag tells that the pair was counted one place earlier -/
def cntP (a b : Int) : Bool → List Int → Int
  | f, x :: y :: r => if x = a ∧ y = b then (if a = b ∧ f = true then cntP a b false (y :: r) else cntP a b true (y :: r) + 1) else cntP a b false (y :: r)
  | _, [_] => 0
  | _, [] => 0
theorem cntR_one (a b x : Int) : cntR a b [x] = 0 := by simp [cntR]
theorem cntR_nil (a b : Int) : cntR a b [] = 0 := by simp [cntR]
theorem cntP_one (a b x : Int) (f : Bool) : cntP a b f [x] = 0 := by simp [cntP]
theorem cntR_two (a b x y : Int) (r : List Int) : cntR a b (x :: y :: r) = if x = a ∧ y = b then cntR a b r + 1 else cntR a b (y :: r) := by simp [cntR]
theorem cntP_two (a b x y : Int) (f : Bool) (r : List Int) : cntP a b f (x :: y :: r) = if x = a ∧ y = b then (if a = b ∧ f = true then cntP a b false (y :: r) else cntP a b true (y :: r) + 1) else cntP a b false (y :: r) := by simp [cntP]
theorem cntP_both (a b : Int) : ∀ n (l : List Int), l.length ≤ n → cntP a b false l = cntR a b l ∧ ∀ r, l = b :: r → cntP a b true l = cntR a b r
  | 0, l, h => by
    have : l = [] := List.length_eq_zero_iff.1 (by omega)
    subst this
    exact ⟨by simp [cntP, cntR], fun r hr => by cases hr⟩
  | n + 1, [], _ => ⟨by simp [cntP, cntR], fun r hr => by cases hr⟩
  | n + 1, [x], _ => ⟨by rw [cntP_one, cntR_one], fun r hr => by
      injection hr with _ h2
      rw [← h2, cntP_one, cntR_nil]⟩
  | n + 1, x :: y :: r, h => by
    simp only [List.length_cons] at h
    have h1 := cntP_both a b n (y :: r) (by simp only [List.length_cons]; omega)
    refine ⟨?_, fun r' hr => ?_⟩
    · rw [cntP_two, cntR_two]
      by_cases hm : x = a ∧ y = b
      · rw [if_pos hm, if_pos hm, if_neg (by simp), h1.2 r (by rw [hm.2])]
      · rw [if_neg hm, if_neg hm, h1.1]
    · injection hr with hx hr'
      subst hx
      subst hr'
      rw [cntP_two]
      by_cases hm : x = a ∧ y = x
      · rw [if_pos hm, if_pos ⟨hm.1.symm, rfl⟩, h1.1]
      · rw [if_neg hm, h1.1]
theorem cntP_eq (a b : Int) (l : List Int) : cntP a b false l = cntR a b l := (cntP_both a b l.length l (Nat.le_refl _)).1
theorem cntR_nonneg (a b : Int) : ∀ n (l : List Int), l.length ≤ n → 0 ≤ cntR a b l ∧ cntR a b l ≤ l.length
  | 0, l, h => by
    have : l = [] := List.length_eq_zero_iff.1 (by omega)
    subst this; rw [cntR_nil]; simp
  | n + 1, [], _ => by rw [cntR_nil]; simp
  | n + 1, [x], _ => by rw [cntR_one]; simp
  | n + 1, x :: y :: r, h => by
    simp only [List.length_cons] at h
    have h1 := cntR_nonneg a b n (y :: r) (by simp only [List.length_cons]; omega)
    have h2 := cntR_nonneg a b n r (by omega)
    rw [cntR_two]
    simp only [List.length_cons] at h1 ⊢
    split <;> omega
/-- a pair that stands somewhere is counted at least once -/
theorem cntR_pos (a b : Int) : ∀ n (l : List Int) (i : Nat), l.length ≤ n → l[i]? = some a → l[i + 1]? = some b → 1 ≤ cntR a b l
  | 0, l, i, h, h1, _ => by have := (List.getElem?_eq_some_iff.1 h1).1; omega
  | n + 1, [], i, _, h1, _ => by simp at h1
  | n + 1, [x], i, _, h1, h2 => by have := (List.getElem?_eq_some_iff.1 h2).1; simp at this
  | n + 1, x :: y :: r, i, h, h1, h2 => by
    simp only [List.length_cons] at h
    rw [cntR_two]
    by_cases hm : x = a ∧ y = b
    · rw [if_pos hm]; have := (cntR_nonneg a b r.length r (Nat.le_refl _)).1; omega
    · rw [if_neg hm]
      cases i with
      | zero => simp at h1 h2; exact absurd ⟨h1, h2⟩ hm
      | succ i => exact cntR_pos a b n (y :: r) i (by simp only [List.length_cons]; omega) (by simpa using h1) (by simpa using h2)

/-! ### which occurs most -/
/-- is (x, y), m times, ahead of (a, b), n times? -/
def ahead (a b n x y m : Int) : Bool := decide (n < m) || (m == n && (decide (x < a) || (x == a && decide (y < b))))
/-- the best of the pairs in S, c how often each -/
structure BestOf (S : Int → Int → Prop) (c : Int → Int → Int) (a b n : Int) : Prop where
  none : n = 0 → a = 0 ∧ b = 0 ∧ ∀ x y, ¬ S x y
  some : n ≠ 0 → S a b ∧ n = c a b
  best : ∀ x y, S x y → ahead a b n x y (c x y) = false
theorem ahead_iff {a b n x y m : Int} : ahead a b n x y m = true ↔ n < m ∨ (m = n ∧ (x < a ∨ (x = a ∧ y < b))) := by
  unfold ahead; simp
theorem ahead_not {a b n x y m : Int} : ahead a b n x y m = false ↔ ¬ (n < m ∨ (m = n ∧ (x < a ∨ (x = a ∧ y < b)))) := by
  rw [← ahead_iff, Bool.not_eq_true]
theorem BestOf.one {S : Int → Int → Prop} {c : Int → Int → Int} {a b n a' b' n' : Int} (h : BestOf S c a b n) (h' : BestOf S c a' b' n') : a = a' ∧ b = b' ∧ n = n' := by
  by_cases h0 : n = 0
  · obtain ⟨h1, h2, h3⟩ := h.none h0
    by_cases h0' : n' = 0
    · obtain ⟨h1', h2', _⟩ := h'.none h0'; exact ⟨by omega, by omega, by omega⟩
    · exact absurd (h'.some h0').1 (h3 _ _)
  · obtain ⟨h1, h2⟩ := h.some h0
    by_cases h0' : n' = 0
    · exact absurd h1 ((h'.none h0').2.2 _ _)
    · obtain ⟨h1', h2'⟩ := h'.some h0'
      have e1 := ahead_not.1 (h.best _ _ h1')
      have e2 := ahead_not.1 (h'.best _ _ h1)
      rw [← h2'] at e1
      rw [← h2] at e2
      omega
theorem BestOf.start (c : Int → Int → Int) : BestOf (fun _ _ => False) c 0 0 0 := ⟨fun _ => ⟨rfl, rfl, fun _ _ h => h⟩, fun h => absurd rfl h, fun _ _ h => h.elim⟩
/-- one pair more is looked at -/
theorem BestOf.more {S : Int → Int → Prop} {c : Int → Int → Int} {a b n x y : Int} (h : BestOf S c a b n) (_hn : 0 ≤ n) (hc : 0 < c x y) :
    (ahead a b n x y (c x y) = true → BestOf (fun u v => S u v ∨ (u = x ∧ v = y)) c x y (c x y)) ∧ (ahead a b n x y (c x y) = false → BestOf (fun u v => S u v ∨ (u = x ∧ v = y)) c a b n) := by
  refine ⟨fun ha => ⟨fun h0 => by omega, fun _ => ⟨.inr ⟨rfl, rfl⟩, rfl⟩, fun u v huv => ?_⟩, fun ha => ⟨fun h0 => ?_, fun h0 => ?_, fun u v huv => ?_⟩⟩
  · rcases huv with huv | ⟨rfl, rfl⟩
    · have e1 := ahead_not.1 (h.best _ _ huv)
      have e2 := ahead_iff.1 ha
      refine ahead_not.2 ?_
      omega
    · refine ahead_not.2 ?_; omega
  · have := ahead_not.1 ha; omega
  · exact ⟨.inl (h.some h0).1, (h.some h0).2⟩
  · rcases huv with huv | ⟨rfl, rfl⟩
    · exact h.best _ _ huv
    · exact ha
theorem BestOf.congr {S S' : Int → Int → Prop} {c : Int → Int → Int} {a b n : Int} (h : BestOf S c a b n) (hS : ∀ x y, S x y ↔ S' x y) : BestOf S' c a b n :=
  ⟨fun h0 => ⟨(h.none h0).1, (h.none h0).2.1, fun x y hx => (h.none h0).2.2 x y ((hS x y).2 hx)⟩, fun h0 => ⟨(hS _ _).1 (h.some h0).1, (h.some h0).2⟩, fun x y hx => h.best x y ((hS x y).2 hx)⟩
end Go.Proofs.Ytckffdaomjbglaa
