/-
  Layer 5, plain: which index a number picks; how many of a window of numbers pick one.
-/
import Derived.Test.YtcdmmejicmbagaaDoorSd
namespace Go.Proofs.YtcdmmejicmbagaaDoor
open Go.RowKit
set_option linter.unusedVariables false

theorem pick_spec : ∀ (l : List Int) (r : Int) (i : Nat), allW l = true → 0 ≤ r → r < l.sum → ∃ k, pickIx r l i = some (i + k) ∧ k < l.length ∧ ∃ x, l[k]? = some x ∧ 0 < x
  | [], r, i, _, h0, h1 => by simp at h1; omega
  | w :: l, r, i, ha, h0, h1 => by
    unfold allW at ha
    simp only [List.all_cons, Bool.and_eq_true, decide_eq_true_eq] at ha
    unfold pickIx
    by_cases h : r < w
    · rw [if_pos h]
      exact ⟨0, rfl, by simp, w, rfl, by omega⟩
    · rw [if_neg h]
      obtain ⟨k, h2, h3, x, h4, h5⟩ := pick_spec l (r - w) (i + 1) ha.2 (by omega) (by rw [List.sum_cons] at h1; omega)
      exact ⟨k + 1, by rw [h2]; congr 1; omega, by simp; omega, x, by simpa using h4, h5⟩
/-- how many of the n numbers from h on have the property -/
def cntP (f : Int → Bool) (h : Int) : Nat → Int
  | 0 => 0
  | n + 1 => cntP f h n + (if f (h + n) = true then 1 else 0)
theorem cntP_next (f : Int → Bool) (h : Int) : ∀ n : Nat, cntP f (h + 1) n + (if f h = true then 1 else 0) = cntP f h n + (if f (h + n) = true then 1 else 0)
  | 0 => by simp [cntP]
  | n + 1 => by
    have ih := cntP_next f h n
    unfold cntP
    rw [show h + 1 + (n : Int) = h + ((n + 1 : Nat) : Int) from by omega]
    omega
theorem cntP_shift (f : Int → Bool) (n : Nat) (hp : ∀ x, 0 ≤ x → f (x + n) = f x) : ∀ m : Nat, cntP f (m : Int) n = cntP f 0 n
  | 0 => rfl
  | m + 1 => by
    have h1 := cntP_next f (m : Int) n
    rw [hp _ (by omega)] at h1
    have h2 := cntP_shift f n hp m
    rw [show ((m + 1 : Nat) : Int) = (m : Int) + 1 from by omega]
    omega
theorem cntP_congr {f g : Int → Bool} {a b : Int} : ∀ (n : Nat), (∀ i : Nat, i < n → f (a + i) = g (b + i)) → cntP f a n = cntP g b n
  | 0, _ => rfl
  | n + 1, h => by
    unfold cntP
    rw [cntP_congr n fun i hi => h i (by omega), h n (by omega)]
theorem cntP_add (f : Int → Bool) (a : Int) (m : Nat) : ∀ n : Nat, cntP f a (m + n) = cntP f a m + cntP f (a + m) n
  | 0 => by simp [cntP]
  | n + 1 => by
    show cntP f a (m + n) + (if f (a + ((m + n : Nat) : Int)) = true then 1 else 0) = cntP f a m + (cntP f (a + m) n + (if f (a + (m : Int) + (n : Int)) = true then 1 else 0))
    rw [cntP_add f a m n, show a + (m : Int) + (n : Int) = a + ((m + n : Nat) : Int) from by omega]
    omega
theorem cntP_const (b : Bool) (a : Int) : ∀ n : Nat, cntP (fun _ => b) a n = if b = true then (n : Int) else 0
  | 0 => by cases b <;> rfl
  | n + 1 => by
    unfold cntP
    rw [cntP_const b a n]
    cases b <;> simp
theorem pickIx_ge : ∀ (l : List Int) (r : Int) (i j : Nat), pickIx r l i = some j → i ≤ j
  | [], r, i, j, h => by unfold pickIx at h; cases h
  | w :: l, r, i, j, h => by
    unfold pickIx at h
    by_cases hc : r < w
    · rw [if_pos hc] at h; cases h; exact Nat.le_refl _
    · rw [if_neg hc] at h
      have := pickIx_ge l _ _ _ h; omega
/-- of the numbers 0 to the sum of the weights, as many pick an index as its weight -/
theorem cnt_pick : ∀ (l : List Int) (i k : Nat), allW l = true → cntP (fun r => pickIx r l i == some (i + k)) 0 l.sum.toNat = l.getD k 0
  | [], i, k, _ => by simp [cntP]
  | w :: l, i, k, ha => by
    have ha' := ha
    unfold allW at ha
    simp only [List.all_cons, Bool.and_eq_true, decide_eq_true_eq] at ha
    have hs := sum_le l ha.2
    rw [List.sum_cons, show (w + l.sum).toNat = w.toNat + l.sum.toNat from by omega, cntP_add]
    have e1 : cntP (fun r => pickIx r (w :: l) i == some (i + k)) 0 w.toNat = if k = 0 then w else 0 := by
      rw [cntP_congr (g := fun _ => decide (k = 0)) (b := 0) w.toNat fun j hj => by
        simp only [pickIx]
        rw [if_pos (by omega)]
        by_cases hk : k = 0
        · subst hk; simp
        · rw [decide_eq_false hk]
          simp; omega]
      rw [cntP_const]
      by_cases hk : k = 0
      · rw [if_pos (by simpa using hk), if_pos hk]; omega
      · rw [if_neg (by simpa using hk), if_neg hk]
    have e2 : cntP (fun r => pickIx r (w :: l) i == some (i + k)) (0 + (w.toNat : Int)) l.sum.toNat = cntP (fun r => pickIx r l (i + 1) == some (i + k)) 0 l.sum.toNat :=
      cntP_congr _ fun j hj => by
        simp only [pickIx]
        rw [if_neg (by omega), show 0 + (w.toNat : Int) + (j : Int) - w = 0 + (j : Int) from by omega]
    rw [e1, e2]
    cases k with
    | zero =>
      rw [if_pos rfl]
      have : cntP (fun r => pickIx r l (i + 1) == some (i + 0)) 0 l.sum.toNat = 0 := by
        rw [cntP_congr (g := fun _ => false) (b := 0) l.sum.toNat fun j hj => by
          cases h : pickIx (0 + (j : Int)) l (i + 1) with
          | none => rfl
          | some q =>
            have := pickIx_ge l _ _ _ h
            simp; omega]
        rw [cntP_const]; rfl
      rw [this]; simp
    | succ k =>
      rw [if_neg (by omega), Int.zero_add]
      have := cnt_pick l (i + 1) k ha.2
      rw [show i + 1 + k = i + (k + 1) from by omega] at this
      rw [this]; simp
/-- the index that a number picks -/
def ixW (l : List Int) (h : Int) : Nat := (pickIx (h % sumW l) l 0).getD 0
theorem pick_ix {l : List Int} (hs : ¬ sumW l = 0) (h : Int) : pickF l h = ((ixW l h : Int), 0) ∧ ixW l h < l.length ∧ 0 < l.getD (ixW l h) 0 := by
  obtain ⟨h1, h2, h3, h4, h5⟩ := sumW_ne hs
  obtain ⟨k, e1, e2, x, e3, e4⟩ := pick_spec l (h % sumW l) 0 h1 (Int.emod_nonneg _ hs) (by have := Int.emod_lt_of_pos h (show 0 < sumW l by omega); omega)
  rw [Nat.zero_add] at e1
  have hi : ixW l h = k := by unfold ixW; rw [e1]; rfl
  refine ⟨?_, by omega, ?_⟩
  · unfold pickF; rw [if_neg hs, e1, hi]
  · rw [hi, List.getD_eq_getElem?_getD, e3]; exact e4
theorem ix_period {l : List Int} (h : Int) : ixW l (h + sumW l) = ixW l h := by
  unfold ixW; rw [Int.add_emod_right]
/-- the stage's theorem: of as many numbers that follow each other as the sum of the weights is, each index is picked by as many as its weight -/
theorem fair {l : List Int} (hs : ¬ sumW l = 0) (h : Int) (h0 : 0 ≤ h) (k : Nat) (hk : k < l.length) : cntP (fun x => ixW l x == k) h (sumW l).toNat = l.getD k 0 := by
  obtain ⟨h1, h2, h3, h4, h5⟩ := sumW_ne hs
  obtain ⟨m, rfl⟩ : ∃ m : Nat, h = (m : Int) := ⟨h.toNat, by omega⟩
  rw [cntP_shift _ _ fun x hx => by
    have e : (((sumW l).toNat : Nat) : Int) = sumW l := by omega
    show (ixW l (x + (((sumW l).toNat : Nat) : Int)) == k) = (ixW l x == k)
    rw [e, ix_period]]
  rw [← cnt_pick l 0 k h1, ← h2]
  refine cntP_congr _ fun i hi => ?_
  have hr : (0 + (i : Int)) % sumW l = 0 + (i : Int) := Int.emod_eq_of_lt (by omega) (by omega)
  obtain ⟨j, e1, e2, _⟩ := pick_spec l (0 + (i : Int)) 0 h1 (by omega) (by omega)
  have hi2 : ixW l (0 + (i : Int)) = j := by unfold ixW; rw [hr, e1, Nat.zero_add]; rfl
  show (ixW l (0 + (i : Int)) == k) = (pickIx (0 + (i : Int)) l 0 == some (0 + k))
  rw [hi2, e1]
  simp
end Go.Proofs.YtcdmmejicmbagaaDoor
