/-
  Layer 5, plain: an order, as both texts make it.
-/
import Derived.Test.YtcdmmejicmbagaaDoorTi
namespace Go.Proofs.YtcdmmejicmbagaaDoor
open Go.RowKit

def swp (f : Nat → Nat) (i k : Nat) : Nat → Nat := fun j => if j = i then f k else if j = k then f i else f j
def placeN (s : Int) (p : ByteArray) (i : Nat) : Nat := (placeF s p i).toNat
theorem placeF_bd (s : Int) (p : ByteArray) (i : Nat) : 0 ≤ placeF s p i ∧ placeF s p i ≤ i := by
  unfold placeF
  have h1 := Int.emod_nonneg (ofF s (pathI p i)) (show ((i : Int) + 1) ≠ 0 by omega)
  have h2 := Int.emod_lt_of_pos (ofF s (pathI p i)) (show (0 : Int) < (i : Int) + 1 by omega)
  omega
theorem placeN_eq (s : Int) (p : ByteArray) (i : Nat) : placeF s p i = (placeN s p i : Int) := by
  have := placeF_bd s p i
  unfold placeN; omega
theorem placeN_le (s : Int) (p : ByteArray) (i : Nat) : placeN s p i ≤ i := by
  have := placeF_bd s p i
  unfold placeN; omega
def ordF (s : Int) (p : ByteArray) : Nat → (Nat → Nat) → Nat → Nat
  | 0, f => f
  | i + 1, f => ordF s p i (swp f (i + 1) (placeN s p (i + 1)))
def ordN (s : Int) (p : ByteArray) (n : Nat) : Nat → Nat := ordF s p (n - 1) (fun j => j)
def orderL (s : Int) (p : ByteArray) (n : Nat) : List Int := (List.range n).map fun j => (ordN s p n j : Int)
/-- each number below n once -/
structure Perm (n : Nat) (f : Nat → Nat) : Prop where
  lt : ∀ j, j < n → f j < n
  inj : ∀ j k, j < n → k < n → f j = f k → j = k
theorem perm_swp {n : Nat} {f : Nat → Nat} (h : Perm n f) {i k : Nat} (hi : i < n) (hk : k < n) : Perm n (swp f i k) := by
  refine ⟨fun j hj => ?_, fun a b ha hb he => ?_⟩
  · unfold swp
    split
    · exact h.lt k hk
    · split
      · exact h.lt i hi
      · exact h.lt j hj
  · unfold swp at he
    by_cases a1 : a = i
    · by_cases b1 : b = i
      · omega
      · rw [if_pos a1, if_neg b1] at he
        by_cases b2 : b = k
        · rw [if_pos b2] at he
          have := h.inj k i hk hi he; omega
        · rw [if_neg b2] at he
          exact absurd (h.inj k b hk hb he).symm b2
    · rw [if_neg a1] at he
      by_cases a2 : a = k
      · rw [if_pos a2] at he
        by_cases b1 : b = i
        · rw [if_pos b1] at he
          have := h.inj i k hi hk he; omega
        · rw [if_neg b1] at he
          by_cases b2 : b = k
          · omega
          · rw [if_neg b2] at he
            exact absurd (h.inj i b hi hb he).symm b1
      · rw [if_neg a2] at he
        by_cases b1 : b = i
        · rw [if_pos b1] at he
          exact absurd (h.inj a k ha hk he) a2
        · rw [if_neg b1] at he
          by_cases b2 : b = k
          · rw [if_pos b2] at he
            exact absurd (h.inj a i ha hi he) a1
          · rw [if_neg b2] at he
            exact h.inj a b ha hb he
theorem perm_ord {s : Int} {p : ByteArray} {n : Nat} : ∀ (i : Nat) {f : Nat → Nat}, i < n → Perm n f → Perm n (ordF s p i f)
  | 0, f, _, h => h
  | i + 1, f, hi, h => by
    unfold ordF
    exact perm_ord i (by omega) (perm_swp h hi (by have := placeN_le s p (i + 1); omega))
theorem perm_ordN (s : Int) (p : ByteArray) (n : Nat) : Perm n (ordN s p n) := by
  unfold ordN
  have hid : Perm n (fun j => j) := ⟨fun j hj => hj, fun j k _ _ h => h⟩
  cases n with
  | zero => exact ⟨fun j hj => absurd hj (Nat.not_lt_zero _), fun j k hj => absurd hj (Nat.not_lt_zero _)⟩
  | succ n => exact perm_ord _ (by omega) hid
theorem orderL_length (s : Int) (p : ByteArray) (n : Nat) : (orderL s p n).length = n := by simp [orderL]
theorem orderL_drop {s : Int} {p : ByteArray} {n k : Nat} {x : Int} {r : List Int} (h : (orderL s p n).drop k = x :: r) : x = (ordN s p n k : Int) ∧ k < n := by
  have h1 := get_of_drop h
  have hk : k < n := by
    have := (List.getElem?_eq_some_iff.1 h1).1
    rwa [orderL_length] at this
  unfold orderL at h1
  rw [List.getElem?_map, List.getElem?_range hk] at h1
  exact ⟨by simpa using h1.symm, hk⟩
/-- cells of an order on its way -/
def cellsO (n : Nat) (f : Nat → Nat) : Array Value := cellsN n fun j => (f j : Int)
theorem cellsO_swap (n : Nat) (f : Nat → Nat) (i k : Nat) : ((cellsO n f).setIfInBounds i (.int .i64 (f k : Int))).setIfInBounds k (.int .i64 (f i : Int)) = cellsO n (swp f i k) := by
  unfold cellsO
  rw [cellsN_set, cellsN_set]
  congr 1
  funext j
  unfold swp
  by_cases h1 : j = k
  · subst h1
    by_cases h2 : j = i
    · subst h2; simp
    · simp [h2]
  · by_cases h2 : j = i
    · subst h2; simp [h1]
    · simp [h1, h2]
theorem order_sl {s : Int} {p : ByteArray} {n : Nat} {w : World} {g : Nat} {t : TypeId} {F : Nat → Prop} (h : Blk w g t (cellsO n (ordN s p n))) (hF : F g) (hn : n ≤ 200) : SlAt (pI .i64) F w (some ⟨g, 0, none⟩) n (orderL s p n) :=
  sl_of_blk h hF (by unfold maxLen; omega) fun i hi => by
    have := (perm_ordN s p n).lt i hi
    exact fits_i64 (by omega)
end Go.Proofs.YtcdmmejicmbagaaDoor
