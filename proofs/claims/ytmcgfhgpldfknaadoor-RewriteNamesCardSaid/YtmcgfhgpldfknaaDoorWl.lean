/-
  Layer 6: depths before a position (plain).
-/
import Derived.Test.YtmcgfhgpldfknaaDoorWk
namespace Go.Proofs.YtmcgfhgpldfknaaDoor
open Go.RowKit

def delta (m : Mod) : Int := if m.name = 91 then 1 else if m.name = 93 then -1 else 0
/-- the depth ahead of position j -/
def dep (ms : List Mod) (j : Nat) : Int := ((ms.take j).map delta).sum
theorem dep_zero (ms : List Mod) : dep ms 0 = 0 := rfl
theorem dep_succ {ms : List Mod} {j : Nat} {m : Mod} {r : List Mod} (h : ms.drop j = m :: r) : dep ms (j + 1) = dep ms j + delta m := by
  unfold dep; rw [take_of_drop h]; simp [List.sum_append]
theorem dep_nil (j : Nat) : dep [] j = 0 := by simp [dep]
theorem dep_cons (m : Mod) (ms : List Mod) (j : Nat) : dep (m :: ms) (j + 1) = delta m + dep ms j := by simp [dep]
/-- the list of Open gives the depths behind each module -/
theorem openL_dep : ∀ (ms : List Mod) (n : Nat) (l : List Int), openL n ms = some l → ∀ j, j < ms.length → l[j]? = some ((n : Int) + dep ms (j + 1)) ∧ 0 ≤ (n : Int) + dep ms (j + 1)
  | [], n, l, h, j, hj => by simp at hj
  | m :: ms, n, l, h, j, hj => by
    have key : ∃ n' : Nat, (n' : Int) = n + delta m ∧ ∃ l', openL n' ms = some l' ∧ l = (n' : Int) :: l' := by
      by_cases h1 : m.name = 91
      · rw [openL_open h1] at h
        obtain ⟨l', h2, rfl⟩ := Option.map_eq_some_iff.1 h
        exact ⟨n + 1, by unfold delta; rw [if_pos h1]; omega, l', h2, rfl⟩
      · by_cases h3 : m.name = 93
        · by_cases h0 : n = 0
          · rw [openL_no h3 h0] at h; cases h
          · rw [openL_close h3 h0] at h
            obtain ⟨l', h2, rfl⟩ := Option.map_eq_some_iff.1 h
            exact ⟨n - 1, by unfold delta; rw [if_neg h1, if_pos h3]; omega, l', h2, rfl⟩
        · rw [openL_else h1 h3] at h
          obtain ⟨l', h2, rfl⟩ := Option.map_eq_some_iff.1 h
          exact ⟨n, by unfold delta; rw [if_neg h1, if_neg h3]; omega, l', h2, rfl⟩
    obtain ⟨n', hn, l', h2, rfl⟩ := key
    match j with
    | 0 =>
      rw [dep_cons, dep_zero]
      refine ⟨by simp; omega, by omega⟩
    | j + 1 =>
      have := openL_dep ms n' l' h2 j (by simpa using hj)
      rw [dep_cons]
      rw [List.getElem?_cons_succ, this.1]
      exact ⟨by congr 1; omega, by omega⟩
theorem check_zero {ms : List Mod} (h : checkF ms = 0) : ms.length ≤ 2000 ∧ ∃ l, openL 0 ms = some l ∧ l.length = ms.length ∧ (∀ j, j < ms.length → l[j]? = some (dep ms (j + 1))) ∧ (∀ j, j ≤ ms.length → 0 ≤ dep ms j) ∧ dep ms ms.length = 0 := by
  by_cases h1 : 2000 < ms.length
  · unfold checkF at h; rw [if_pos h1] at h; cases h
  · by_cases h2 : ms.all fineF = true
    · rw [checkF_open h1 h2] at h
      cases ho : openL 0 ms with
      | none => rw [ho] at h; cases h
      | some l =>
        rw [ho] at h
        simp only at h
        have hd := openL_dep ms 0 l ho
        have hlen := openL_length ho
        have hge : ∀ j, j ≤ ms.length → 0 ≤ dep ms j := by
          intro j hj
          match j with
          | 0 => rw [dep_zero]; omega
          | j + 1 => have := (hd j (by omega)).2; omega
        refine ⟨by omega, l, rfl, hlen, fun j hj => by rw [(hd j hj).1]; simp, hge, ?_⟩
        rcases Nat.eq_zero_or_pos ms.length with h0 | h0
        · rw [h0]; rfl
        · have h3 := (hd (ms.length - 1) (by omega)).1
          rw [List.getLast?_eq_getElem?, hlen, h3] at h
          have h4 := hge ms.length (Nat.le_refl _)
          rw [show ms.length - 1 + 1 = ms.length from by omega] at h
          simp only [Option.getD_some] at h
          by_cases h5 : 0 < ((0 : Nat) : Int) + dep ms ms.length
          · rw [if_pos h5] at h; cases h
          · omega
    · unfold checkF at h; rw [if_neg h1, if_pos (by simpa using h2)] at h; cases h

/-- what Close finds, forward and backward -/
def Fwd (ms : List Mod) (i k : Nat) : Prop := i ≤ k ∧ k < ms.length ∧ dep ms (k + 1) = dep ms i ∧ ∀ j, i ≤ j → j < k → dep ms i < dep ms (j + 1)
def Bwd (ms : List Mod) (i k : Nat) : Prop := k ≤ i ∧ dep ms k = dep ms (i + 1) ∧ ∀ j, k < j → j ≤ i → dep ms (i + 1) < dep ms j
theorem fwd_one {ms : List Mod} {i k k' : Nat} (h : Fwd ms i k) (h' : Fwd ms i k') : k = k' := by
  obtain ⟨a1, a2, a3, a4⟩ := h
  obtain ⟨b1, b2, b3, b4⟩ := h'
  rcases Nat.lt_trichotomy k k' with hl | hl | hl
  · have := b4 k a1 hl; omega
  · exact hl
  · have := a4 k' b1 hl; omega
theorem bwd_one {ms : List Mod} {i k k' : Nat} (h : Bwd ms i k) (h' : Bwd ms i k') : k = k' := by
  obtain ⟨a1, a2, a3⟩ := h
  obtain ⟨b1, b2, b3⟩ := h'
  rcases Nat.lt_trichotomy k k' with hl | hl | hl
  · have := a3 k' hl b1; omega
  · exact hl
  · have := b3 k hl a1; omega

/-! ### Depth -/
def deep (op mo : Int) : List Mod → Int
  | [] => mo
  | m :: ms => if m.name = 91 then deep (op + 1) (max mo (op + 1)) ms else if m.name = 93 then deep (op - 1) mo ms else deep op mo ms
theorem deep_open : ∀ (ms : List Mod) (n : Nat) (l : List Int) (mo : Int), openL n ms = some l → (n : Int) ≤ mo → deep n mo ms = l.foldl max mo
  | [], n, l, mo, h, _ => by cases h; rfl
  | m :: ms, n, l, mo, h, hm => by
    unfold deep
    by_cases h1 : m.name = 91
    · rw [openL_open h1] at h
      obtain ⟨l', h2, rfl⟩ := Option.map_eq_some_iff.1 h
      rw [if_pos h1, List.foldl_cons]
      have := deep_open ms (n + 1) l' (max mo ((n : Int) + 1)) h2 (by omega)
      simpa using this
    · by_cases h3 : m.name = 93
      · by_cases h0 : n = 0
        · rw [openL_no h3 h0] at h; cases h
        · rw [openL_close h3 h0] at h
          obtain ⟨l', h2, rfl⟩ := Option.map_eq_some_iff.1 h
          rw [if_neg h1, if_pos h3, List.foldl_cons, show (n : Int) - 1 = ((n - 1 : Nat) : Int) from by omega, deep_open ms (n - 1) l' mo h2 (by omega)]
          congr 1; omega
      · rw [openL_else h1 h3] at h
        obtain ⟨l', h2, rfl⟩ := Option.map_eq_some_iff.1 h
        rw [if_neg h1, if_neg h3, List.foldl_cons, deep_open ms n l' mo h2 hm]
        congr 1; omega
def depthF (ms : List Mod) : Int × Int := if checkF ms = 0 then (deep 0 0 ms, 0) else (0, checkF ms)
end Go.Proofs.YtmcgfhgpldfknaaDoor
