/-
  Layer 6: the walks of Close.
-/
import Derived.Test.YtmcgfhgpldfknaaDoorWm
namespace Go.Proofs.YtmcgfhgpldfknaaDoor
open Go.RowKit

/-- what Close gives: (0, its error), or the bracket that Fwd or Bwd describes -/
def CloseIs (ms : List Mod) (i : Int) (r : Int × Int) : Prop :=
  (¬ checkF ms = 0 ∧ r = (0, checkF ms)) ∨ (checkF ms = 0 ∧ (i < 0 ∨ (ms.length : Int) ≤ i) ∧ r = (0, 2)) ∨
  (checkF ms = 0 ∧ ∃ (n : Nat) (m : Mod), i = n ∧ ms[n]? = some m ∧ ((¬ m.name = 91 ∧ ¬ m.name = 93 ∧ r = (0, 2)) ∨ (m.name = 91 ∧ ∃ k : Nat, Fwd ms n k ∧ r = ((k : Int), 0)) ∨ (m.name = 93 ∧ ∃ k : Nat, Bwd ms n k ∧ r = ((k : Int), 0))))
theorem closeIs_one {ms : List Mod} {i : Int} {r r' : Int × Int} (h : CloseIs ms i r) (h' : CloseIs ms i r') : r = r' := by
  rcases h with ⟨h1, h2⟩ | ⟨h1, h2, h3⟩ | ⟨h1, n, m, rfl, h3, h4⟩
  · rcases h' with ⟨g1, g2⟩ | ⟨g1, _⟩ | ⟨g1, _⟩
    · rw [h2, g2]
    · exact absurd g1 h1
    · exact absurd g1 h1
  · rcases h' with ⟨g1, g2⟩ | ⟨g1, g2, g3⟩ | ⟨g1, n, m, rfl, g3, g4⟩
    · exact absurd h1 g1
    · rw [h3, g3]
    · have := (List.getElem?_eq_some_iff.1 g3).1; omega
  · have hn := (List.getElem?_eq_some_iff.1 h3).1
    rcases h' with ⟨g1, g2⟩ | ⟨g1, g2, g3⟩ | ⟨g1, n', m', hnn, g3, g4⟩
    · exact absurd h1 g1
    · omega
    · have : n' = n := by omega
      subst this
      rw [h3] at g3; cases g3
      rcases h4 with ⟨a1, a2, a3⟩ | ⟨a1, k, a2, a3⟩ | ⟨a1, k, a2, a3⟩ <;> rcases g4 with ⟨b1, b2, b3⟩ | ⟨b1, k', b2, b3⟩ | ⟨b1, k', b2, b3⟩ <;> first
        | (rw [a3, b3]; done)
        | (exact absurd b1 a1)
        | (exact absurd b1 a2)
        | (exact absurd a1 b1)
        | (exact absurd a1 b2)
        | (rw [a3, b3, fwd_one a2 b2]; done)
        | (rw [a3, b3, bwd_one a2 b2]; done)
        | (rw [a1] at b1; cases b1)

def ClosePost (ms : List Mod) (i : Int) (w : World) (e : Ending) (w' : World) : Prop := ∃ r : Int × Int, CloseIs ms i r ∧ e = .returned (.tuple #[.int .i64 r.1, .int .i64 r.2]) ∧ Below w.heap.size w w'
theorem delta_open {m : Mod} (h : m.name = 91) : delta m = 1 := by unfold delta; rw [if_pos h]
theorem delta_close {m : Mod} (h : m.name = 93) : delta m = -1 := by unfold delta; rw [if_neg (by omega), if_pos h]
theorem delta_else {m : Mod} (h : ¬ m.name = 91) (h' : ¬ m.name = 93) : delta m = 0 := by unfold delta; rw [if_neg h, if_neg h']

/-- the forward round of word.Close -/
theorem fwd_ext {ms : List Mod} {i k : Nat} (h : ∀ j, i ≤ j → j < k → dep ms i < dep ms (j + 1)) (h' : dep ms i < dep ms (k + 1)) : ∀ j, i ≤ j → j < k + 1 → dep ms i < dep ms (j + 1) := fun j h1 h2 => by
  rcases Nat.lt_succ_iff_lt_or_eq.1 h2 with h3 | h3
  · exact h j h1 h3
  · subst h3; exact h'

end Go.Proofs.YtmcgfhgpldfknaaDoor
