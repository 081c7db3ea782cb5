/-
  Layer 6: the walk of word.Strip.
-/
import Derived.Test.YtmcgfhgpldfknaaDoorWq
namespace Go.Proofs.YtmcgfhgpldfknaaDoor
open Go.RowKit

theorem closeIs_open {ms : List Mod} {n : Nat} {m : Mod} {r : Int × Int} (hc : checkF ms = 0) (hm : ms[n]? = some m) (h91 : m.name = 91) (h : CloseIs ms n r) : ∃ k : Nat, Fwd ms n k ∧ r = ((k : Int), 0) := by
  have hn := (List.getElem?_eq_some_iff.1 hm).1
  rcases h with ⟨h1, _⟩ | ⟨_, h2, _⟩ | ⟨_, n', m', hnn, h3, h4⟩
  · exact absurd hc h1
  · omega
  · have : n' = n := by omega
    subst this
    rw [hm] at h3; cases h3
    rcases h4 with ⟨a1, _⟩ | ⟨_, k, a2, a3⟩ | ⟨a1, _⟩
    · exact absurd h91 a1
    · exact ⟨k, a2, a3⟩
    · omega

end Go.Proofs.YtmcgfhgpldfknaaDoor
