/-
  Layer 6, plain: a joint word is valid just if its parts are. No walk.
-/
import Derived.Test.YtipdppkoodlkcaaDoorPh
import Derived.Test.YtipdppkoodlkcaaDoorWh
namespace Go.Proofs.YtipdppkoodlkcaaDoor
open Go.RowKit

theorem scan_cons (n : Nat) (m : Mod) (ms : List Mod) : scan n (m :: ms) = if m.name = 91 then scan (n + 1) ms else if m.name = 93 then (if n = 0 then none else scan (n - 1) ms) else scan n ms := rfl
theorem scan_more : ∀ (a b : List Mod) (n : Nat), scan n (a ++ b) = (scan n a).bind (fun k => scan k b)
  | [], b, n => rfl
  | m :: a, b, n => by
    rw [List.cons_append, scan_cons, scan_cons]
    split
    · exact scan_more a b _
    · split
      · split
        · rfl
        · exact scan_more a b _
      · exact scan_more a b _
theorem check_parts {w : List Mod} : checkF w = 0 ↔ w.length ≤ 2000 ∧ w.all fineF = true ∧ scan 0 w = some 0 := by
  unfold checkF
  by_cases h1 : 2000 < w.length
  · rw [if_pos h1]; constructor
    · intro h; cases h
    · rintro ⟨h, _⟩; omega
  · rw [if_neg h1]
    cases h2 : w.all fineF
    · simp
    · rw [if_neg (by decide)]
      cases h3 : scan 0 w with
      | none => simp
      | some n =>
        cases n with
        | zero => simp; omega
        | succ n => simp
theorem check_join {a b : List Mod} (ha : checkF a = 0) (hb : checkF b = 0) (hl : ¬ 2000 < a.length + b.length) : checkF (a ++ b) = 0 := by
  obtain ⟨_, a2, a3⟩ := check_parts.1 ha
  obtain ⟨_, b2, b3⟩ := check_parts.1 hb
  refine check_parts.2 ⟨by rw [List.length_append]; omega, by rw [List.all_append, a2, b2]; rfl, by rw [scan_more, a3]; exact b3⟩
end Go.Proofs.YtipdppkoodlkcaaDoor
