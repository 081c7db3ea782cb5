/-
  Layer 6: the trunk (plain), the walks of Strip.
-/
import Derived.Test.YtmcgfhgpldfknaaDoorWo
namespace Go.Proofs.YtmcgfhgpldfknaaDoor
open Go.RowKit

def trunk (d : Int) : List Mod → List Mod
  | [] => []
  | m :: ms => if d + delta m = 0 ∧ ¬ m.name = 93 then m :: trunk (d + delta m) ms else trunk (d + delta m) ms
theorem trunk_keep {d : Int} {m : Mod} {ms : List Mod} (h : d + delta m = 0) (h' : ¬ m.name = 93) : trunk d (m :: ms) = m :: trunk (d + delta m) ms := by
  conv => lhs; unfold trunk
  rw [if_pos ⟨h, h'⟩]
theorem trunk_drop {d : Int} {m : Mod} {ms : List Mod} (h : ¬ (d + delta m = 0 ∧ ¬ m.name = 93)) : trunk d (m :: ms) = trunk (d + delta m) ms := by
  conv => lhs; unfold trunk
  rw [if_neg h]
theorem trunk_skip {ms : List Mod} {i k : Nat} (h0 : dep ms i = 0) (hF : Fwd ms i k) (hi : ∀ m, ms[i]? = some m → m.name = 91) : trunk 0 (ms.drop i) = trunk 0 (ms.drop (k + 1)) := by
  obtain ⟨a1, a2, a3, a4⟩ := hF
  rw [h0] at a3 a4
  have step : ∀ t, i + t ≤ k + 1 → trunk 0 (ms.drop i) = trunk (dep ms (i + t)) (ms.drop (i + t)) := by
    intro t
    induction t with
    | zero => intro _; rw [Nat.add_zero, h0]
    | succ t ih =>
      intro ht
      rw [ih (by omega)]
      have hlt : i + t < ms.length := by omega
      obtain ⟨m, hm⟩ : ∃ m, ms.drop (i + t) = m :: ms.drop (i + t + 1) := ⟨_, List.drop_eq_getElem_cons hlt⟩
      have hs := dep_succ hm
      rw [hm, trunk_drop, ← hs]; rfl
      rintro ⟨h1, h2⟩
      rw [← hs] at h1
      by_cases hk : i + t < k
      · have := a4 (i + t) (by omega) hk; omega
      · have hke : i + t = k := by omega
        have hpos : 0 ≤ dep ms k := by
          rcases Nat.eq_or_lt_of_le a1 with h3 | h3
          · rw [← h3, h0]; omega
          · have := a4 (k - 1) (by omega) (by omega)
            rw [show k - 1 + 1 = k from by omega] at this; omega
        rw [hke] at hs hm h1
        by_cases h91 : m.name = 91
        · rw [delta_open h91] at hs; omega
        · rw [delta_else h91 h2] at hs
          rcases Nat.eq_or_lt_of_le a1 with h3 | h3
          · subst h3
            exact h91 (hi m (get_of_drop hm))
          · have := a4 (k - 1) (by omega) (by omega)
            rw [show k - 1 + 1 = k from by omega] at this; omega
  have := step (k + 1 - i) (by omega)
  rw [this, show i + (k + 1 - i) = k + 1 from by omega, a3]
theorem trunk_len : ∀ (ms : List Mod) (d : Int), (trunk d ms).length ≤ ms.length
  | [], _ => Nat.le_refl _
  | m :: ms, d => by
    unfold trunk
    have := trunk_len ms (d + delta m)
    split <;> simp <;> omega
theorem trunk_mem : ∀ (ms : List Mod) (d : Int) (m : Mod), m ∈ trunk d ms → m ∈ ms
  | [], _, _, h => by cases h
  | x :: ms, d, m, h => by
    unfold trunk at h
    split at h
    · rcases List.mem_cons.1 h with h | h
      · exact List.mem_cons.2 (.inl h)
      · exact List.mem_cons.2 (.inr (trunk_mem ms _ m h))
    · exact List.mem_cons.2 (.inr (trunk_mem ms _ m h))
end Go.Proofs.YtmcgfhgpldfknaaDoor
