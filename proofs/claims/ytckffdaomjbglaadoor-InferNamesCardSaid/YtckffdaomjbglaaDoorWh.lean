/-
  Layer 6: the walks of Join and of the reference's Join.
-/
import Derived.Test.YtckffdaomjbglaaDoorM1
namespace Go.Proofs.YtckffdaomjbglaaDoor
open Go.RowKit

theorem Own.mono {α : Type} {E : Rp α} {w : World} {e : TypeId} {base base' : Nat} {G G' : Nat → Prop} {v : Value} {xs : List α} (h : Own E e base G w v xs) (hb : base' ≤ base) (hG : ∀ k, G k → G' k) : Own E e base' G' w v xs := by
  obtain ⟨cells, ⟨h1, h2⟩, h3⟩ := h
  refine ⟨cells, ⟨h1, ?_⟩, h3.wide fun k hk => ⟨hG k hk.1, hk.2⟩⟩
  rcases h2 with h2 | ⟨g, cap, cur, hv, hg, r⟩
  · exact .inl h2
  · exact .inr ⟨g, cap, cur, hv, Nat.le_trans hb hg, r⟩

def joinRes (a b : List Mod) : List Mod × Int :=
  if checkF a = 0 then (if checkF b = 0 then (if 2000 < a.length + b.length then ([], 4) else (a ++ b, 0)) else ([], checkF b)) else ([], checkF a)
theorem joinRes_a {a b : List Mod} (h : ¬ checkF a = 0) : joinRes a b = ([], checkF a) := by unfold joinRes; rw [if_neg h]
theorem joinRes_b {a b : List Mod} (h : checkF a = 0) (h' : ¬ checkF b = 0) : joinRes a b = ([], checkF b) := by unfold joinRes; rw [if_pos h, if_neg h']
theorem joinRes_many {a b : List Mod} (h : checkF a = 0) (h' : checkF b = 0) (hb : 2000 < a.length + b.length) : joinRes a b = ([], 4) := by unfold joinRes; rw [if_pos h, if_pos h', if_pos hb]
theorem joinRes_ok {a b : List Mod} (h : checkF a = 0) (h' : checkF b = 0) (hb : ¬ 2000 < a.length + b.length) : joinRes a b = (a ++ b, 0) := by unfold joinRes; rw [if_pos h, if_pos h', if_neg hb]

def JoinPost (E : Rp Mod) (xs ys : List Mod) (w : World) (e : Ending) (w' : World) : Prop :=
  ∃ A c, e = .returned (.tuple #[.slice A (joinRes xs ys).1.length c, .int .i64 (joinRes xs ys).2]) ∧ Own E 50 w.heap.size (w.heap.size ≤ ·) w' (.slice A (joinRes xs ys).1.length c) (joinRes xs ys).1 ∧ Below w.heap.size w w'

end Go.Proofs.YtckffdaomjbglaaDoor
