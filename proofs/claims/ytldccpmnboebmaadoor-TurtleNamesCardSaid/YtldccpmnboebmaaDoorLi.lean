/-
  Literals: a chain of blocks laid one after the other, and how slice literals lie in them. No program is named here.
-/
import Derived.Test.YtldccpmnboebmaaDoorBase
namespace Go.Proofs.YtldccpmnboebmaaDoor
open Go.RowKit

/-- a slice literal: a block known whole -/
theorem sl_lit {α : Type} {E : Rp α} {F : Nat → Prop} {w : World} {g : Nat} {t : TypeId} {cells : Array Value} {xs : List α} (h : Blk w g t cells) (hc : CellsAre E F w cells.toList xs) (hF : F g) (hm : xs.length ≤ maxLen) {n : Nat} (hn : xs.length = n) : SlAt E F w (some ⟨g, 0, none⟩) n xs := by
  subst hn
  refine ⟨Nat.le_refl _, hm, (fun e => by cases e), fun i x hx => ?_⟩
  obtain ⟨cs, h1, h2⟩ := hc.get hx
  refine ⟨g, 0, cs, rfl, hF, h1, fun j c hj => ?_⟩
  rw [h.cell, Nat.zero_add]
  have := h2 j c hj
  simpa using this
theorem sl_none {α : Type} {E : Rp α} {F : Nat → Prop} {w : World} : SlAt E F w none 0 ([] : List α) := ⟨Nat.le_refl _, Nat.zero_le _, fun _ => rfl, fun i x hx => by simp at hx⟩
theorem fits_lit {xs : List Int} (h : (xs.all fun x => decide (-9223372036854775808 ≤ x) && decide (x ≤ 9223372036854775807)) = true) : ∀ x ∈ xs, Fits .i64 x := by
  intro x hx
  have := List.all_eq_true.1 h x hx
  simp only [Bool.and_eq_true, decide_eq_true_eq] at this
  exact fits_i64 this
theorem ints_lit {F : Nat → Prop} {w : World} {xs : List Int} (h : (xs.all fun x => decide (-9223372036854775808 ≤ x) && decide (x ≤ 9223372036854775807)) = true) : CellsAre (pI .i64) F w (xs.map (Value.int .i64)) xs := cellsAre_ints (fits_lit h)
/-- blocks laid one after the other -/
def chainW (w : World) : List Obj → World
  | [] => w
  | o :: os => chainW (w.alloc o) os
theorem chainW_size : ∀ (os : List Obj) (w : World), (chainW w os).heap.size = w.heap.size + os.length
  | [], w => rfl
  | o :: os, w => by unfold chainW; rw [chainW_size os]; simp; omega
theorem chainW_below : ∀ (os : List Obj) (w : World), Below w.heap.size w (chainW w os)
  | [], w => Below.refl _ _
  | o :: os, w => by unfold chainW; exact ((Below.refl _ _).alloc (Nat.le_refl _) _).trans ((chainW_below os (w.alloc o)).mono (by simp))
theorem chainW_blk : ∀ (os : List Obj) (w : World) (i : Nat) (cs : Array Value) (t : TypeId), os[i]? = some (.cells cs t) → Blk (chainW w os) (w.heap.size + i) t cs
  | [], w, i, cs, t, h => by simp at h
  | o :: os, w, 0, cs, t, h => by
    simp at h; subst h
    unfold chainW
    exact (Blk.new w t cs).same ((chainW_below os (w.alloc (.cells cs t))).block _ (by simp))
  | o :: os, w, i + 1, cs, t, h => by
    unfold chainW
    have := chainW_blk os (w.alloc o) i cs t (by simpa using h)
    rw [show (w.alloc o).heap.size + i = w.heap.size + (i + 1) from by simp; omega] at this
    exact this
end Go.Proofs.YtldccpmnboebmaaDoor
