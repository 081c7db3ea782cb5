/-
  Layer 6: the walk of spoil.
-/
import Derived.Test.YtckffdaomjbglaaDoorWh
namespace Go.Proofs.YtckffdaomjbglaaDoor
open Go.RowKit


def SoftInts (F : Nat → Prop) (w : World) (A : Option Addr) (n : Nat) : Prop :=
  ∀ i, i < n → ∃ b o x, A = some ⟨b, o, none⟩ ∧ F b ∧ Unf w b ∧ w.cell? ⟨b, o + i, none⟩ = some (.int .i64 x)
def SoftMods (F : Nat → Prop) (w : World) (A : Option Addr) (n : Nat) : Prop :=
  ∀ i, i < n → ∃ b o nm A' k c', A = some ⟨b, o, none⟩ ∧ F b ∧ Unf w b ∧ w.cell? ⟨b, o + i * 2, none⟩ = some (.int .u8 nm) ∧ w.cell? ⟨b, o + i * 2 + 1, none⟩ = some (.slice A' k c') ∧ k ≤ 9223372036854775807 ∧ SoftInts F w A' k
theorem unf_set {w : World} {b : Nat} (h : Unf w b) (q : Addr) (v : Value) : Unf (w.setCell q v) b := fun o => by rw [World.frozen?_setCell]; exact h o
theorem int_set {w : World} {q a : Addr} {k kk : IntKind} {x y z : Int} (hq : w.cell? q = some (.int kk y)) (h : w.cell? a = some (.int k x)) : ∃ x', (w.setCell q (.int kk z)).cell? a = some (.int k x') := by
  by_cases e : q = a
  · subst e
    rw [hq] at h
    cases h
    exact ⟨z, World.cell?_setCell_same _ _ _ hq⟩
  · exact ⟨x, (World.cell?_setCell_other _ _ _ _ e).trans h⟩
theorem sl_set {w : World} {q a : Addr} {kk : IntKind} {y z : Int} {A : Option Addr} {n c : Nat} (hq : w.cell? q = some (.int kk y)) (h : w.cell? a = some (.slice A n c)) : (w.setCell q (.int kk z)).cell? a = some (.slice A n c) := by
  have e : q ≠ a := fun e => by subst e; rw [hq] at h; cases h
  exact (World.cell?_setCell_other _ _ _ _ e).trans h
theorem SoftInts.set {F : Nat → Prop} {w : World} {A : Option Addr} {n : Nat} (h : SoftInts F w A n) {q : Addr} {kk : IntKind} {y : Int} (hq : w.cell? q = some (.int kk y)) (z : Int) : SoftInts F (w.setCell q (.int kk z)) A n := fun i hi => by
  obtain ⟨b, o, x, h1, h2, h3, h4⟩ := h i hi
  obtain ⟨x', h5⟩ := int_set (z := z) hq h4
  exact ⟨b, o, x', h1, h2, unf_set h3 _ _, h5⟩
theorem SoftMods.set {F : Nat → Prop} {w : World} {A : Option Addr} {n : Nat} (h : SoftMods F w A n) {q : Addr} {kk : IntKind} {y : Int} (hq : w.cell? q = some (.int kk y)) (z : Int) : SoftMods F (w.setCell q (.int kk z)) A n := fun i hi => by
  obtain ⟨b, o, nm, A', k, c', h1, h2, h3, h4, h5, h6, h7⟩ := h i hi
  obtain ⟨nm', h8⟩ := int_set (z := z) hq h4
  exact ⟨b, o, nm', A', k, c', h1, h2, unf_set h3 _ _, h8, sl_set hq h5, h6, h7.set hq z⟩
theorem soft_of {F : Nat → Prop} {w : World} {A : Option Addr} {c : Nat} {ms : List Mod} (h : SlAt pModF F w A c ms) (hu : ∀ a, A = some a → Unf w a.block) : SoftMods F w A ms.length := fun i hi => by
  obtain ⟨b, o, cs, m, _, h1, h2, ⟨A', c', rfl, _, h4, h5⟩, h6⟩ := h.get hi
  refine ⟨b, o, m.name, A', m.args.length, c', h1, h2, hu _ h1, by simpa [pModF] using h6 0 _ rfl, by simpa [pModF] using h6 1 _ rfl, h4.lenle.1, fun j hj => ?_⟩
  obtain ⟨b', o', x, _, g1, g2, g3, _⟩ := h4.getI hj
  exact ⟨b', o', x, g1, g2, h5 (by intro e; rw [e] at hj; simp at hj) _ _ g1, g3⟩

/-- what is not in F is as it was -/
structure Kept (F : Nat → Prop) (w w' : World) : Prop where
  os : w'.os = w.os
  tape : w'.tape = w.tape
  output : w'.output = w.output
  size : w'.heap.size = w.heap.size
  block : ∀ k, ¬ F k → w'.heap[k]? = w.heap[k]?
theorem Kept.refl (F : Nat → Prop) (w : World) : Kept F w w := ⟨rfl, rfl, rfl, rfl, fun _ _ => rfl⟩
theorem Kept.set {F : Nat → Prop} {w w' : World} (h : Kept F w w') {p : Addr} (hp : F p.block) (v : Value) : Kept F w (w'.setCell p v) :=
  ⟨h.os, h.tape, h.output, by simp [World.setCell, h.size], fun k hk => (Below.heap_setCell _ _ _ _ (fun e => hk (by rw [e]; exact hp))).trans (h.block k hk)⟩
theorem Kept.below {F : Nat → Prop} {w w' : World} (h : Kept F w w') {B : Nat} (hF : ∀ k, F k → B ≤ k) : Below B w w' :=
  ⟨h.os, h.tape, h.output, Nat.le_of_eq h.size.symm, fun k hk => h.block k fun hf => absurd (hF k hf) (by omega)⟩

def SpoilPost (F : Nat → Prop) (w : World) (e : Ending) (w' : World) : Prop := e = .returned (.tuple #[]) ∧ Kept F w w'

end Go.Proofs.YtckffdaomjbglaaDoor
