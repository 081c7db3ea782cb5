/-
  Layers 16 and 17, plain: vectors, the 24 turns, frames. No walk.
-/
import Derived.Test.YtldccpmnboebmaaDoorBase
namespace Go.Proofs.YtldccpmnboebmaaDoor
open Go.RowKit
set_option linter.unusedVariables false

abbrev V3 := Int × Int × Int
abbrev M3 := V3 × V3 × V3
def addV (a b : V3) : V3 := (a.1 + b.1, a.2.1 + b.2.1, a.2.2 + b.2.2)
def mulV (n : Int) (v : V3) : V3 := (n * v.1, n * v.2.1, n * v.2.2)
def crossV (a b : V3) : V3 := (a.2.1 * b.2.2 - a.2.2 * b.2.1, a.2.2 * b.1 - a.1 * b.2.2, a.1 * b.2.1 - a.2.1 * b.1)
def dotV (a b : V3) : Int := a.1 * b.1 + a.2.1 * b.2.1 + a.2.2 * b.2.2
def sgnV (d : Nat) : Int := if d % 2 = 0 then 1 else -1
def dirV (d : Nat) : V3 := if d / 2 = 0 then (sgnV d, 0, 0) else if d / 2 = 1 then (0, sgnV d, 0) else (0, 0, sgnV d)
def secN (t : Nat) : Nat := if t / 4 / 2 * 2 ≤ t % 4 then t % 4 + 2 else t % 4
def axT (t : Nat) : M3 := (dirV (t / 4), dirV (secN t), crossV (dirV (t / 4)) (dirV (secN t)))
def sumV (m : M3) (v : V3) : V3 := (v.1 * m.1.1 + v.2.1 * m.2.1.1 + v.2.2 * m.2.2.1, v.1 * m.1.2.1 + v.2.1 * m.2.1.2.1 + v.2.2 * m.2.2.2.1, v.1 * m.1.2.2 + v.2.1 * m.2.1.2.2 + v.2.2 * m.2.2.2.2)
def turnOf (m : M3) : Option Nat := (List.range 24).find? fun t => decide (axT t = m)
def namedF (m : M3) : Nat := (turnOf m).getD 0
def inV (lo : Int) (v : V3) : Bool := decide (lo ≤ v.1) && decide (lo ≤ v.2.1) && decide (lo ≤ v.2.2) && decide (v.1 ≤ 1000000) && decide (v.2.1 ≤ 1000000) && decide (v.2.2 ≤ 1000000)
theorem inV_iff {lo : Int} {v : V3} : inV lo v = true ↔ (lo ≤ v.1 ∧ v.1 ≤ 1000000) ∧ (lo ≤ v.2.1 ∧ v.2.1 ≤ 1000000) ∧ (lo ≤ v.2.2 ∧ v.2.2 ≤ 1000000) := by
  unfold inV
  simp only [Bool.and_eq_true, decide_eq_true_eq]
  omega

/-- a frame: its turn and its place -/
abbrev Fr := Int × V3
def checkFr (f : Fr) : Int := if f.1 < 24 then (if inV (-1000000) f.2 = true then 0 else 8) else 8
theorem checkFr_ok {f : Fr} (h : checkFr f = 0) : f.1 < 24 ∧ inV (-1000000) f.2 = true := by
  unfold checkFr at h
  by_cases h1 : f.1 < 24
  · rw [if_pos h1] at h
    by_cases h2 : inV (-1000000) f.2 = true
    · exact ⟨h1, h2⟩
    · rw [if_neg h2] at h; cases h
  · rw [if_neg h1] at h; cases h
def imageF (f : Fr) (v : V3) : V3 := addV (sumV (axT f.1.toNat) v) f.2
def applyF (f : Fr) (v : V3) : V3 × Int :=
  if checkFr f = 0 then (if inV (-1000000) v = true then (if inV (-1000000) (imageF f v) = true then (imageF f v, 0) else ((0, 0, 0), 16)) else ((0, 0, 0), 2)) else ((0, 0, 0), checkFr f)
def compT (a b : Nat) : M3 := (sumV (axT b) (axT a).1, sumV (axT b) (axT a).2.1, sumV (axT b) (axT a).2.2)
def composeF (f g : Fr) : Fr := ((namedF (compT f.1.toNat g.1.toNat) : Int), imageF g f.2)
def withinF (f g : Fr) : Fr × Int :=
  if checkFr f = 0 then (if checkFr g = 0 then (if checkFr (composeF f g) = 0 then (composeF f g, 0) else ((0, 0, 0, 0), 16)) else ((0, 0, 0, 0), checkFr g)) else ((0, 0, 0, 0), checkFr f)

def one3 (x : Int) : Bool := x == 0 || x == 1 || x == -1
def unitV (v : V3) : Bool := one3 v.1 && one3 v.2.1 && one3 v.2.2
def unitM (m : M3) : Bool := unitV m.1 && unitV m.2.1 && unitV m.2.2
theorem axT_unit : ∀ t : Fin 24, unitM (axT t.val) = true := by decide +kernel
theorem compT_named : ∀ a b : Fin 24, (turnOf (compT a.val b.val)).isSome = true := by decide +kernel
theorem turnOf_lt {m : M3} {t : Nat} (h : turnOf m = some t) : t < 24 ∧ axT t = m := by
  unfold turnOf at h
  have h1 := List.mem_of_find?_eq_some h
  have h2 := List.find?_some h
  exact ⟨by simpa using h1, by simpa using h2⟩
theorem namedF_lt (m : M3) : namedF m < 24 := by
  unfold namedF
  cases h : turnOf m with
  | none => decide
  | some t => exact (turnOf_lt h).1
/-- the rows of a turn, with signs: an image is a permuted vector with signs -/
def permB (t : Nat) (v : V3) : Bool := inV (-1000000) v
theorem one3_mul {x v : Int} (h : one3 x = true) (hv : -1000000 ≤ v ∧ v ≤ 1000000) : -1000000 ≤ v * x ∧ v * x ≤ 1000000 := by
  unfold one3 at h
  simp only [Bool.or_eq_true, beq_iff_eq] at h
  rcases h with (h | h) | h
  · subst h; omega
  · subst h; omega
  · subst h; omega
end Go.Proofs.YtldccpmnboebmaaDoor
