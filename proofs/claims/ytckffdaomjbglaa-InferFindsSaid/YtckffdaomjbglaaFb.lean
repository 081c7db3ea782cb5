/-
  Layer 7: the walks of worth, Worth, Form.
-/
import Derived.Test.YtckffdaomjbglaaFa
import Derived.IntWalk
namespace Go.Proofs.Ytckffdaomjbglaa
open Go.RowKit

/-- what a valid form and arguments in range give to a sum's loop -/
structure SumOk (f : Frm) (args : List Int) : Prop where
  c : -1000000 ≤ f.const ∧ f.const ≤ 1000000
  k : ∀ x ∈ f.coefs, inC x = true
  n : f.coefs.length = args.length
  a : ∀ x ∈ args, argOk x = true
  l : args.length ≤ 4
theorem sumOk {f : Frm} {args : List Int} (h1 : formF f args.length = true) (h2 : args.all argOk = true) (h3 : args.length ≤ 4) : SumOk f args := by
  unfold formF at h1
  simp only [Bool.and_eq_true, List.all_eq_true, beq_iff_eq] at h1
  exact ⟨inC_iff.1 h1.1.1, h1.1.2, h1.2, List.all_eq_true.1 h2, h3⟩
theorem fdot_cons {cs xs : List Int} {c x : Int} {k : Nat} (h1 : cs.drop k = c :: cs.drop (k + 1)) (h2 : xs.drop k = x :: xs.drop (k + 1)) : fdot (cs.drop k) (xs.drop k) = c * x + fdot (cs.drop (k + 1)) (xs.drop (k + 1)) := by
  rw [h1, h2]; rfl
theorem fdot_bd : ∀ {cs xs : List Int}, (∀ x ∈ cs, inC x = true) → (∀ x ∈ xs, argOk x = true) → -(xs.length : Int) * 1000000000000000 ≤ fdot cs xs ∧ fdot cs xs ≤ (xs.length : Int) * 1000000000000000
  | [], xs, _, _ => by have : fdot [] xs = 0 := rfl
                       rw [this]; omega
  | c :: cs, [], _, _ => by have : fdot (c :: cs) [] = 0 := rfl
                            rw [this]; simp
  | c :: cs, x :: xs, h1, h2 => by
    have h3 := mul_bd (h1 c (by simp)) (h2 x (by simp))
    have h4 := fdot_bd (cs := cs) (xs := xs) (fun y hy => h1 y (by simp [hy])) (fun y hy => h2 y (by simp [hy]))
    unfold fdot; simp only [List.length_cons]; omega
theorem worth_bd {f : Frm} {args : List Int} (h : SumOk f args) : -4000000001000000 ≤ worthF f args ∧ worthF f args ≤ 4000000001000000 := by
  have := fdot_bd h.k h.a
  have := h.l; have := h.c
  unfold worthF; omega

end Go.Proofs.Ytckffdaomjbglaa
