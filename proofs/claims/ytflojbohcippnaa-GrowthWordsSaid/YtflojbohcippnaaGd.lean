/-
  GrowthTimes, the walk of the law: it returns true.
-/
import Derived.Test.YtflojbohcippnaaGc
namespace Go.Proofs.Ytflojbohcippnaa
open Go.RowKit

/-- what both products return: the error and the matrix (empty with an error) -/
def timesRes (xs ys : List (List Int)) : Int × List (List Int) :=
  if timesOk xs ys = false then (8, []) else match timesGo ys xs with
  | none => (16, [])
  | some r => (0, r)
theorem times_uniform {xs ys : List (List Int)} {w0 w1 : World} {e : Ending} (h : TimesPost xs ys w0 e w1) :
    Below w0.heap.size w0 w1 ∧ ∃ (A : Option Addr) (c : Nat), e = .returned (.tuple #[.slice A (timesRes xs ys).2.length c, .int .i64 (timesRes xs ys).1]) ∧ SlAt (pSl (pI .i64)) (Old w1) w1 A c (timesRes xs ys).2 := by
  have nil : ∀ w : World, SlAt (pSl (pI .i64)) (Old w) w none 0 ([] : List (List Int)) := fun w => ⟨Nat.le_refl _, Nat.zero_le _, (fun _ => rfl), fun i x hx => by simp at hx⟩
  obtain ⟨hb, ⟨h1, rfl⟩ | ⟨h1, h2, rfl⟩ | ⟨h1, r, A, c, h2, rfl, h3⟩⟩ := h
  · have : timesRes xs ys = (8, []) := by unfold timesRes; rw [if_pos h1]
    rw [this]; exact ⟨hb, none, 0, rfl, nil _⟩
  · have : timesRes xs ys = (16, []) := by unfold timesRes; rw [if_neg (by rw [h1]; decide), h2]
    rw [this]; exact ⟨hb, none, 0, rfl, nil _⟩
  · have : timesRes xs ys = (0, r) := by unfold timesRes; rw [if_neg (by rw [h1]; decide), h2]
    rw [this]; exact ⟨hb, A, c, rfl, h3.wide fun k hk => hk.2⟩

theorem greatMat_no {a : List (List Int)} (h : greatMat a = false) : a.length ≤ 30 ∧ ∀ r ∈ a, r.length ≤ 30 := by
  unfold greatMat at h
  rw [Bool.or_eq_false_iff, List.any_eq_false] at h
  refine ⟨by simpa using h.2, fun r hr => by simpa using h.1 r hr⟩

theorem opens_mat : Opens Try.prog 42 (pSl (pSl (pI .i64))) :=
  opens_slice Try.underlying42 (by kernel_rfl) (by decide) (opens_slice Try.underlying27 (by kernel_rfl) (by decide) (opens_int Try.underlying2))

end Go.Proofs.Ytflojbohcippnaa
