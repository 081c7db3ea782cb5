/-
  Several texts in one.
-/
import Derived.Test.YtlipmagkplbkdaaDoorZ8
/-! Fh -/
namespace Go.Proofs.YtlipmagkplbkdaaDoor
open Go.RowKit Go.Sort
end Go.Proofs.YtlipmagkplbkdaaDoor

/-! Fi -/
namespace Go.Proofs.YtlipmagkplbkdaaDoor
open Go.RowKit Go.Sort
def gF (g : Frm) : Bool := decide (10 < g.coefs.length)
def gS (s : Shp) : Bool := decide (10 < s.args.length) || s.args.any gF
def gB (r : Rul) : Bool := decide (10 < r.guards.length) || decide (30 < r.out.length) || r.guards.any gF || r.out.any gS
theorem greatR_eq (rs : List Rul) : greatR rs = (decide (50 < rs.length) || rs.any gB) := rfl
theorem small_of {rs : List Rul} (h : greatR rs = false) : Small rs := by
  rw [greatR_eq, Bool.or_eq_false_iff, List.any_eq_false] at h
  have hB : ∀ r ∈ rs, r.guards.length ≤ 10 ∧ r.out.length ≤ 30 ∧ ∀ s ∈ r.out, s.args.length ≤ 10 := by
    intro r hr
    have := h.2 r hr
    unfold gB at this
    simp only [Bool.or_eq_true, decide_eq_true_eq, List.any_eq_true, not_or, not_exists, not_and] at this
    refine ⟨by omega, by omega, fun s hs => ?_⟩
    have h2 := this.2 s hs
    unfold gS at h2
    simp only [Bool.or_eq_true, decide_eq_true_eq, not_or] at h2
    omega
  exact ⟨by have := h.1; simp at this; omega, fun r hr => (hB r hr).1, fun r hr => (hB r hr).2.1, fun r hr => (hB r hr).2.2⟩
end Go.Proofs.YtlipmagkplbkdaaDoor

/-! Hk -/
namespace Go.Proofs.YtlipmagkplbkdaaDoor
open Go.RowKit Go.Sort
set_option linter.unusedVariables false
end Go.Proofs.YtlipmagkplbkdaaDoor
