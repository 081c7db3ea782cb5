/-
  Layer 7: the walks of find, Fits, First.
-/
import Derived.Test.YtckffdaomjbglaaFf
import Derived.Test.YtckffdaomjbglaaFe
import Derived.Deep.LoopGhost
namespace Go.Proofs.Ytckffdaomjbglaa
open Go.RowKit Go.Sort

theorem fitsF_name {r : Rul} {m : Mod} (h : (r.name != m.name) = true) : fitsF r m = false := by
  have h' : (r.name == m.name) = false := by simpa using h
  unfold fitsF; rw [h']; rfl
theorem fitsF_arity {r : Rul} {m : Mod} (h : (r.arity != (m.args.length : Int)) = true) : fitsF r m = false := by
  have h' : (r.arity == (m.args.length : Int)) = false := by simpa using h
  unfold fitsF; rw [h', Bool.and_false, Bool.false_and]
theorem fitsF_else {r : Rul} {m : Mod} (h1 : (r.name != m.name) = false) (h2 : (r.arity != (m.args.length : Int)) = false) : fitsF r m = r.guards.all (fun g => decide (0 ≤ worthF g m.args)) := by
  have h3 : (r.name == m.name) = true := by simpa using h1
  have h4 : (r.arity == (m.args.length : Int)) = true := by simpa using h2
  unfold fitsF; rw [h3, h4]; rfl
theorem firstFrom_no {m : Mod} {r : Rul} {rs : List Rul} {k : Nat} (h : fitsF r m = false) : firstFrom m (r :: rs) k = firstFrom m rs (k + 1) := by
  conv => lhs; unfold firstFrom
  rw [if_neg (by rw [h]; decide)]
theorem firstFrom_yes {m : Mod} {r : Rul} {rs : List Rul} {k : Nat} (h : fitsF r m = true) : firstFrom m (r :: rs) k = (k : Int) := by
  unfold firstFrom
  rw [if_pos h]
/-- a guard of a rule that has the module's arity -/
theorem guardOk {r : Rul} {m : Mod} (h : coreR r = true) (ha : (r.arity != (m.args.length : Int)) = false) (hm : m.args.all argOk = true ∧ m.args.length ≤ 4) {g : Frm} (hg : g ∈ r.guards) : SumOk g m.args := by
  have h4 : r.arity = (m.args.length : Int) := by simpa using ha
  have := (fineR_guards h).2.2.1 g hg
  rw [h4, Int.toNat_natCast] at this
  exact sumOk this hm.1 hm.2
theorem fine_args {m : Mod} (h : fineF m = true) : m.args.all argOk = true ∧ m.args.length ≤ 4 := by
  unfold fineF shapeOk at h
  simp only [Bool.and_eq_true, Bool.or_eq_true, beq_iff_eq, decide_eq_true_eq] at h
  refine ⟨h.1.2, ?_⟩
  rcases h.2 with h | h
  · omega
  · exact h.1.1

end Go.Proofs.Ytckffdaomjbglaa
