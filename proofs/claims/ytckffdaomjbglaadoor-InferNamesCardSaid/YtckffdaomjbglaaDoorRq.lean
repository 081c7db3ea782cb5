/-
  Layer 7: the walk of the reference's Made.
-/
import Derived.Test.YtckffdaomjbglaaDoorRp
import Derived.Test.YtckffdaomjbglaaDoorM1
namespace Go.Proofs.YtckffdaomjbglaaDoor
open Go.RowKit Go.Sort

def madeR (r : Rul) (m : Mod) : List Mod × Bool := if madeOk r m = true then (madeL r m, true) else ([], false)
def MadePost (r : Rul) (m : Mod) (w : World) (e : Ending) (w' : World) : Prop :=
  ∃ A c, e = .returned (.tuple #[.slice A (madeR r m).1.length c, .bool (madeR r m).2]) ∧ Own pMod 50 w.heap.size (w.heap.size ≤ ·) w' (.slice A (madeR r m).1.length c) (madeR r m).1 ∧ Below w.heap.size w w'
/-- what a rule that fits brings: its forms may be reckoned, its shapes are short -/
theorem fit_sums {r : Rul} {m : Mod} (hco : coreR r = true) (hfit : fitsF r m = true) (hm : m.args.all argOk = true ∧ m.args.length ≤ 4) : (∀ s ∈ r.out, ∀ f ∈ s.args, SumOk f m.args) ∧ ∀ s ∈ r.out, s.args.length ≤ 4 := by
  have har : r.arity = (m.args.length : Int) := by
    unfold fitsF at hfit
    simp only [Bool.and_eq_true, beq_iff_eq] at hfit
    exact hfit.1.2
  refine ⟨fun s hs f hf => ?_, fun s hs => ?_⟩
  · have h1 := (fineR_guards hco).2.2.2 s hs f hf
    rw [har, Int.toNat_natCast] at h1
    exact sumOk h1 hm.1 hm.2
  · have h1 := List.all_eq_true.1 (checkF_iff.1 (core_out hco).1).2.1 _ (List.mem_map.2 ⟨s, hs, rfl⟩)
    have h2 := (fine_args h1).2
    simpa using h2
def okS (args : List Int) (s : Shp) : Bool := s.args.all fun f => argOk (worthF f args)

end Go.Proofs.YtckffdaomjbglaaDoor
