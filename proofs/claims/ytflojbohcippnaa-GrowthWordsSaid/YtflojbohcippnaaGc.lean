/-
  Layer 10: the walks of both products.
-/
import Derived.Test.YtflojbohcippnaaGb
import Derived.StillTailTactics
namespace Go.Proofs.Ytflojbohcippnaa
open Go.RowKit

theorem squareF_pos {a : List (List Int)} (h : squareF a = true) : a.length ≤ 12 ∧ (∀ r ∈ a, Pos r) ∧ ∀ r ∈ a, r.length = a.length := by
  unfold squareF at h
  rw [Bool.and_eq_true, List.all_eq_true] at h
  refine ⟨of_decide_eq_true h.2, fun r hr v hv => ?_, fun r hr => ?_⟩
  · have h1 := h.1 r hr
    unfold rowOk at h1
    rw [Bool.and_eq_true, List.all_eq_true] at h1
    have h2 := h1.2 v hv
    unfold inRange at h2
    simpa using h2
  · have h1 := h.1 r hr
    unfold rowOk at h1
    rw [Bool.and_eq_true] at h1
    simpa using h1.1

def timesGo (b : List (List Int)) : List (List Int) → Option (List (List Int))
  | [] => some []
  | r :: rs => match prodRow r b with
    | none => none
    | some x => (timesGo b rs).map (x :: ·)
def timesOk (a b : List (List Int)) : Bool := squareF a && squareF b && a.length == b.length

def TimesPost (xs ys : List (List Int)) (w : World) (e : Ending) (w' : World) : Prop :=
  Below w.heap.size w w' ∧ ((timesOk xs ys = false ∧ e = .returned (.tuple #[.slice none 0 0, .int .i64 8])) ∨
    (timesOk xs ys = true ∧ timesGo ys xs = none ∧ e = .returned (.tuple #[.slice none 0 0, .int .i64 16])) ∨
    (timesOk xs ys = true ∧ ∃ r A cap, timesGo ys xs = some r ∧ e = .returned (.tuple #[.slice A r.length cap, .int .i64 0]) ∧ SlAt (pSl (pI .i64)) (fun k => w.heap.size ≤ k ∧ k < w'.heap.size) w' A cap r))

theorem info_sl64 : (Try.prog.info? 27).map (fun i => (i.zero, i.size, i.bytes)) = some (some (.slice none 0 0), 1, 24) := by kernel_rfl

def capdot (x : List Int) (m : List (List Int)) (k j : Nat) : Int := min (dot x m k j) 1000000000000001
theorem capdot_step {x : List Int} {m : List (List Int)} (hx : Pos x) (hm : ∀ r ∈ m, Pos r) (k j : Nat) : addF (capdot x m k j) (x.getD j 0) ((m.getD j []).getD k 0) = capdot x m k (j + 1) := by
  have h1 := dot_nonneg hx hm k j
  have h2 := Int.mul_nonneg (hx.getD j).1 ((PosM.getD hm j).getD k).1
  show min (min (dot x m k j) 1000000000000001 + _) _ = min (dot x m k j + _) _
  omega
theorem capdot_bd {x : List Int} {m : List (List Int)} (hx : Pos x) (hm : ∀ r ∈ m, Pos r) (k j : Nat) : 0 ≤ capdot x m k j ∧ capdot x m k j ≤ 1000000000000001 := by
  have h1 := dot_nonneg hx hm k j
  unfold capdot; omega

end Go.Proofs.Ytflojbohcippnaa
