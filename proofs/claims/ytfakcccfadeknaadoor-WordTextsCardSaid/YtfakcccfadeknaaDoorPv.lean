/-
  Layer 6, plain: the reference's reading of a text, without fuel (for the walk of the reference's Parse).
-/
import Derived.Test.YtfakcccfadeknaaDoorPb
namespace Go.Proofs.YtfakcccfadeknaaDoor
open Go.RowKit

theorem argsR_fuel : ∀ (f f' : Nat) (ag : List Int) (l : List UInt8), l.length ≤ f → l.length ≤ f' → argsR f ag l = argsR f' ag l
  | f, f', ag, [], _, _ => by rw [argsR_nil, argsR_nil]
  | 0, _, _, _ :: _, h, _ => by simp at h
  | _ + 1, 0, _, _ :: _, _, h => by simp at h
  | f + 1, f' + 1, ag, b :: r, h, h' => by
    rw [argsR_cons, argsR_cons]
    split
    · cases hn : numR r with
      | none => rfl
      | some x =>
        obtain ⟨n, r'⟩ := x
        have := (numR_text hn).2
        have h1 : r.length ≤ f := by simpa using h
        have h2 : r.length ≤ f' := by simpa using h'
        exact argsR_fuel f f' _ r' (by omega) (by omega)
    · rfl
def argR (ag : List Int) (l : List UInt8) : Option (List Int × List UInt8) := argsR l.length ag l
theorem argR_nil (ag : List Int) : argR ag [] = some (ag, []) := argsR_nil _ _
theorem argR_step {ag : List Int} {b : UInt8} {r : List UInt8} (h : (b = 40 ∧ ag = []) ∨ (b = 44 ∧ ag ≠ [])) : argR ag (b :: r) = match numR r with
    | none => none
    | some (n, r') => argR (ag ++ [n]) r' := by
  unfold argR
  rw [List.length_cons, argsR_cons, if_pos h]
  cases hn : numR r with
  | none => rfl
  | some x =>
    obtain ⟨n, r'⟩ := x
    have := (numR_text hn).2
    exact argsR_fuel _ _ _ r' (by omega) (by omega)
theorem argR_stop {ag : List Int} {b : UInt8} {r : List UInt8} (h : ¬ ((b = 40 ∧ ag = []) ∨ (b = 44 ∧ ag ≠ []))) : argR ag (b :: r) = some (ag, b :: r) := by
  unfold argR
  rw [List.length_cons, argsR_cons, if_neg h]
theorem modR_arg (c : UInt8) (l : List UInt8) : modR c l = match argR [] l with
    | none => none
    | some (ag, r) => closeR c ag r := rfl
theorem modsR_fuel : ∀ (f f' : Nat) (l : List UInt8), l.length ≤ f → l.length ≤ f' → modsG modR f l = modsG modR f' l
  | f, f', [], _, _ => by rw [modsG_nil, modsG_nil]
  | 0, _, _ :: _, h, _ => by simp at h
  | _ + 1, 0, _ :: _, _, h => by simp at h
  | f + 1, f' + 1, c :: l, h, h' => by
    rw [modsG_cons, modsG_cons]
    cases hm : modR c l with
    | none => rfl
    | some x =>
      obtain ⟨m, r⟩ := x
      have ht := congrArg List.length (modR_text hm)
      have hp : (modL m ++ r).length = (modL m).length + r.length := List.length_append
      have hq : 0 < (modL m).length := by unfold modL; simp
      have h1 : l.length ≤ f := by simpa using h
      have h2 : l.length ≤ f' := by simpa using h'
      simp only [List.length_cons] at ht
      dsimp only
      rw [modsR_fuel f f' r (by omega) (by omega)]
def restR (l : List UInt8) : Option (List Mod) := modsG modR l.length l
theorem restR_nil : restR [] = some [] := rfl
theorem restR_cons (c : UInt8) (l : List UInt8) : restR (c :: l) = match modR c l with
    | none => none
    | some (m, r) => (restR r).map (m :: ·) := by
  unfold restR
  rw [List.length_cons, modsG_cons]
  cases hm : modR c l with
  | none => rfl
  | some x =>
    obtain ⟨m, r⟩ := x
    have ht := congrArg List.length (modR_text hm)
    have hp : (modL m ++ r).length = (modL m).length + r.length := List.length_append
    have hq : 0 < (modL m).length := by unfold modL; simp
    simp only [List.length_cons] at ht
    dsimp only
    rw [modsR_fuel l.length r.length r (by omega) (Nat.le_refl _)]
theorem parseR_rest (s : List UInt8) : parseG modR s = if 50000 < s.length then (([] : List Mod), (12 : Int)) else match restR s with
    | none => ([], 12)
    | some ws => if checkF ws = 0 then (ws, 0) else ([], 12) := rfl
end Go.Proofs.YtfakcccfadeknaaDoor
