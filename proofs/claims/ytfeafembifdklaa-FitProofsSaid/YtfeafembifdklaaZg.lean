/-
  Layer 43: the walks of Lower, Cost and, of the reference, size, In, sum.
-/
import Derived.Test.YtfeafembifdklaaZf
namespace Go.Proofs.Ytfeafembifdklaa
open Go.RowKit Go.Sort


def lowerF (f : Fit) (lo hi : List Int) : Int × Int := if checkFit f = 0 then (if withinF f lo hi = true then (boundF f.terms f.goals lo hi, 0) else (0, 2)) else (0, checkFit f)
theorem checkFit_valid {f : Fit} (h : checkFit f = 0) : validF f = true := by
  unfold checkFit at h
  by_cases hv : validF f = true
  · exact hv
  · rw [if_neg hv] at h; cases h

/-! ### the reference -/
set_option maxHeartbeats 1000000 in
theorem size_calls (v : Int) (w : World) (hv : -9000000000000000000 ≤ v ∧ v ≤ 9000000000000000000) : Calls Try.prog 35 #[.int .i64 v] w fun e w' => e = .returned (.int .i64 (max v (-v))) ∧ w = w' := by
  obtain ⟨v0, v1⟩ := hv
  go_enter Try.func35, Try.ntmps35
  go_wp2
  go_ret
  exact ⟨rfl, rfl⟩

def inF : List Int → List Int → List Int → Bool
  | a :: as', b :: bs, x :: xs => decide (a ≤ x) && decide (x ≤ b) && inF as' bs xs
  | _, _, _ => true
def inB (lo hi x : List Int) : Bool := x.length == lo.length && inF lo hi x
theorem inF_step {as' bs xs : List Int} {a b x : Int} {k : Nat} (h0 : as'.drop k = a :: as'.drop (k + 1)) (h1 : bs.drop k = b :: bs.drop (k + 1)) (h2 : xs.drop k = x :: xs.drop (k + 1)) :
    inF (as'.drop k) (bs.drop k) (xs.drop k) = (decide (a ≤ x) && decide (x ≤ b) && inF (as'.drop (k + 1)) (bs.drop (k + 1)) (xs.drop (k + 1))) := by rw [h0, h1, h2]; rfl
theorem inF_allC : ∀ (as' bs xs : List Int), inF as' bs xs = allC as' bs xs xs
  | [], bs, xs => by cases bs <;> cases xs <;> rfl
  | a :: as', [], xs => by cases xs <;> rfl
  | a :: as', b :: bs, [] => rfl
  | a :: as', b :: bs, x :: xs => by
    unfold inF allC okC
    rw [inF_allC as' bs xs, decide_eq_true (Int.le_refl x), Bool.and_true]
theorem inB_within {f : Fit} {x : List Int} : inB f.lo f.hi x = withinF f x x := by
  unfold inB withinF
  rw [inF_allC]
  cases (x.length == f.lo.length) <;> rfl

def sumF : List Frm → List Int → List Int → Int
  | t :: ts, g :: gs, x => max (worthF t x - g) (-(worthF t x - g)) + sumF ts gs x
  | _, _, _ => 0
theorem sumF_step {ts : List Frm} {gs x : List Int} {t : Frm} {g : Int} {k : Nat} (h1 : ts.drop k = t :: ts.drop (k + 1)) (h2 : gs.drop k = g :: gs.drop (k + 1)) :
    sumF (ts.drop k) (gs.drop k) x = max (worthF t x - g) (-(worthF t x - g)) + sumF (ts.drop (k + 1)) (gs.drop (k + 1)) x := by rw [h1, h2]; rfl
theorem minT_point : ∀ (cs xs : List Int), minT cs xs xs = fdot cs xs ∧ maxT cs xs xs = fdot cs xs
  | [], xs => ⟨rfl, rfl⟩
  | c :: cs, [] => ⟨rfl, rfl⟩
  | c :: cs, x :: xs => by
    have := minT_point cs xs
    unfold minT maxT fdot
    rw [this.1, this.2]
    omega
theorem boundT_point (t : Frm) (g : Int) (x : List Int) : boundT t g x x = max (worthF t x - g) (-(worthF t x - g)) := by
  have := minT_point t.coefs x
  unfold boundT highT lowT worthF
  rw [this.1, this.2]
  omega
theorem sumF_bound : ∀ (ts : List Frm) (gs x : List Int), sumF ts gs x = boundF ts gs x x
  | [], gs, x => by cases gs <;> rfl
  | t :: ts, [], x => rfl
  | t :: ts, g :: gs, x => by
    unfold sumF boundF
    rw [boundT_point, sumF_bound ts gs x]
theorem allB_args : ∀ (xs : List Int), allB xs xs = true → ∀ v ∈ xs, argOk v = true
  | [], _, v, hv => by simp at hv
  | x :: xs, h, v, hv => by
    unfold allB at h
    rw [Bool.and_eq_true] at h
    rcases List.mem_cons.1 hv with rfl | hv
    · have := okB_iff.1 h.1
      exact argOk_iff.2 (by omega)
    · exact allB_args xs h.2 v hv
end Go.Proofs.Ytfeafembifdklaa
