/-
  Layer 7, plain: what forms, rules and the searches for a rule come to. No program is named here but for the words' check.
-/
import Derived.Test.YtlipmagkplbkdaaDoorWb
namespace Go.Proofs.YtlipmagkplbkdaaDoor
open Go.RowKit

def inC (x : Int) : Bool := decide (-1000000 ≤ x) && decide (x ≤ 1000000)
def formF (f : Frm) (n : Nat) : Bool := inC f.const && f.coefs.all inC && f.coefs.length == n
theorem inC_yes {x : Int} (h0 : ¬ x < -1000000) (h1 : ¬ 1000000 < x) : inC x = true := by unfold inC; simp; omega
theorem inC_no {x : Int} (h : x < -1000000 ∨ 1000000 < x) : inC x = false := by unfold inC; simp; omega
theorem inC_iff {x : Int} : inC x = true ↔ -1000000 ≤ x ∧ x ≤ 1000000 := by unfold inC; simp
theorem argOk_iff {x : Int} : argOk x = true ↔ -1000000000 ≤ x ∧ x ≤ 1000000000 := by unfold argOk; simp

def fdot : List Int → List Int → Int
  | c :: cs, x :: xs => c * x + fdot cs xs
  | _, _ => 0
def worthF (f : Frm) (args : List Int) : Int := f.const + fdot f.coefs args

theorem natAbs_le {a : Int} {n : Nat} (h0 : -(n : Int) ≤ a) (h1 : a ≤ n) : a.natAbs ≤ n := by omega
theorem mul_bd {c x : Int} (hc : inC c = true) (hx : argOk x = true) : -1000000000000000 ≤ c * x ∧ c * x ≤ 1000000000000000 := by
  have h1 := inC_iff.1 hc
  have h2 := argOk_iff.1 hx
  have h3 : (c * x).natAbs ≤ 1000000 * 1000000000 := by
    rw [Int.natAbs_mul]
    exact Nat.mul_le_mul (natAbs_le (n := 1000000) (by omega) (by omega)) (natAbs_le (n := 1000000000) (by omega) (by omega))
  omega

def coreR (r : Rul) : Bool :=
  letterB r.name && (r.name != 91) && (r.name != 93) && decide (0 ≤ r.arity) && decide (r.arity ≤ 4) && r.guards.all (fun f => formF f r.arity.toNat) && r.out.all (fun s => s.args.all (fun f => formF f r.arity.toNat)) &&
    checkF (r.out.map fun s => ⟨s.name, List.replicate s.args.length 0⟩) == 0
def bareR (r : Rul) : Bool := r.left == 0 && r.right == 0 && r.weight == 0
def fineR (r : Rul) : Bool := coreR r && bareR r
def manyR (rs : List Rul) : Bool := decide (40 < rs.length) || rs.any (fun r => decide (4 < r.guards.length) || decide (20 < r.out.length))
def checkR (rs : List Rul) : Int := if manyR rs = true then 4 else if rs.all fineR = true then 0 else 8
def valueF (f : Frm) (args : List Int) : Int × Int :=
  if formF f args.length = true ∧ args.all argOk = true ∧ args.length ≤ 4 then
    (if worthF f args < -1000000000 ∨ 1000000000 < worthF f args then (0, 16) else (worthF f args, 0))
  else (0, 8)
def fitsF (r : Rul) (m : Mod) : Bool := r.name == m.name && r.arity == (m.args.length : Int) && r.guards.all (fun g => decide (0 ≤ worthF g m.args))
def firstFrom (m : Mod) : List Rul → Nat → Int
  | [], _ => -1
  | r :: rs, k => if fitsF r m = true then (k : Int) else firstFrom m rs (k + 1)
def firstF (rs : List Rul) (m : Mod) : Int := firstFrom m rs 0
def findF (rs : List Rul) (m : Mod) : Int × Int := if checkR rs = 0 then (if fineF m = true then (firstF rs m, 0) else (0, 8)) else (0, checkR rs)
def greatR (rs : List Rul) : Bool := decide (50 < rs.length) || rs.any (fun r => decide (10 < r.guards.length) || decide (30 < r.out.length) || r.guards.any (fun g => decide (10 < g.coefs.length)) ||
  r.out.any (fun s => decide (10 < s.args.length) || s.args.any (fun f => decide (10 < f.coefs.length))))

theorem letter_byte {m : Mod} (h : fineF m = true) : letterB m.name = true := by
  unfold fineF at h; simp at h; exact h.1.1
/-- a word of one bare module -/
theorem check_one (c : Int) : checkF [⟨c, []⟩] = 0 ↔ letterB c = true ∧ c ≠ 91 ∧ c ≠ 93 := by
  have h1 : fineF ⟨c, []⟩ = letterB c := by unfold fineF shapeOk; simp
  unfold checkF
  cases hl : letterB c
  · simp [h1, hl]
  · by_cases h91 : c = 91
    · subst h91; simp [h1, hl, scan]
    · by_cases h93 : c = 93
      · subst h93; simp [h1, hl, scan]
      · simp [h1, hl, scan, h91, h93]
/-- a word of one module: its check -/
theorem check_mod (m : Mod) : (checkF [m] = 0 ∨ checkF [m] = 28) ↔ fineF m = true := by
  unfold checkF
  cases hf : fineF m
  · simp [hf]
  · by_cases h91 : m.name = 91
    · simp [hf, scan, h91]
    · by_cases h93 : m.name = 93
      · simp [hf, scan, h93]
      · simp [hf, scan, h91, h93]
theorem firstFrom_none {m : Mod} : ∀ {rs : List Rul} {k : Nat}, firstFrom m rs k = -1 ∨ ∃ j : Nat, firstFrom m rs k = (j : Int) ∧ k ≤ j ∧ j < k + rs.length
  | [], k => .inl rfl
  | r :: rs, k => by
    unfold firstFrom
    split
    · exact .inr ⟨k, rfl, Nat.le_refl _, by simp⟩
    · rcases firstFrom_none (m := m) (rs := rs) (k := k + 1) with h | ⟨j, h, h1, h2⟩
      · exact .inl h
      · exact .inr ⟨j, h, by omega, by simp; omega⟩
theorem fineR_guards {r : Rul} (h : coreR r = true) : 0 ≤ r.arity ∧ r.arity ≤ 4 ∧ (∀ g ∈ r.guards, formF g r.arity.toNat = true) ∧ (∀ s ∈ r.out, ∀ f ∈ s.args, formF f r.arity.toNat = true) := by
  unfold coreR at h
  simp only [Bool.and_eq_true, decide_eq_true_eq, List.all_eq_true] at h
  exact ⟨h.1.1.1.1.2, h.1.1.1.2, h.1.1.2, h.1.2⟩
end Go.Proofs.YtlipmagkplbkdaaDoor
