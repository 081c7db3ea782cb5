/-
  Layer 43: how fits and cubes lie in cells, and, plain, what valid fits are and how many tries they have.
-/
import Derived.Test.YtfeafembifdklaaFf
import Derived.Test.YtfeafembifdklaaOwn
namespace Go.Proofs.Ytfeafembifdklaa
open Go.RowKit Go.Sort

structure Fit where
  lo : List Int
  hi : List Int
  terms : List Frm
  goals : List Int
structure Cub where
  lo : List Int
  hi : List Int
  deriving DecidableEq
structure FitAt (f : Fit) (F : Nat → Prop) (w : World) (A1 : Option Addr) (c1 : Nat) (A2 : Option Addr) (c2 : Nat) (A3 : Option Addr) (c3 : Nat) (A4 : Option Addr) (c4 : Nat) : Prop where
  l : SlAt (pI .i64) F w A1 c1 f.lo
  h : SlAt (pI .i64) F w A2 c2 f.hi
  t : SlAt pFrm F w A3 c3 f.terms
  g : SlAt (pI .i64) F w A4 c4 f.goals
section
variable {f : Fit} {F : Nat → Prop} {w w' : World} {A1 A2 A3 A4 : Option Addr} {c1 c2 c3 c4 : Nat}
theorem FitAt.later (h : FitAt f (Old w) w A1 c1 A2 c2 A3 c3 A4 c4) (hb : Below w.heap.size w w') : FitAt f (Old w') w' A1 c1 A2 c2 A3 c3 A4 c4 := ⟨h.l.later hb, h.h.later hb, h.t.later hb, h.g.later hb⟩
theorem FitAt.below (h : FitAt f (Old w) w A1 c1 A2 c2 A3 c3 A4 c4) (hb : Below w.heap.size w w') : FitAt f (Old w) w' A1 c1 A2 c2 A3 c3 A4 c4 := ⟨h.l.below hb, h.h.below hb, h.t.below hb, h.g.below hb⟩
end
def pCub : Rp Cub where
  n := 2
  R F w cs m := ∃ A c A' c', cs = [.slice A m.lo.length c, .slice A' m.hi.length c'] ∧ SlAt (pI .i64) F w A c m.lo ∧ SlAt (pI .i64) F w A' c' m.hi
  len := by rintro F w cs x ⟨A, c, A', c', rfl, _⟩; rfl
  keep := by rintro F w w' cs x ⟨A, c, A', c', rfl, h1, h2⟩ k; exact ⟨A, c, A', c', rfl, h1.keep k, h2.keep k⟩
  wide := by rintro F F' w cs x ⟨A, c, A', c', rfl, h1, h2⟩ k; exact ⟨A, c, A', c', rfl, h1.wide k, h2.wide k⟩
  one := by
    rintro F w cs x ⟨A, c, A', c', rfl, _⟩ v hv
    simp at hv; rcases hv with rfl | rfl <;> rfl
theorem SlAt.getCub {F : Nat → Prop} {w : World} {A : Option Addr} {cap : Nat} {xs : List Cub} (h : SlAt pCub F w A cap xs) {i : Nat} (hi : i < xs.length) :
    ∃ b o A' c' A'' c'' m, Hid (xs.drop i = m :: xs.drop (i + 1)) ∧ A = some ⟨b, o, none⟩ ∧ F b ∧ w.cell? ⟨b, o + i * 2, none⟩ = some (.slice A' m.lo.length c') ∧ w.cell? ⟨b, o + i * 2 + 1, none⟩ = some (.slice A'' m.hi.length c'') ∧
      Hid (SlAt (pI .i64) F w A' c' m.lo) ∧ Hid (SlAt (pI .i64) F w A'' c'' m.hi) ∧ m.lo.length ≤ 9223372036854775807 ∧ m.hi.length ≤ 9223372036854775807 := by
  obtain ⟨b, o, cs, x, h0, h1, h2, ⟨A', c', A'', c'', rfl, h3, h5⟩, h4⟩ := h.get hi
  exact ⟨b, o, A', c', A'', c'', x, h0, h1, h2, by simpa [pCub] using h4 0 _ rfl, by simpa [pCub] using h4 1 _ rfl, h3, h5, h3.lenle.1, h5.lenle.1⟩

theorem Blk.two {w : World} {g : Nat} {t : TypeId} {a0 a1 : Value} (h : Blk w g t #[a0, a1]) : w.cell? ⟨g, 0, none⟩ = some a0 ∧ w.cell? ⟨g, 1, none⟩ = some a1 := ⟨h.cell 0, h.cell 1⟩
theorem Blk.four {w : World} {g : Nat} {t : TypeId} {a0 a1 a2 a3 : Value} (h : Blk w g t #[a0, a1, a2, a3]) : w.cell? ⟨g, 0, none⟩ = some a0 ∧ w.cell? ⟨g, 1, none⟩ = some a1 ∧ w.cell? ⟨g, 2, none⟩ = some a2 ∧ w.cell? ⟨g, 3, none⟩ = some a3 :=
  ⟨h.cell 0, h.cell 1, h.cell 2, h.cell 3⟩

/-! ### valid fits -/
def okB (x y : Int) : Bool := decide (x ≤ y) && decide (-1000000 ≤ x) && decide (y ≤ 1000000)
def allB : List Int → List Int → Bool
  | x :: xs, y :: ys => okB x y && allB xs ys
  | _, _ => true
def okT (n : Nat) (t : Frm) (g : Int) : Bool := formF t n && decide (-1000000000 ≤ g) && decide (g ≤ 1000000000)
def allT (n : Nat) : List Frm → List Int → Bool
  | t :: ts, g :: gs => okT n t g && allT n ts gs
  | _, _ => true
def validF (f : Fit) : Bool :=
  decide (1 ≤ f.lo.length) && decide (f.lo.length ≤ 4) && f.hi.length == f.lo.length && decide (f.terms.length ≤ 20) && f.goals.length == f.terms.length && allB f.lo f.hi && allT f.lo.length f.terms f.goals
theorem allB_step {xs ys : List Int} {x y : Int} {k : Nat} (h1 : xs.drop k = x :: xs.drop (k + 1)) (h2 : ys.drop k = y :: ys.drop (k + 1)) : allB (xs.drop k) (ys.drop k) = (okB x y && allB (xs.drop (k + 1)) (ys.drop (k + 1))) := by
  rw [h1, h2]; rfl
theorem allT_step {n : Nat} {xs : List Frm} {ys : List Int} {x : Frm} {y : Int} {k : Nat} (h1 : xs.drop k = x :: xs.drop (k + 1)) (h2 : ys.drop k = y :: ys.drop (k + 1)) : allT n (xs.drop k) (ys.drop k) = (okT n x y && allT n (xs.drop (k + 1)) (ys.drop (k + 1))) := by
  rw [h1, h2]; rfl
theorem okB_no {x y : Int} (h : y < x ∨ x < -1000000 ∨ 1000000 < y) : okB x y = false := by unfold okB; simp; omega
theorem okB_yes {x y : Int} (h0 : ¬ y < x) (h1 : ¬ x < -1000000) (h2 : ¬ 1000000 < y) : okB x y = true := by unfold okB; simp; omega
theorem okB_iff {x y : Int} : okB x y = true ↔ x ≤ y ∧ -1000000 ≤ x ∧ y ≤ 1000000 := by unfold okB; simp [and_assoc]
theorem okT_form {n : Nat} {t : Frm} {g : Int} (h : formF t n = false) : okT n t g = false := by unfold okT; rw [h]; rfl
theorem okT_no {n : Nat} {t : Frm} {g : Int} (h : g < -1000000000 ∨ 1000000000 < g) : okT n t g = false := by unfold okT; simp; omega
theorem okT_yes {n : Nat} {t : Frm} {g : Int} (h : formF t n = true) (h0 : ¬ g < -1000000000) (h1 : ¬ 1000000000 < g) : okT n t g = true := by unfold okT; rw [h]; simp; omega
theorem valid_cases (f : Fit) : (validF f = false ∧ (f.lo.length < 1 ∨ (¬ f.lo.length < 1 ∧ 4 < f.lo.length) ∨ (¬ f.lo.length < 1 ∧ ¬ 4 < f.lo.length ∧ ((f.hi.length : Int) != (f.lo.length : Int)) = true) ∨
      (¬ f.lo.length < 1 ∧ ¬ 4 < f.lo.length ∧ ((f.hi.length : Int) != (f.lo.length : Int)) = false ∧ 20 < f.terms.length) ∨
      (¬ f.lo.length < 1 ∧ ¬ 4 < f.lo.length ∧ ((f.hi.length : Int) != (f.lo.length : Int)) = false ∧ ¬ 20 < f.terms.length ∧ ((f.goals.length : Int) != (f.terms.length : Int)) = true))) ∨
    (¬ f.lo.length < 1 ∧ ¬ 4 < f.lo.length ∧ ((f.hi.length : Int) != (f.lo.length : Int)) = false ∧ ¬ 20 < f.terms.length ∧ ((f.goals.length : Int) != (f.terms.length : Int)) = false ∧ f.hi.length = f.lo.length ∧ f.goals.length = f.terms.length ∧
      validF f = (allB f.lo f.hi && allT f.lo.length f.terms f.goals)) := by
  by_cases h1 : f.lo.length < 1
  · left; exact ⟨by unfold validF; rw [decide_eq_false (by omega : ¬ 1 ≤ f.lo.length)]; simp, .inl h1⟩
  by_cases h2 : 4 < f.lo.length
  · left; exact ⟨by unfold validF; rw [decide_eq_false (by omega : ¬ f.lo.length ≤ 4)]; simp, .inr (.inl ⟨h1, h2⟩)⟩
  by_cases h3 : f.hi.length = f.lo.length
  · by_cases h4 : 20 < f.terms.length
    · left; exact ⟨by unfold validF; rw [decide_eq_false (by omega : ¬ f.terms.length ≤ 20)]; simp, .inr (.inr (.inr (.inl ⟨h1, h2, by simp [h3], h4⟩)))⟩
    by_cases h5 : f.goals.length = f.terms.length
    · right
      refine ⟨h1, h2, by simp [h3], h4, by simp [h5], h3, h5, ?_⟩
      unfold validF
      rw [decide_eq_true (by omega : 1 ≤ f.lo.length), decide_eq_true (by omega : f.lo.length ≤ 4), decide_eq_true (by omega : f.terms.length ≤ 20), h3, h5]; simp
    · left; exact ⟨by unfold validF; rw [beq_false_of_ne h5]; simp, .inr (.inr (.inr (.inr ⟨h1, h2, by simp [h3], h4, by simp; omega⟩)))⟩
  · left; exact ⟨by unfold validF; rw [beq_false_of_ne h3]; simp, .inr (.inr (.inl ⟨h1, h2, by simp; omega⟩))⟩
theorem fdot_zero : ∀ (cs : List Int) (n : Nat), fdot cs (List.replicate n 0) = 0
  | [], n => rfl
  | c :: cs, 0 => rfl
  | c :: cs, n + 1 => by rw [List.replicate_succ]; unfold fdot; rw [fdot_zero cs n]; omega
theorem valueF_zero (t : Frm) {n : Nat} (hn : n ≤ 4) : valueF t (List.replicate n 0) = if formF t n = true then (t.const, 0) else (0, 8) := by
  unfold valueF
  rw [List.length_replicate]
  have hall : (List.replicate n (0 : Int)).all argOk = true := by
    rw [List.all_eq_true]; intro x hx; rw [(List.mem_replicate.1 hx).2]; decide
  by_cases hf : formF t n = true
  · rw [if_pos ⟨hf, hall, hn⟩, if_pos hf]
    have hw : worthF t (List.replicate n 0) = t.const := by unfold worthF; rw [fdot_zero]; omega
    have hc : -1000000 ≤ t.const ∧ t.const ≤ 1000000 := by
      unfold formF at hf
      simp only [Bool.and_eq_true] at hf
      exact inC_iff.1 hf.1.1
    rw [hw, if_neg (by omega)]
  · rw [if_neg hf, if_neg fun h => hf h.1]

def manyF : Int → List Int → List Int → Int
  | a, x :: xs, y :: ys => manyF (min (a * (y - x + 1)) 20001) xs ys
  | a, _, _ => a
theorem manyF_step {a : Int} {xs ys : List Int} {x y : Int} {k : Nat} (h1 : xs.drop k = x :: xs.drop (k + 1)) (h2 : ys.drop k = y :: ys.drop (k + 1)) : manyF a (xs.drop k) (ys.drop k) = manyF (min (a * (y - x + 1)) 20001) (xs.drop (k + 1)) (ys.drop (k + 1)) := by
  rw [h1, h2]; rfl
def checkFit (f : Fit) : Int := if validF f = true then (if 20000 < manyF 1 f.lo f.hi then 4 else 0) else 8
theorem allB_get : ∀ {xs ys : List Int}, allB xs ys = true → ∀ (k : Nat) (x y : Int), xs[k]? = some x → ys[k]? = some y → okB x y = true
  | [], _, _, k, x, y, h1, _ => by simp at h1
  | _ :: _, [], _, k, x, y, _, h2 => by simp at h2
  | a :: xs, b :: ys, h, 0, x, y, h1, h2 => by
    unfold allB at h
    simp at h1 h2; subst h1 h2
    exact (Bool.and_eq_true_iff.1 h).1
  | a :: xs, b :: ys, h, k + 1, x, y, h1, h2 => by
    unfold allB at h
    exact allB_get (Bool.and_eq_true_iff.1 h).2 k x y (by simpa using h1) (by simpa using h2)
theorem valid_parts {f : Fit} (h : validF f = true) : 1 ≤ f.lo.length ∧ f.lo.length ≤ 4 ∧ f.hi.length = f.lo.length ∧ f.terms.length ≤ 20 ∧ f.goals.length = f.terms.length ∧ allB f.lo f.hi = true ∧ allT f.lo.length f.terms f.goals = true := by
  unfold validF at h
  simp only [Bool.and_eq_true, decide_eq_true_eq, beq_iff_eq] at h
  obtain ⟨⟨⟨⟨⟨⟨h1, h2⟩, h3⟩, h4⟩, h5⟩, h6⟩, h7⟩ := h
  exact ⟨h1, h2, h3, h4, h5, h6, h7⟩
end Go.Proofs.Ytfeafembifdklaa
