/-
  Layer 43, plain: the certificate of Prove is accepted; the first of the best; moved goals, a term less.
-/
import Derived.Test.YtcdplnikpbbomaaUa
import Derived.Test.YtcdplnikpbbomaaZy
namespace Go.Proofs.Ytcdplnikpbbomaa
open Go.RowKit Go.Sort
set_option linter.unusedVariables false

theorem prove_sound {f : Fit} (hck : checkFit f = 0) (h400 : manyF 1 f.lo f.hi ≤ 400) :
    proveF f = (proveL f, 0) ∧ (proveL f).length ≤ 2000 ∧ ∀ cost, cost ≤ (bestF f).2 → acceptF f cost (proveL f) = (true, 0) := by
  have hv := checkFit_valid hck
  obtain ⟨p1, p2, p3, p4, p5, p6, p7⟩ := valid_parts hv
  have hcn := cnt_of_check hck
  obtain ⟨g1, g2, g3⟩ := lookG_spec f (bestF f).2 (span f.lo f.hi + 1) (lo := f.lo) (hi := f.hi) ⟨hv, rfl, p3, p6⟩ (fun y hy => ((best_min hv).2.2 y hy).1) (Nat.lt_succ_self _)
  have hpos : ∀ c ∈ lookG f (bestF f).2 (span f.lo f.hi + 1) f.lo f.hi, 1 ≤ cnt c.lo c.hi := fun c hc => by
    have hs := (g1 c hc).1
    exact cnt_pos (allC_allB hs.h.symm hs.l'.symm hs.h'.symm p6 hs.c)
  have hlen := sumC_len hpos
  have hL : proveL f = lookG f (bestF f).2 (span f.lo f.hi + 1) f.lo f.hi := by
    unfold proveL
    rw [lookF_G _ _ _ _ _ _ (by rw [List.length_nil]; omega), List.nil_append]
  rw [hL]
  refine ⟨?_, by omega, fun cost hcost => ?_⟩
  · unfold proveF
    rw [if_pos hck, hL, if_neg (by omega)]
  · refine (acceptF_iff hck).2 ⟨by omega, ⟨fun c hc => (okCub_iff hv).2 ⟨(g1 c hc).1, by have := (g1 c hc).2; omega⟩, g2⟩, ?_⟩
    rw [sumM_C p6 (by omega) fun c hc => (g1 c hc).1, g3, hcn.1]
theorem accept_pair {f : Fit} {cost : Int} {l : List Cub} (hck : checkFit f = 0) (hl : l.length ≤ 2000) : acceptF f cost l = (true, 0) ∨ acceptF f cost l = (false, 0) := by
  have h := acceptF_err (cost := cost) (l := l) hck
  rw [if_neg (by omega)] at h
  cases he : (acceptF f cost l).1
  · right; rw [← he, ← h]
  · left; rw [← he, ← h]
theorem accept_over {f : Fit} {l : List Cub} (hck : checkFit f = 0) (hl : l.length ≤ 2000) : acceptF f ((bestF f).2 + 1) l = (false, 0) := by
  rcases accept_pair (cost := (bestF f).2 + 1) hck hl with h | h
  · have hb := best_min (checkFit_valid hck)
    have := accept_sound hck h hb.2.1
    omega
  · exact h
theorem lex_first : ∀ {b x : List Int} {k : Nat} {u v : Int}, lexLt b x → b.take k = x.take k → b[k]? = some u → x[k]? = some v → u ≠ v → u < v
  | [], _, k, u, v, h, _, _, _, _ => h.elim
  | _ :: _, [], k, u, v, h, _, _, _, _ => h.elim
  | a :: b, y :: x, 0, u, v, h, _, h1, h2, h3 => by
    simp at h1 h2; subst h1 h2
    rcases h with h | h
    · exact h
    · exact absurd h.1 h3
  | a :: b, y :: x, k + 1, u, v, h, ht, h1, h2, h3 => by
    simp at ht
    rcases h with h | h
    · have := ht.1; omega
    · exact lex_first h.2 ht.2 (by simpa using h1) (by simpa using h2) h3

/-! ### shifts -/
def movT (t : Frm) (b : Int) : Frm := { t with const := t.const + b }
def movF (f : Fit) (k : Nat) (t : Frm) (g b : Int) : Fit := { f with terms := f.terms.set k (movT t b), goals := f.goals.set k (g + b) }
def lessF (f : Fit) (k : Nat) : Fit := { f with terms := f.terms.take k ++ f.terms.drop (k + 1), goals := f.goals.take k ++ f.goals.drop (k + 1) }
theorem boundF_mov : ∀ {ts : List Frm} {gs : List Int} {k : Nat} {t : Frm} {g : Int} (b : Int) (lo hi : List Int), ts[k]? = some t → gs[k]? = some g → boundF (ts.set k (movT t b)) (gs.set k (g + b)) lo hi = boundF ts gs lo hi
  | [], _, k, t, g, b, lo, hi, h, _ => by simp at h
  | _ :: _, [], k, t, g, b, lo, hi, _, h => by simp at h
  | t0 :: ts, g0 :: gs, 0, t, g, b, lo, hi, h1, h2 => by
    simp at h1 h2; subst h1 h2
    simp only [List.set_cons_zero]
    unfold boundF
    have : boundT (movT t0 b) (g0 + b) lo hi = boundT t0 g0 lo hi := by
      unfold boundT highT lowT movT
      simp only
      omega
    rw [this]
  | t0 :: ts, g0 :: gs, k + 1, t, g, b, lo, hi, h1, h2 => by
    simp only [List.set_cons_succ]
    unfold boundF
    rw [boundF_mov b lo hi (by simpa using h1) (by simpa using h2)]
theorem mov_best {f : Fit} {k : Nat} {t : Frm} {g b : Int} (h1 : f.terms[k]? = some t) (h2 : f.goals[k]? = some g) : bestF (movF f k t g b) = bestF f := by
  have hc : ∀ y, costF (movF f k t g b) y = costF f y := fun y => boundF_mov b y y h1 h2
  have hs : bestStep (movF f k t g b) = bestStep f := by
    funext p y
    unfold bestStep; rw [hc]
  unfold bestF
  rw [hs, hc]
  rfl
theorem mov_check {f : Fit} {k : Nat} {t : Frm} {g b : Int} (hck : checkFit f = 0) (hv : validF (movF f k t g b) = true) : checkFit (movF f k t g b) = 0 := by
  have h1 := checkFit_valid hck
  unfold checkFit at hck ⊢
  rw [if_pos h1] at hck
  rw [if_pos hv]
  exact hck
theorem boundF_less : ∀ (ts : List Frm) (gs : List Int) (k : Nat) (lo hi : List Int), boundF (ts.take k ++ ts.drop (k + 1)) (gs.take k ++ gs.drop (k + 1)) lo hi ≤ boundF ts gs lo hi
  | [], gs, k, lo, hi => by
    simp only [List.take_nil, List.drop_nil, List.append_nil]
    have h1 : ∀ l : List Int, boundF [] l lo hi = 0 := fun l => by cases l <;> rfl
    rw [h1, h1]; exact Int.le_refl _
  | t :: ts, [], k, lo, hi => by
    simp only [List.take_nil, List.drop_nil, List.append_nil]
    have h1 : ∀ l : List Frm, boundF l [] lo hi = 0 := fun l => by cases l <;> rfl
    rw [h1, h1]; exact Int.le_refl _
  | t :: ts, g :: gs, 0, lo, hi => by
    simp only [List.take_zero, List.nil_append, List.drop_one, List.tail_cons, Nat.zero_add]
    have : 0 ≤ boundT t g lo hi := by unfold boundT; omega
    conv => rhs; unfold boundF
    omega
  | t :: ts, g :: gs, k + 1, lo, hi => by
    simp only [List.take_succ_cons, List.drop_succ_cons, List.cons_append]
    have ih := boundF_less ts gs k lo hi
    unfold boundF
    omega
theorem allT_less {n : Nat} : ∀ {ts : List Frm} {gs : List Int} (k : Nat), gs.length = ts.length → allT n ts gs = true → allT n (ts.take k ++ ts.drop (k + 1)) (gs.take k ++ gs.drop (k + 1)) = true
  | [], [], k, _, _ => by simp [allT]
  | t :: ts, g :: gs, 0, _, h => by
    unfold allT at h
    simp only [List.take_zero, List.nil_append, List.drop_one, List.tail_cons, Nat.zero_add]
    exact (Bool.and_eq_true_iff.1 h).2
  | t :: ts, g :: gs, k + 1, hl, h => by
    unfold allT at h
    rw [Bool.and_eq_true] at h
    simp only [List.take_succ_cons, List.drop_succ_cons, List.cons_append]
    unfold allT
    rw [h.1, allT_less k (by simpa using hl) h.2]; rfl
theorem less_check {f : Fit} {k : Nat} (hck : checkFit f = 0) (hk : k < f.terms.length) : checkFit (lessF f k) = 0 := by
  have hv := checkFit_valid hck
  obtain ⟨p1, p2, p3, p4, p5, p6, p7⟩ := valid_parts hv
  have hv' : validF (lessF f k) = true := by
    unfold validF lessF
    simp only [Bool.and_eq_true, decide_eq_true_eq, beq_iff_eq]
    refine ⟨⟨⟨⟨⟨⟨p1, p2⟩, p3⟩, ?_⟩, ?_⟩, p6⟩, allT_less k p5 p7⟩
    · simp; omega
    · simp; omega
  unfold checkFit at hck ⊢
  rw [if_pos hv] at hck
  rw [if_pos hv']
  exact hck
theorem less_best {f : Fit} {k : Nat} (hck : checkFit f = 0) (hk : k < f.terms.length) : (bestF (lessF f k)).2 ≤ (bestF f).2 := by
  have h1 := best_min (checkFit_valid (less_check hck hk))
  have h2 := best_min (checkFit_valid hck)
  have h3 := (h1.2.2 (bestF f).1 h2.2.1).1
  have h4 : costF (lessF f k) (bestF f).1 ≤ costF f (bestF f).1 := boundF_less f.terms f.goals k _ _
  omega
end Go.Proofs.Ytcdplnikpbbomaa
