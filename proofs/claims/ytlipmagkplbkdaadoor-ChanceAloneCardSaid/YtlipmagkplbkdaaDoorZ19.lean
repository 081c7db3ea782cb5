/- Texts of the proof that the statement of ChanceAlone holds, several in one. -/
import Derived.Test.YtlipmagkplbkdaaDoorZ17
import Derived.Test.YtlipmagkplbkdaaDoorZ12
import Derived.Test.YtlipmagkplbkdaaDoorZ13
set_option linter.unusedVariables false
set_option linter.unusedSimpArgs false
set_option linter.unusedSectionVars false
set_option maxRecDepth 100000
set_option maxHeartbeats 8000000
namespace Go.Proofs.YtlipmagkplbkdaaDoor
section
open Go.RowKit
def apartNA (r r' : Rul) : Prop := ¬ (r.name = r'.name /\ r.arity = r'.arity)
def uniqNA (rs : List Rul) (n : Nat) : Prop := ∀ a b r r', b < a -> a < n -> rs[a]? = some r -> rs[b]? = some r' -> apartNA r r'
theorem fits_na {r : Rul} {m : Mod} (h : fitsF r m = true) : r.name = m.name /\ r.arity = (m.args.length : Int) := by
 unfold fitsF at h
 simp only [Bool.and_eq_true, beq_iff_eq] at h
 exact h.1
theorem fits_same {rs : List Rul} (hu : uniqNA rs rs.length) {m : Mod} {i j : Nat} {r r' : Rul} (hi : rs[i]? = some r) (hj : rs[j]? = some r') (h : fitsF r m = true) (h' : fitsF r' m = true) : i = j := by
 have h1 := (List.getElem?_eq_some_iff.1 hi).1
 have h2 := (List.getElem?_eq_some_iff.1 hj).1
 have e1 := fits_na h
 have e2 := fits_na h'
 rcases Nat.lt_trichotomy i j with h3 | h3 | h3
 ·exact absurd ⟨e2.1.trans e1.1.symm, e2.2.trans e1.2.symm⟩ (hu j i r' r h3 h2 hj hi)
 ·exact h3
 ·exact absurd ⟨e1.1.trans e2.1.symm, e1.2.trans e2.2.symm⟩ (hu i j r r' h3 h1 hi hj)
theorem firstFrom_fit {m : Mod} : ∀ {rs : List Rul} {k : Nat}, firstFrom m rs k = -1 -> ∀ r ∈ rs, fitsF r m = false
 | [], _, _, r, hr => by cases hr
 | x :: rs, k, h, r, hr => by
  unfold firstFrom at h
  by_cases hf : fitsF x m = true
  ·rw [if_pos hf] at h; omega
  ·rw [if_neg hf] at h
   rcases List.mem_cons.1 hr with e | e
   ·rw [e]; simpa using hf
   ·exact firstFrom_fit h r e
theorem outs_alone {rs : List Rul} (hu : uniqNA rs rs.length) {m : Mod} {r : Rul} (hr : r ∈ rs) (hf : fitsF r m = true) : outsF (rs.map zeroW) m = r.out.map (outF m.args) := by
 rcases outsF_cases (rs.map zeroW) m with ⟨h, _⟩ | ⟨j, r', _, hj, hf', ho⟩
 ·have := firstFrom_fit h (zeroW r) (List.mem_map.2 ⟨r, hr, rfl⟩)
  rw [show fitsF (zeroW r) m = fitsF r m from rfl, hf] at this
  cases this
 ·rw [List.getElem?_map] at hj
  cases hx : rs[j]? with
  | none => rw [hx] at hj; cases hj
  | some r2 =>
   rw [hx] at hj
   injection hj with hj
   subst hj
   obtain ⟨i, hi⟩ := List.mem_iff_getElem?.1 hr
   have hij := fits_same hu hi hx hf hf'
   rw [hij, hx] at hi
   injection hi with hi
   rw [ho, hi]
   rfl
theorem outs_none {rs : List Rul} {m : Mod} (h : ∀ r ∈ rs, fitsF r m = false) : outsF (rs.map zeroW) m = [(m, true)] := by
 rcases outsF_cases (rs.map zeroW) m with ⟨_, ho⟩ | ⟨j, r', _, hj, hf', _⟩
 ·exact ho
 ·obtain ⟨r2, h2, rfl⟩ := List.mem_map.1 (List.mem_of_getElem? hj)
  have := h r2 h2
  rw [show fitsF (zeroW r2) m = fitsF r2 m from rfl] at hf'
  rw [hf'] at this; cases this
theorem succ_alone {rs : List Rul} (hv : RVal rs) (hu : uniqNA rs rs.length) (s : Int) (c : Cel) {B : Nat} (hb : c.path.size <= B) (hB : B + 22 <= 200) :
  ((succR rs s c).2 = 0 /\ (outsF (rs.map zeroW) c.mod).all (·.2) = true /\ (succR rs s c).1.map (·.mod) = (outsF (rs.map zeroW) c.mod).map (·.1) /\ ∀ x ∈ (succR rs s c).1, x.path.size <= B + 22) ∨
  ((succR rs s c).2 = 16 /\ (outsF (rs.map zeroW) c.mod).all (·.2) = false) := by
 rcases succR_pick hv s c with ⟨hn, he⟩ | ⟨r, hr, hf, he⟩
 ·rw [he, outs_none hn]
  refine .inl ⟨rfl, rfl, rfl, fun x hx => ?_⟩
  rw [List.mem_singleton.1 hx]; omega
 ·rw [he, outs_alone hu hr hf]
  have hall : (r.out.map (outF c.mod.args)).all (·.2) = madeOk r c.mod := by rw [List.all_map]; rfl
  rw [hall]
  have ho := hv.o r hr
  have hsz : ∀ x ∈ sucL c.path (madeL r c.mod), x.path.size <= B + 22 := fun x hx => by
   obtain ⟨i, m, hi, rfl⟩ := mem_mapIdx' hx
   have hi2 := (List.getElem?_eq_some_iff.1 hi).1
   rw [madeL_len] at hi2
   have h1 := itoaB_size (k := i) (by omega)
   show (subP c.path i).size <= _
   rw [subP_size]; omega
  have hsh : shortL (sucL c.path (madeL r c.mod)) = true := by
   unfold shortL
   rw [List.all_eq_true]
   intro x hx
   have := hsz x hx
   simp; omega
  cases hm : madeOk r c.mod
  ·rw [sucR_not hm]; exact .inr ⟨rfl, rfl⟩
  ·rw [sucR_ok hm hsh]
   refine .inl ⟨rfl, rfl, ?_, hsz⟩
   show (sucL c.path (madeL r c.mod)).map (·.mod) = _
   rw [sucL_mods, List.map_map]; rfl
theorem all_alone {rs : List Rul} (hv : RVal rs) (hu : uniqNA rs rs.length) (s : Int) {B : Nat} (hB : B + 22 <= 200) : ∀ l : List Cel, (∀ x ∈ l, x.path.size <= B) ->
  (errL rs s l = 0 /\ (succF (rs.map zeroW) (l.map (·.mod))).all (·.2) = true /\ (allL rs s l).map (·.mod) = (succF (rs.map zeroW) (l.map (·.mod))).map (·.1) /\ ∀ x ∈ allL rs s l, x.path.size <= B + 22) ∨
  (errL rs s l = 16 /\ (succF (rs.map zeroW) (l.map (·.mod))).all (·.2) = false)
 | [], _ => .inl ⟨rfl, rfl, rfl, fun x hx => by simp [allL] at hx⟩
 | c :: l, h => by
  have e : errL rs s (c :: l) = if (succR rs s c).2 ≠ 0 then (succR rs s c).2 else errL rs s l := rfl
  have e2 : allL rs s (c :: l) = (succR rs s c).1 ++ allL rs s l := rfl
  have e3 : succF (rs.map zeroW) ((c :: l).map (·.mod)) = outsF (rs.map zeroW) c.mod ++ succF (rs.map zeroW) (l.map (·.mod)) := rfl
  rw [e, e2, e3]
  rcases succ_alone hv hu s c (h c (by simp)) hB with ⟨a1, a2, a3, a4⟩ | ⟨a1, a2⟩
  ·rw [if_neg (by rw [a1]; decide), List.all_append, a2, Bool.true_and]
   rcases all_alone hv hu s hB l (fun x hx => h x (by simp [hx])) with ⟨b1, b2, b3, b4⟩ | ⟨b1, b2⟩
   ·refine .inl ⟨b1, b2, by rw [List.map_append, List.map_append, a3, b3], fun x hx => ?_⟩
    rcases List.mem_append.1 hx with hx | hx
    ·exact a4 x hx
    ·exact b4 x hx
   ·exact .inr ⟨b1, b2⟩
  ·rw [if_pos (by rw [a1]; decide), List.all_append, a2, Bool.false_and]
   exact .inr ⟨a1, rfl⟩
theorem step_alone {rs : List Rul} (hv : RVal rs) (hu : uniqNA rs rs.length) (s : Int) {B : Nat} (hB : B + 22 <= 200) (l : List Cel) (h : ∀ x ∈ l, x.path.size <= B) :
  (stepR9 rs s l).2 = (stepF (rs.map zeroW) (l.map (·.mod))).2 /\ (stepR9 rs s l).1.map (·.mod) = (stepF (rs.map zeroW) (l.map (·.mod))).1 /\ ∀ x ∈ (stepR9 rs s l).1, x.path.size <= B + 22 := by
 rcases all_alone hv hu s hB l h with ⟨a1, a2, a3, a4⟩ | ⟨a1, a2⟩
 ·have hlen : (allL rs s l).length = (succF (rs.map zeroW) (l.map (·.mod))).length := by
   have := congrArg List.length a3
   simpa using this
  by_cases hb : 2000 < (allL rs s l).length
  ·rw [stepR9_many a1 hb]
   unfold stepF
   rw [if_pos a2, if_pos (by rw [<- hlen]; exact hb)]
   exact ⟨rfl, rfl, fun x hx => by cases hx⟩
  ·rw [stepR9_ok a1 hb]
   unfold stepF
   rw [if_pos a2, if_neg (by rw [<- hlen]; exact hb)]
   exact ⟨rfl, a3, a4⟩
 ·rw [stepR9_err (by rw [a1]; decide), a1]
  unfold stepF
  rw [if_neg (by rw [a2]; decide)]
  exact ⟨rfl, rfl, fun x hx => by cases hx⟩
theorem iter_alone {rs : List Rul} (hv : RVal rs) (hu : uniqNA rs rs.length) (s : Int) : ∀ (n : Nat) {B : Nat} (hB : B + 22 * n <= 200) (l : List Cel), (∀ x ∈ l, x.path.size <= B) ->
  (iterP9 rs s n l).2 = (iterR (rs.map zeroW) n (l.map (·.mod))).2 /\ (iterP9 rs s n l).1.map (·.mod) = (iterR (rs.map zeroW) n (l.map (·.mod))).1
 | 0, B, hB, l, h => ⟨rfl, rfl⟩
 | n + 1, B, hB, l, h => by
  obtain ⟨h1, h2, h3⟩ := step_alone hv hu s (B := B) (by omega) l h
  have e : iterR (rs.map zeroW) (n + 1) (l.map (·.mod)) = if (stepF (rs.map zeroW) (l.map (·.mod))).2 = 0 then iterR (rs.map zeroW) n (stepF (rs.map zeroW) (l.map (·.mod))).1 else ([], (stepF (rs.map zeroW) (l.map (·.mod))).2) := rfl
  rw [iterP9_step, e, <- h1, <- h2]
  by_cases h0 : (stepR9 rs s l).2 = 0
  ·rw [if_pos h0, if_pos h0]
   exact iter_alone hv hu s n (B := B + 22) (by omega) _ h3
  ·rw [if_neg h0, if_neg h0]
   exact ⟨rfl, rfl⟩
theorem iter9_cells {rs : List Rul} (hv : RVal rs) {s : Int} : ∀ (n : Nat) (l : List Cel), cellsR l = 0 -> (iterP9 rs s n l).2 = 0 -> cellsR (iterP9 rs s n l).1 = 0
 | 0, l, h, _ => h
 | n + 1, l, h, h0 => by
  rw [iterP9_step] at h0 ⊢
  by_cases h1 : (stepR9 rs s l).2 = 0
  ·rw [if_pos h1] at h0 ⊢
   exact iter9_cells hv n _ (step9_valid hv h h1) h0
  ·rw [if_neg h1] at h0
   exact absurd h0 h1
theorem checkR_bare {rs : List Rul} (h : checkC rs = 0) : checkR (rs.map zeroW) = 0 := by
 rw [checkC_eq] at h
 by_cases h1 : checkR (rs.map zeroW) = 0
 ·exact h1
 ·rw [if_neg h1] at h; exact absurd h h1
theorem alone_law {rs : List Rul} (hc : checkC rs = 0) (hu : uniqNA rs rs.length) (s : Int) {ms : List Mod} (hm : checkF ms = 0) {n : Int} (h0 : 0 <= n) (h4 : n <= 4) :
  (pRun9 rs s ms n).2 = (rRunF (rs.map zeroW) ms n).2 /\ (pRun9 rs s ms n).1.map (·.mod) = (rRunF (rs.map zeroW) ms n).1 /\ ((pRun9 rs s ms n).2 = 0 -> cellsR (pRun9 rs s ms n).1 = 0) := by
 have e1 : pRun9 rs s ms n = iterP9 rs s n.toNat (beginL ms) := by
  unfold pRun9
  rw [if_pos hc, if_pos hm, if_neg (by omega)]
 have ho : openR (rs.map zeroW) ms = 0 := by unfold openR; rw [if_pos (checkR_bare hc)]; exact hm
 have e2 : rRunF (rs.map zeroW) ms n = iterR (rs.map zeroW) n.toNat ms := by
  unfold rRunF
  rw [if_pos ho, if_neg (by omega)]
 have hb : ∀ x ∈ beginL ms, x.path.size <= 21 := fun x hx => by
  obtain ⟨i, m, hi, rfl⟩ := mem_mapIdx' hx
  have := (List.getElem?_eq_some_iff.1 hi).1
  have := checkF_le hm
  exact itoaB_size (by omega)
 have h5 := iter_alone (rval_of hc) hu s n.toNat (B := 21) (by omega) (beginL ms) hb
 rw [beginL_mods] at h5
 rw [e1, e2]
 exact ⟨h5.1, h5.2, iter9_cells (rval_of hc) _ _ (begin9_valid hm)⟩
end
end Go.Proofs.YtlipmagkplbkdaaDoor
