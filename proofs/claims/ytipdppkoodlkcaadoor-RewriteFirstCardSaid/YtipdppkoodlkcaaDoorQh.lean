/-
  Layer 7, plain: a rule behind one that has no guards changes nothing; a step without error is the listing. No walk.
-/
import Derived.Test.YtipdppkoodlkcaaDoorQa
namespace Go.Proofs.YtipdppkoodlkcaaDoor
open Go.RowKit

def uselessF (rs : List Rul) (r : Rul) : Bool := rs.any fun q => q.name == r.name && (q.arity == r.arity && decide (q.guards.length = 0))
theorem checkR_sub {rs l : List Rul} (h : checkR l = 0) (hs : ∀ r ∈ rs, r ∈ l) (hl : rs.length ≤ l.length) : checkR rs = 0 := by
  unfold checkR at h ⊢
  by_cases h1 : manyR l = true
  · rw [if_pos h1] at h; cases h
  · rw [if_neg h1] at h
    by_cases h2 : l.all fineR = true
    · have h3 : ¬ manyR rs = true := fun e => h1 (by
        unfold manyR at e ⊢
        rw [Bool.or_eq_true] at e ⊢
        rcases e with e | e
        · left; have := of_decide_eq_true e; exact decide_eq_true (by omega)
        · right
          obtain ⟨x, hx, e⟩ := List.any_eq_true.1 e
          exact List.any_eq_true.2 ⟨x, hs x hx, e⟩)
      rw [if_neg h3, if_pos (List.all_eq_true.2 fun x hx => List.all_eq_true.1 h2 x (hs x hx))]
    · rw [if_neg h2] at h; cases h
theorem firstFrom_more {m : Mod} (r : Rul) : ∀ (rs : List Rul) (k : Nat), firstFrom m (rs ++ [r]) k = if firstFrom m rs k = -1 then (if fitsF r m = true then ((k + rs.length : Nat) : Int) else -1) else firstFrom m rs k
  | [], k => by
    rw [List.nil_append]
    unfold firstFrom
    by_cases h : fitsF r m = true
    · rw [if_pos h, if_pos h]; rfl
    · rw [if_neg h, if_neg h]; rfl
  | q :: rs, k => by
    rw [List.cons_append]
    unfold firstFrom
    by_cases h : fitsF q m = true
    · rw [if_pos h, if_pos h, if_neg (by omega)]
    · rw [if_neg h, if_neg h, firstFrom_more r rs (k + 1), List.length_cons, show k + 1 + rs.length = k + (rs.length + 1) from by omega]
theorem firstFrom_fits {m : Mod} : ∀ {rs : List Rul} {k : Nat} {q : Rul}, q ∈ rs → fitsF q m = true → firstFrom m rs k ≠ -1
  | p :: rs, k, q, hq, hf => by
    unfold firstFrom
    by_cases h : fitsF p m = true
    · rw [if_pos h]; omega
    · rw [if_neg h]
      rcases List.mem_cons.1 hq with e | e
      · subst e; exact absurd hf h
      · exact firstFrom_fits e hf
theorem outs_useless {rs : List Rul} {r : Rul} {m : Mod} (h : uselessF rs r = true) : outsF (rs ++ [r]) m = outsF rs m := by
  obtain ⟨q, hq, h1⟩ := List.any_eq_true.1 h
  simp only [Bool.and_eq_true, beq_iff_eq, decide_eq_true_eq] at h1
  obtain ⟨h1, h2, h3⟩ := h1
  have hg : q.guards = [] := List.eq_nil_of_length_eq_zero h3
  have he : firstF (rs ++ [r]) m = firstF rs m := by
    show firstFrom m (rs ++ [r]) 0 = firstFrom m rs 0
    rw [firstFrom_more]
    by_cases hn : firstFrom m rs 0 = -1
    · rw [if_pos hn]
      by_cases hf : fitsF r m = true
      · exfalso
        refine firstFrom_fits (k := 0) hq ?_ hn
        unfold fitsF at hf ⊢
        simp only [Bool.and_eq_true, beq_iff_eq] at hf ⊢
        exact ⟨⟨h1.trans hf.1.1, h2.trans hf.1.2⟩, by rw [hg]; rfl⟩
      · rw [if_neg hf, hn]
    · rw [if_neg hn]
  unfold outsF
  rw [he]
  rcases firstFrom_none (m := m) (rs := rs) (k := 0) with e | ⟨j, e, _, hj⟩
  · have e' : firstF rs m = -1 := e
    rw [e']
    cases (rs ++ [r])[(-1 : Int).toNat]? <;> cases rs[(-1 : Int).toNat]? <;> rfl
  · have e' : firstF rs m = (j : Int) := e
    rw [e', Int.toNat_natCast, List.getElem?_append_left (by omega)]
theorem step_useless {rs : List Rul} {r : Rul} {ms : List Mod} (h : uselessF rs r = true) (hr : checkR (rs ++ [r]) = 0) (hw : checkF ms = 0) : rStepF (rs ++ [r]) ms = rStepF rs ms := by
  have h1 := checkR_sub hr (rs := rs) (fun x hx => List.mem_append_left _ hx) (by simp)
  rw [rStepF_of (openR_of hr hw), rStepF_of (openR_of h1 hw)]
  have hs : succF (rs ++ [r]) ms = succF rs ms := by
    unfold succF
    congr 1
    funext m
    exact outs_useless h
  unfold stepF
  rw [hs]

/-- the listing of the first k modules -/
def listF (rs : List Rul) (ms : List Mod) (k : Nat) : List Mod := (succF rs (ms.take k)).map (·.1)
theorem list_zero (rs : List Rul) (ms : List Mod) : listF rs ms 0 = [] := by unfold listF succF; simp
theorem list_all {rs : List Rul} {ms : List Mod} {x : List Mod} (h : rStepF rs ms = (x, 0)) (hr : checkR rs = 0) (hw : checkF ms = 0) : listF rs ms ms.length = x ∧ (succF rs ms).all (·.2) = true ∧ x.length ≤ 2000 := by
  rw [rStepF_of (openR_of hr hw)] at h
  obtain ⟨h1, h2, h3⟩ := stepF_ok (show (stepF rs ms).2 = 0 by rw [h])
  rw [h] at h3
  refine ⟨?_, h1, ?_⟩
  · unfold listF; rw [List.take_length]; exact h3.symm
  · have : x = (succF rs ms).map (·.1) := h3
    rw [this, List.length_map]; exact h2
theorem list_keep {rs : List Rul} {ms : List Mod} {k : Nat} {m : Mod} {rest : List Mod} (h : ms.drop k = m :: rest) (hf : firstF rs m < 0) : listF rs ms (k + 1) = listF rs ms k ++ [m] := by
  unfold listF
  rw [succF_snoc h, List.map_append]
  congr 1
  unfold outsF
  cases rs[(firstF rs m).toNat]? with
  | none => rfl
  | some q => simp only []; rw [if_pos hf]; rfl
theorem list_made {rs : List Rul} {ms : List Mod} {k j : Nat} {m : Mod} {r : Rul} {rest : List Mod} (h : ms.drop k = m :: rest) (hf : firstF rs m = (j : Int)) (hj : rs[j]? = some r) : listF rs ms (k + 1) = listF rs ms k ++ madeL r m := by
  unfold listF
  rw [succF_snoc h, List.map_append, (made_succ hf hj).2]
theorem made_ok {rs : List Rul} {ms : List Mod} {k j : Nat} {m : Mod} {r : Rul} {rest : List Mod} (hall : (succF rs ms).all (·.2) = true) (h : ms.drop k = m :: rest) (hf : firstF rs m = (j : Int)) (hj : rs[j]? = some r) : ∀ s ∈ r.out, (outF m.args s).2 = true := by
  have h1 : (outsF rs m).all (·.2) = true := by
    rw [List.all_eq_true] at hall ⊢
    intro q hq
    refine hall q ?_
    unfold succF
    rw [List.mem_flatMap]
    exact ⟨m, by rw [← List.take_append_drop k ms, h]; simp, hq⟩
  rw [(made_succ hf hj).1] at h1
  exact fun s hs => List.all_eq_true.1 h1 s hs
theorem list_le {rs : List Rul} {ms : List Mod} (k : Nat) : (listF rs ms k).length ≤ (succF rs ms).length := by
  unfold listF
  rw [List.length_map]
  exact (succF_prefix k).length_le
theorem value_of {r : Rul} {m : Mod} {s : Shp} {f : Frm} (hco : coreR r = true) (hfit : fitsF r m = true) (hm : m.args.all argOk = true ∧ m.args.length ≤ 4) (hs : s ∈ r.out) (hok : (outF m.args s).2 = true) (hf : f ∈ s.args) : valueF f m.args = (worthF f m.args, 0) := by
  have har : r.arity = (m.args.length : Int) := by
    unfold fitsF at hfit
    simp only [Bool.and_eq_true, beq_iff_eq] at hfit
    exact hfit.1.2
  have h1 := (fineR_guards hco).2.2.2 s hs f hf
  rw [har, Int.toNat_natCast] at h1
  unfold valueF
  rw [if_pos ⟨h1, hm.1, hm.2⟩]
  have h2 : argOk (worthF f m.args) = true := List.all_eq_true.1 hok f hf
  unfold argOk at h2
  simp only [Bool.and_eq_true, decide_eq_true_eq] at h2
  rw [if_neg (by omega)]
end Go.Proofs.YtipdppkoodlkcaaDoor
