/-
  Layer 7, plain: what a step and a run come to, and that a step keeps a word valid. No program is walked here.
-/
import Derived.Test.YtckffdaomjbglaaDoorFg
namespace Go.Proofs.YtckffdaomjbglaaDoor
open Go.RowKit

/-- what a rule's successor yields, and whether its args are in range -/
def outF (args : List Int) (s : Shp) : Mod × Bool := (⟨s.name, s.args.map fun f => worthF f args⟩, s.args.all fun f => argOk (worthF f args))
def outsF (rs : List Rul) (m : Mod) : List (Mod × Bool) :=
  match rs[(firstF rs m).toNat]? with
  | some r => if firstF rs m < 0 then [(m, true)] else r.out.map (outF m.args)
  | none => [(m, true)]
def succF (rs : List Rul) (ms : List Mod) : List (Mod × Bool) := ms.flatMap (outsF rs)
theorem succF_snoc {rs : List Rul} {ms : List Mod} {k : Nat} {m : Mod} {rest : List Mod} (h : ms.drop k = m :: rest) : succF rs (ms.take (k + 1)) = succF rs (ms.take k) ++ outsF rs m := by
  have hx : ms[k]? = some m := by
    have := congrArg (fun l => l[0]?) h
    simpa using this
  unfold succF
  rw [List.take_add_one, hx]
  simp
theorem succF_prefix {rs : List Rul} {ms : List Mod} (i : Nat) : succF rs (ms.take i) <+: succF rs ms :=
  ⟨succF rs (ms.drop i), by unfold succF; rw [← List.flatMap_append, List.take_append_drop]⟩

def stepF (rs : List Rul) (ms : List Mod) : List Mod × Int :=
  if (succF rs ms).all (·.2) = true then (if 2000 < (succF rs ms).length then ([], 4) else ((succF rs ms).map (·.1), 0)) else ([], 16)
def openR (rs : List Rul) (ms : List Mod) : Int := if checkR rs = 0 then checkF ms else checkR rs
def rStepF (rs : List Rul) (ms : List Mod) : List Mod × Int := if openR rs ms = 0 then stepF rs ms else ([], openR rs ms)
def iterR (rs : List Rul) : Nat → List Mod → List Mod × Int
  | 0, ms => (ms, 0)
  | n + 1, ms => if (stepF rs ms).2 = 0 then iterR rs n (stepF rs ms).1 else ([], (stepF rs ms).2)
def rRunF (rs : List Rul) (ms : List Mod) (n : Int) : List Mod × Int :=
  if openR rs ms = 0 then (if n < 0 ∨ 30 < n then ([], 2) else iterR rs n.toNat ms) else ([], openR rs ms)

theorem stepF_ok {rs : List Rul} {ms : List Mod} (h : (stepF rs ms).2 = 0) : (succF rs ms).all (·.2) = true ∧ (succF rs ms).length ≤ 2000 ∧ (stepF rs ms).1 = (succF rs ms).map (·.1) := by
  unfold stepF at h ⊢
  by_cases h1 : (succF rs ms).all (·.2) = true
  · rw [if_pos h1] at h ⊢
    by_cases h2 : 2000 < (succF rs ms).length
    · rw [if_pos h2] at h; cases h
    · rw [if_neg h2]; exact ⟨h1, by omega, rfl⟩
  · rw [if_neg h1] at h; cases h

theorem scan_app : ∀ (a b : List Mod) (n : Nat), scan n (a ++ b) = (scan n a).bind (fun k => scan k b)
  | [], b, n => rfl
  | m :: a, b, n => by
    rw [List.cons_append]
    have e1 : scan n (m :: (a ++ b)) = if m.name = 91 then scan (n + 1) (a ++ b) else if m.name = 93 then (if n = 0 then none else scan (n - 1) (a ++ b)) else scan n (a ++ b) := rfl
    have e2 : scan n (m :: a) = if m.name = 91 then scan (n + 1) a else if m.name = 93 then (if n = 0 then none else scan (n - 1) a) else scan n a := rfl
    rw [e1, e2]
    split
    · exact scan_app a b _
    · split
      · split
        · rfl
        · exact scan_app a b _
      · exact scan_app a b _
theorem checkF_iff {w : List Mod} : checkF w = 0 ↔ w.length ≤ 2000 ∧ w.all fineF = true ∧ scan 0 w = some 0 := by
  unfold checkF
  by_cases h1 : 2000 < w.length
  · rw [if_pos h1]; constructor
    · intro h; cases h
    · rintro ⟨h, _⟩; omega
  · rw [if_neg h1]
    cases h2 : w.all fineF
    · simp
    · rw [if_neg (by decide)]
      cases h3 : scan 0 w with
      | none => simp
      | some n =>
        cases n with
        | zero => simp; omega
        | succ n => simp
theorem scan_up : ∀ (a : List Mod) (n d k : Nat), scan n a = some k → scan (n + d) a = some (k + d)
  | [], n, d, k, h => by unfold scan at h ⊢; cases h; rfl
  | m :: a, n, d, k, h => by
    unfold scan at h ⊢
    by_cases h1 : m.name = 91
    · rw [if_pos h1] at h ⊢
      have := scan_up a (n + 1) d k h
      rwa [show n + 1 + d = n + d + 1 from by omega] at this
    · rw [if_neg h1] at h ⊢
      by_cases h2 : m.name = 93
      · rw [if_pos h2] at h ⊢
        by_cases h3 : n = 0
        · rw [if_pos h3] at h; cases h
        · rw [if_neg h3] at h
          rw [if_neg (by omega)]
          have := scan_up a (n - 1) d k h
          rwa [show n - 1 + d = n + d - 1 from by omega] at this
      · rw [if_neg h2] at h ⊢; exact scan_up a n d k h
theorem scan_names : ∀ (a b : List Mod), a.map Mod.name = b.map Mod.name → ∀ n, scan n a = scan n b
  | [], [], _, n => rfl
  | [], _ :: _, h, _ => by simp at h
  | _ :: _, [], h, _ => by simp at h
  | x :: a, y :: b, h, n => by
    simp only [List.map_cons, List.cons.injEq] at h
    unfold scan
    rw [h.1]
    have ih := scan_names a b h.2
    repeat' split
    all_goals first | rfl | exact ih _
theorem firstF_fit {m : Mod} : ∀ {rs : List Rul} {k j : Nat}, firstFrom m rs k = (j : Int) → ∃ r, rs[j - k]? = some r ∧ fitsF r m = true ∧ k ≤ j
  | [], k, j, h => by unfold firstFrom at h; omega
  | r :: rs, k, j, h => by
    unfold firstFrom at h
    split at h
    · rename_i hf
      have : k = j := by omega
      subst this
      exact ⟨r, by simp, hf, Nat.le_refl _⟩
    · obtain ⟨r', h1, h2, h3⟩ := firstF_fit h
      refine ⟨r', ?_, h2, by omega⟩
      rw [show j - k = (j - (k + 1)) + 1 from by omega, List.getElem?_cons_succ]; exact h1
/-- what becomes of a module: itself, or what the first rule that fits makes of it -/
theorem outsF_cases (rs : List Rul) (m : Mod) : (firstF rs m = -1 ∧ outsF rs m = [(m, true)]) ∨ ∃ (j : Nat) (r : Rul), firstF rs m = (j : Int) ∧ rs[j]? = some r ∧ fitsF r m = true ∧ outsF rs m = r.out.map (outF m.args) := by
  rcases firstFrom_none (m := m) (rs := rs) (k := 0) with h | ⟨j, h, _, _⟩
  · left
    have h' : firstF rs m = -1 := h
    refine ⟨h', ?_⟩
    unfold outsF; rw [h']; split <;> rfl
  · right
    obtain ⟨r, h1, h2, _⟩ := firstF_fit h
    have h' : firstF rs m = (j : Int) := h
    refine ⟨j, r, h', by simpa using h1, h2, ?_⟩
    unfold outsF
    rw [h', Int.toNat_natCast, show rs[j]? = some r from by simpa using h1]
    simp only []
    rw [if_neg (by omega)]
theorem core_out {r : Rul} (h : coreR r = true) : checkF (r.out.map fun s => ⟨s.name, List.replicate s.args.length 0⟩) = 0 ∧ r.name ≠ 91 ∧ r.name ≠ 93 := by
  unfold coreR at h
  simp only [Bool.and_eq_true, decide_eq_true_eq, beq_iff_eq, bne_iff_ne, ne_eq] at h
  exact ⟨h.2, h.1.1.1.1.1.1.2, h.1.1.1.1.1.2⟩
theorem fits_name {r : Rul} {m : Mod} (h : fitsF r m = true) : r.name = m.name := by
  unfold fitsF at h
  simp only [Bool.and_eq_true, beq_iff_eq] at h
  exact h.1.1
theorem outF_fine {args : List Int} {s : Shp} (h : fineF ⟨s.name, List.replicate s.args.length 0⟩ = true) (hok : (outF args s).2 = true) : fineF (outF args s).1 = true := by
  unfold fineF shapeOk at h ⊢
  simp only [Bool.and_eq_true, outF, List.length_map, List.length_replicate] at h ⊢
  refine ⟨⟨h.1.1, ?_⟩, h.2⟩
  rw [List.all_map]; exact hok
/-- what becomes of a module of a valid word: valid modules, brackets that belong to each other but for its own -/
theorem outs_ok {rs : List Rul} {m : Mod} (hr : rs.all coreR = true) (hm : fineF m = true) (hok : (outsF rs m).all (·.2) = true) : ((outsF rs m).map (·.1)).all fineF = true ∧ ∀ n k, scan n [m] = some k → scan n ((outsF rs m).map (·.1)) = some k := by
  rcases outsF_cases rs m with ⟨_, h⟩ | ⟨j, r, _, hj, hf, h⟩
  · rw [h]; exact ⟨by simpa using hm, fun n k hk => hk⟩
  · rw [h] at hok ⊢
    have hc := core_out (List.all_eq_true.1 hr r (List.mem_of_getElem? hj))
    obtain ⟨_, h2, h3⟩ := checkF_iff.1 hc.1
    have hn : m.name ≠ 91 ∧ m.name ≠ 93 := by rw [← fits_name hf]; exact hc.2
    have e : (r.out.map (outF m.args)).map (·.1) = r.out.map fun s => (outF m.args s).1 := by rw [List.map_map]; rfl
    rw [e]
    refine ⟨?_, fun n k hk => ?_⟩
    · rw [List.all_map] at h2 hok ⊢
      exact List.all_eq_true.2 fun s hs => outF_fine (List.all_eq_true.1 h2 s hs) (List.all_eq_true.1 hok s hs)
    · have hk' : n = k := by
        unfold scan at hk
        rw [if_neg hn.1, if_neg hn.2] at hk
        unfold scan at hk
        exact Option.some.inj hk
      subst hk'
      have h4 : scan 0 (r.out.map fun s => (outF m.args s).1) = some 0 := by
        rw [← h3]
        exact scan_names _ _ (by rw [List.map_map, List.map_map]; rfl) 0
      have := scan_up _ 0 n 0 h4
      simpa using this
theorem succ_ok {rs : List Rul} (hr : rs.all coreR = true) : ∀ (ms : List Mod), ms.all fineF = true → (succF rs ms).all (·.2) = true →
    ((succF rs ms).map (·.1)).all fineF = true ∧ ∀ n k, scan n ms = some k → scan n ((succF rs ms).map (·.1)) = some k
  | [], _, _ => ⟨rfl, fun n k h => h⟩
  | m :: ms, hm, hok => by
    have e : succF rs (m :: ms) = outsF rs m ++ succF rs ms := rfl
    rw [e] at hok ⊢
    rw [List.all_append, Bool.and_eq_true] at hok
    rw [List.all_cons, Bool.and_eq_true] at hm
    have h1 := outs_ok hr hm.1 hok.1
    have h2 := succ_ok hr ms hm.2 hok.2
    rw [List.map_append, List.all_append]
    refine ⟨by rw [h1.1, h2.1]; rfl, fun n k h => ?_⟩
    have h3 := scan_app [m] ms n
    rw [List.singleton_append, h] at h3
    cases h4 : scan n [m] with
    | none => rw [h4] at h3; cases h3
    | some j =>
      rw [h4] at h3
      rw [scan_app, h1.2 n j h4]
      exact h2.2 j k h3.symm
theorem step_valid {rs : List Rul} {ms : List Mod} (hr : rs.all coreR = true) (hc : checkF ms = 0) (h : (stepF rs ms).2 = 0) : checkF (stepF rs ms).1 = 0 := by
  obtain ⟨h1, h2, h3⟩ := stepF_ok h
  obtain ⟨_, h4, h5⟩ := checkF_iff.1 hc
  have h6 := succ_ok hr ms h4 h1
  rw [h3]
  exact checkF_iff.2 ⟨by simpa using h2, h6.1, h6.2 0 0 h5⟩
theorem checkF_fine {ms : List Mod} (h : checkF ms = 0) : ∀ m ∈ ms, fineF m = true := List.all_eq_true.1 (checkF_iff.1 h).2.1
theorem checkF_le {ms : List Mod} (h : checkF ms = 0) : ms.length ≤ 2000 := (checkF_iff.1 h).1

/-! ### what a rule makes of a module, as the reference has it -/
def madeOk (r : Rul) (m : Mod) : Bool := r.out.all fun s => (outF m.args s).2
def madeL (r : Rul) (m : Mod) : List Mod := r.out.map fun s => (outF m.args s).1
theorem made_succ {rs : List Rul} {m : Mod} {j : Nat} {r : Rul} (h : firstF rs m = (j : Int)) (hj : rs[j]? = some r) : (outsF rs m).all (·.2) = madeOk r m ∧ (outsF rs m).map (·.1) = madeL r m := by
  have e : outsF rs m = r.out.map (outF m.args) := by
    unfold outsF
    rw [h, Int.toNat_natCast, hj]
    simp only []
    rw [if_neg (by omega)]
  rw [e]
  exact ⟨by rw [List.all_map]; rfl, by rw [List.map_map]; rfl⟩
end Go.Proofs.YtckffdaomjbglaaDoor
