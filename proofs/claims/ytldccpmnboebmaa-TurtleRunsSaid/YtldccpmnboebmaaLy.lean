/-
  A drawn region whose last operation (a store) waits for all others, which leave what lay there as it was: one walk of the others, in their order, serves every order. No walk.
-/
import Derived.Test.YtldccpmnboebmaaLx
import Derived.Lib.QuietBelow
namespace Go.Proofs.Ytldccpmnboebmaa
open Go.RowKit Go.Sort
set_option linter.unusedVariables false

/-- the last operation, doing nothing -/
def nopT (s : Oper) : Oper := ⟨none, .move (.const undef), s.type, s.pos, s.after, none⟩
def onsT (s : Oper) : List Nat := (s.after.toList.filter fun e => Region.binds .any e).map (·.on)
def sinkT (s : Oper) : Nat → Bool
  | 0 => true
  | n + 1 => memT n (onsT s) && sinkT s n
theorem sinkT_iff {s : Oper} : ∀ {n : Nat}, sinkT s n = true → ∀ k, k < n → ∃ e ∈ s.after, Region.binds .any e = true ∧ e.on = k
  | 0, _, k, h => by omega
  | n + 1, h, k, hk => by
    unfold sinkT at h
    rw [Bool.and_eq_true] at h
    by_cases e : k = n
    · subst e
      have h1 := memT_iff.1 h.1
      unfold onsT at h1
      obtain ⟨e, he, hek⟩ := List.mem_map.1 h1
      have h2 := List.mem_filter.1 he
      exact ⟨e, Array.mem_toList_iff.1 h2.1, h2.2, hek⟩
    · exact sinkT_iff h.2 k (by omega)
theorem good_early {ops : Array Oper} : ∀ (l : List Oper) (k : Nat), goodT k (l.map (rowT ops)) = true → ∀ j o, l[j]? = some o → ∀ e ∈ o.after, Region.binds .any e = true → e.on < k + j
  | [], _, _, j, o, h, _, _, _ => by simp at h
  | q :: l, k, hg, j, o, h, e, he, hb => by
    rw [List.map_cons] at hg
    unfold goodT at hg
    simp only [Bool.and_eq_true] at hg
    obtain ⟨⟨g1, g2⟩, g3⟩ := hg
    cases j with
    | zero =>
      simp only [List.getElem?_cons_zero, Option.some.injEq] at h
      subst h
      have hm : e.on ∈ (rowT ops q).2.2 := by
        unfold rowT
        exact List.mem_map.2 ⟨e, List.mem_filter.2 ⟨Array.mem_toList_iff.2 he, hb⟩, rfl⟩
      have := ltT_iff g1 e.on hm
      omega
    | succ j =>
      simp only [List.getElem?_cons_succ] at h
      have := good_early l (k + 1) g3 j o h e he hb
      omega
section
variable {P : Program} {C : World → Prop} {l : List Oper} {s : Oper}
theorem ends_at {i : Nat} (h : i ≠ l.length) : (l ++ [s]).toArray[i]? = (l ++ [nopT s]).toArray[i]? := by
  simp only [List.getElem?_toArray]
  by_cases hi : i < l.length
  · rw [List.getElem?_append_left hi, List.getElem?_append_left hi]
  · rw [List.getElem?_eq_none (by simp; omega), List.getElem?_eq_none (by simp; omega)]
theorem ends_last : (l ++ [s]).toArray[l.length]? = some s := by simp
theorem ready_same (listed : Array Bool) : Region.ready .any (l ++ [s]).toArray listed = Region.ready .any (l ++ [nopT s]).toArray listed := by
  unfold Region.ready
  have hs : (l ++ [s]).toArray.size = (l ++ [nopT s]).toArray.size := by simp
  rw [hs]
  refine List.filter_congr fun i _ => ?_
  by_cases hi : i = l.length
  · subst hi
    rw [ends_last, ends_last]
    rfl
  · rw [ends_at hi]
theorem yielded_same (hd : s.dst = none) (tmps : Array Value) : yielded (l ++ [s]).toArray tmps = yielded (l ++ [nopT s]).toArray tmps := by
  funext i
  unfold yielded
  by_cases hi : i = l.length
  · subst hi
    rw [ends_last, ends_last]
    simp [nopT, hd]
  · rw [ends_at hi]
/-- while the last one is not listed, something is ready -/
theorem ready_some {ops : Array Oper} {listed : Array Bool} {n : Nat} (hn : n < ops.size) (hs : listed.size = ops.size) (he : ∀ j o, ops[j]? = some o → ∀ e ∈ o.after, Region.binds .any e = true → e.on < j) (h : listed.getD n true = false) : Region.ready .any ops listed ≠ [] := by
  have key : ∀ m, (∃ j, j ≤ m ∧ j < ops.size ∧ listed.getD j true = false) → Region.ready .any ops listed ≠ [] := by
    intro m
    induction m with
    | zero =>
      rintro ⟨j, hj, hjs, hl⟩ hr
      obtain rfl : j = 0 := by omega
      obtain ⟨o, ho⟩ : ∃ o, ops[0]? = some o := ⟨_, Array.getElem?_eq_getElem hjs⟩
      have : (0 : Nat) ∈ Region.ready .any ops listed := mem_ready.2 ⟨hl, o, ho, fun e he' hb => by have := he 0 o ho e he' hb; omega⟩
      rw [hr] at this
      cases this
    | succ m ih =>
      rintro ⟨j, hj, hjs, hl⟩
      by_cases hex : ∃ k, k ≤ m ∧ k < ops.size ∧ listed.getD k true = false
      · exact ih hex
      · intro hr
        obtain ⟨o, ho⟩ : ∃ o, ops[j]? = some o := ⟨_, Array.getElem?_eq_getElem hjs⟩
        have : j ∈ Region.ready .any ops listed := mem_ready.2 ⟨hl, o, ho, fun e he' hb => by
          have h1 := he j o ho e he' hb
          cases h2 : listed.getD e.on true
          · exact absurd ⟨e.on, by omega, by omega, h2⟩ hex
          · have h3 : e.on < listed.size := by omega
            rw [Array.getD_eq_getD_getElem?, Array.getElem?_eq_getElem h3] at h2 ⊢
            exact h2⟩
        rw [hr] at this
        cases this
  exact key n ⟨n, Nat.le_refl _, hn, h⟩
theorem wpAny_store {Q' : Exit → Act → World → Prop} (hd : s.dst = none) (hsink : sinkT s l.length = true)
    (he : ∀ j o, (l ++ [nopT s]).toArray[j]? = some o → ∀ e ∈ o.after, Region.binds .any e = true → e.on < j) :
    ∀ (fuel : Nat) (listed : Array Bool) (a : Act) (w : World), C w → listed.size = l.length + 1 → listed.getD l.length true = false →
      wpAnyQ P .any (l ++ [nopT s]).toArray C (fun a => ∀ w, C w → wpOp P (l ++ [s]).toArray Q' l.length (Q' .normal) a w) fuel listed a → wpAny P .any (l ++ [s]).toArray Q' fuel listed a w
  | 0, listed, a, w, hC, hs, hl, h => absurd h.1 (ready_some (n := l.length) (by simp) (by simpa using hs) he hl)
  | fuel + 1, listed, a, w, hC, hs, hl, h => by
    have hne := ready_some (n := l.length) (by simp) (by simpa using hs) he hl
    refine ⟨fun h0 => absurd (by rw [← ready_same]; exact h0) hne, fun i hi => ?_⟩
    rw [ready_same] at hi
    have hq := h.2 i hi
    by_cases hin : i = l.length
    · subst hin
      -- all others are listed
      have hall : ∀ k, k < l.length → listed.getD k false = true := fun k hk => by
        obtain ⟨e, he', hb, hek⟩ := sinkT_iff hsink k hk
        obtain ⟨_, o, ho, hall⟩ := mem_ready.1 hi
        rw [ends_last] at ho
        injection ho with ho
        subst ho
        have := hall e he' hb
        rw [hek] at this
        exact this
      have hempty : Region.ready .any (l ++ [nopT s]).toArray (listed.setIfInBounds l.length true) = [] := by
        refine List.eq_nil_iff_forall_not_mem.2 fun j hj => ?_
        obtain ⟨h1, o, ho, _⟩ := mem_ready.1 hj
        have hjs := (Array.getElem?_eq_some_iff.1 ho).1
        simp at hjs
        rw [Array.getD_eq_getD_getElem?] at h1
        by_cases hje : j = l.length
        · subst hje
          rw [Array.getElem?_setIfInBounds_self] at h1
          have : l.length < listed.size := by omega
          simp [this] at h1
        · rw [Array.getElem?_setIfInBounds_ne (by omega)] at h1
          have h2 := hall j (by omega)
          rw [Array.getD_eq_getD_getElem?] at h2
          have h3 : j < listed.size := by omega
          rw [Array.getElem?_eq_getElem h3] at h1 h2
          simp only [Option.getD_some] at h1 h2
          rw [h2] at h1
          cases h1
      have hQ : ∀ w, C w → wpOp P (l ++ [s]).toArray Q' l.length (Q' .normal) a w := by
        unfold qOp at hq
        rw [ends_last] at hq
        simp only at hq
        rw [if_pos (by simp [Region.wanted, nopT])] at hq
        obtain ⟨v, _, hK⟩ := hq
        have hK' : wpAnyQ P .any (l ++ [nopT s]).toArray C (fun a => ∀ w, C w → wpOp P (l ++ [s]).toArray Q' l.length (Q' .normal) a w) fuel (listed.setIfInBounds l.length true) a := hK
        cases fuel with
        | zero => exact hK'.2
        | succ fuel => exact hK'.1 hempty
      refine wpOp_mono (fun a' w' h' => ?_) (hQ w hC)
      cases fuel with
      | zero => exact ⟨by rw [ready_same]; exact hempty, h'⟩
      | succ fuel => exact ⟨fun _ => h', fun j hj => by rw [ready_same, hempty] at hj; cases hj⟩
    · have hq2 : qOp P (l ++ [s]).toArray C i (wpAnyQ P .any (l ++ [nopT s]).toArray C (fun a => ∀ w, C w → wpOp P (l ++ [s]).toArray Q' l.length (Q' .normal) a w) fuel (listed.setIfInBounds i true)) a := by
        unfold qOp at hq ⊢
        rw [ends_at hin, yielded_same hd]
        exact hq
      refine wpOp_of_qOp hC (fun a' w' hw' hk => ?_) hq2
      refine wpAny_store hd hsink he fuel _ a' w' hw' (by simpa using hs) ?_ hk
      rw [Array.getD_eq_getD_getElem?, Array.getElem?_setIfInBounds_ne hin, ← Array.getD_eq_getD_getElem?]
      exact hl
end
/-- the walk's ending: the last operation, in every world of the class -/
theorem wp_region_store {P : Program} {id : Nat} {Q : Exit → Act → World → Prop} {a : Act} {w : World} {l : List Oper} (n : Nat) (hm : P.follows .mixedOrders = true) {s : Oper} (hl : l.drop n = [s]) (hd : s.dst = none) (hgd : s.guard = none)
    (hn : Region.noSelect (l.take n ++ [nopT s]).toArray = true) (hB : goodT 0 ((l.take n ++ [nopT s]).map (rowT (l.take n ++ [nopT s]).toArray)) = true) (hsink : sinkT s (l.take n).length = true)
    (h : wpQuiet P (l.take n ++ [nopT s]).toArray (fun w' => ∃ p : Regrown, w' = grow (redrawn w p.d) p.os) (fun a' => ∀ w', (∃ p : Regrown, w' = grow (redrawn w p.d) p.os) → s.wp P a' w' (Q .normal) Q) (l.take n) a) : (Code.region id l.toArray true).wp P Q a w := by
  have hsplit : l = l.take n ++ [s] := by rw [← hl, List.take_append_drop]
  obtain ⟨m, hm'⟩ : ∃ m, l.take n = m := ⟨_, rfl⟩
  rw [hm'] at hn hB hsink h hsplit
  rw [hsplit]
  have hlex := lexB_of_good hn hB
  unfold Region.lexB at hlex
  rw [Bool.and_eq_true] at hlex
  refine wp_region_any hm ?_
  have he : ∀ j o, (m ++ [nopT s]).toArray[j]? = some o → ∀ e ∈ o.after, Region.binds .any e = true → e.on < j := fun j o ho e he hb => by
    have := good_early (m ++ [nopT s]) 0 hB j o (by simpa using ho) e he hb
    omega
  have hq : wpQuiet P (m ++ [nopT s]).toArray (fun w' => ∃ p : Regrown, w' = grow (redrawn w p.d) p.os) (fun a' => ∀ w', (∃ p : Regrown, w' = grow (redrawn w p.d) p.os) → wpOp P (m ++ [s]).toArray Q m.length (Q .normal) a' w') (m ++ [nopT s]) a := by
    have step : ∀ (l1 : List Oper) (a1 : Act), wpQuiet P (m ++ [nopT s]).toArray (fun w' => ∃ p : Regrown, w' = grow (redrawn w p.d) p.os) (fun a' => ∀ w', (∃ p : Regrown, w' = grow (redrawn w p.d) p.os) → s.wp P a' w' (Q .normal) Q) l1 a1 →
        wpQuiet P (m ++ [nopT s]).toArray (fun w' => ∃ p : Regrown, w' = grow (redrawn w p.d) p.os) (fun a' => ∀ w', (∃ p : Regrown, w' = grow (redrawn w p.d) p.os) → wpOp P (m ++ [s]).toArray Q m.length (Q .normal) a' w') (l1 ++ [nopT s]) a1 := by
      intro l1
      induction l1 with
      | nil =>
        intro a1 h1
        show (if Region.wanted (nopT s) _ = true then _ else _)
        rw [if_pos (by simp [Region.wanted, nopT])]
        refine ⟨undef, fun w' _ => ?_, ?_⟩
        · unfold Oper.quietAt nopT
          simp [execOp, Act.eval, Oper.quietUpon]
        · intro w' hw'
          unfold wpOp
          rw [ends_last]
          simp only
          rw [if_pos (by simp [Region.wanted, hgd])]
          exact .inl (h1 w' hw')
      | cons o r ih =>
        intro a1 h1
        show (if Region.wanted o _ = true then _ else _)
        change (if Region.wanted o _ = true then _ else _) at h1
        split at h1
        · rename_i hw
          rw [if_pos hw]
          exact Oper.quiet_mono (fun a2 h2 => ih a2 h2) h1
        · rename_i hw
          rw [if_neg hw]
          exact ih _ h1
    exact step m a h
  have H := wpAnyQ_lex (P := P) (C := fun w' => ∃ p : Regrown, w' = grow (redrawn w p.d) p.os) (md := .any) hlex.1 (m ++ [nopT s]) 0 (Array.replicate (m ++ [nopT s]).toArray.size false) a (by simp) (by simpa using hlex.2) hq
  have := wpAny_store (P := P) (C := fun w' => ∃ p : Regrown, w' = grow (redrawn w p.d) p.os) (Q' := Q) hd hsink he (m ++ [nopT s]).length (Array.replicate (m ++ [nopT s]).toArray.size false) a { w with drawn := w.drawn + 1 } ⟨⟨w.drawn + 1, #[]⟩, by rw [grow_empty]; rfl⟩ (by simp) (by simp) H
  simpa using this
end Go.Proofs.Ytldccpmnboebmaa
