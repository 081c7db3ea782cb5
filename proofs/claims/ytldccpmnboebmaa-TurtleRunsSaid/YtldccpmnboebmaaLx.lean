/-
  A quicker test of the lexical order for a great drawn region (rows of each operation, compared in pairs), and the region's law by it. No walk.
-/
import Derived.Test.YtldccpmnboebmaaBase
import Derived.BigQuiet
import Derived.Deep.QuietTactic
namespace Go.Proofs.Ytldccpmnboebmaa
open Go.RowKit
set_option linter.unusedVariables false

def memT : Nat → List Nat → Bool
  | _, [] => false
  | a, b :: l => (Nat.beq a b) || memT a l
theorem memT_iff {a : Nat} : ∀ {l : List Nat}, memT a l = true ↔ a ∈ l
  | [] => by simp [memT]
  | b :: l => by
    have ih := memT_iff (a := a) (l := l)
    unfold memT
    rw [Bool.or_eq_true, ih, List.mem_cons, Nat.beq_eq]
def rowT (ops : Array Oper) (o : Oper) : Option Nat × List Nat × List Nat := (o.dst, o.looksAt ops, (o.after.toList.filter fun e => Region.binds .any e).map (·.on))
def apartT (x y : Option Nat × List Nat × List Nat) : Bool :=
  (match x.1 with
   | some d => !memT d y.2.1 && (match y.1 with | some f => !Nat.beq d f | none => true)
   | none => true) &&
  (match y.1 with
   | some d => !memT d x.2.1
   | none => true)
theorem apartT_apart {ops : Array Oper} {x y : Oper} (h : apartT (rowT ops x) (rowT ops y) = true) : x.apart ops y = true := by
  unfold apartT rowT at h
  unfold Oper.apart
  simp only [Bool.and_eq_true] at h ⊢
  obtain ⟨h1, h2⟩ := h
  refine ⟨?_, ?_⟩
  · cases hx : x.dst with
    | none => rfl
    | some d =>
      rw [hx] at h1
      simp only [Bool.and_eq_true] at h1 ⊢
      obtain ⟨h3, h4⟩ := h1
      refine ⟨?_, ?_⟩
      · cases hc : (y.looksAt ops).contains d
        · rfl
        · have hm : d ∈ y.looksAt ops := by simpa using hc
          have := memT_iff.2 hm
          rw [this] at h3
          exact h3
      · cases hy : y.dst with
        | none => rfl
        | some f =>
          rw [hy] at h4
          simp only [Bool.not_eq_true'] at h4
          have hne : d ≠ f := fun e => by
            subst e
            rw [Nat.beq_refl] at h4
            cases h4
          simp only [bne_iff_ne, ne_eq, Option.some.injEq]
          exact fun e => hne e.symm
  · cases hy : y.dst with
    | none => rfl
    | some d =>
      rw [hy] at h2
      simp only at h2
      cases hc : (x.looksAt ops).contains d
      · show (!(x.looksAt ops).contains d) = true
        rw [hc]; rfl
      · have hm : d ∈ x.looksAt ops := by simpa using hc
        have := memT_iff.2 hm
        rw [this] at h2
        cases h2
def pairT (k : Nat) (x : Option Nat × List Nat × List Nat) : List (Option Nat × List Nat × List Nat) → Bool
  | [] => true
  | y :: r => (memT k y.2.2 || apartT x y) && pairT k x r
def ltT (k : Nat) : List Nat → Bool
  | [] => true
  | a :: l => Nat.ble (a + 1) k && ltT k l
theorem ltT_iff {k : Nat} : ∀ {l : List Nat}, ltT k l = true → ∀ a ∈ l, a < k
  | [], _, a, h => by simp at h
  | b :: l, h, a, hm => by
    unfold ltT at h
    rw [Bool.and_eq_true] at h
    rcases List.mem_cons.1 hm with e | e
    · subst e; exact Nat.le_of_ble_eq_true h.1
    · exact ltT_iff h.2 a e
theorem pairT_iff {k : Nat} {x : Option Nat × List Nat × List Nat} : ∀ {l : List (Option Nat × List Nat × List Nat)}, pairT k x l = true → ∀ y ∈ l, (memT k y.2.2 || apartT x y) = true
  | [], _, y, h => by simp at h
  | z :: l, h, y, hm => by
    unfold pairT at h
    rw [Bool.and_eq_true] at h
    rcases List.mem_cons.1 hm with e | e
    · subst e; exact h.1
    · exact pairT_iff h.2 y e
def goodT : Nat → List (Option Nat × List Nat × List Nat) → Bool
  | _, [] => true
  | k, x :: r => ltT k x.2.2 && pairT k x r && goodT (k + 1) r
theorem lex_goodT {ops : Array Oper} : ∀ (l : List Oper) (k : Nat) (listed : Array Bool), (∀ j, l[j]? = ops[k + j]?) → k + l.length = ops.size → listed.size = ops.size → (∀ j, j < k → listed[j]? = some true) → (∀ j, k ≤ j → j < ops.size → listed[j]? = some false) →
    goodT k (l.map (rowT ops)) = true → Region.lexFrom .any ops l.length k listed = true
  | [], k, listed, hl, hk, hs, h1, h2, hg => by
    simp only [List.length_nil, Nat.add_zero] at hk
    simp only [List.length_nil, Region.lexFrom]
    rw [List.isEmpty_iff]
    refine List.eq_nil_iff_forall_not_mem.2 fun j hj => ?_
    have h3 := (mem_ready.1 hj).1
    by_cases hjk : j < k
    · have := h1 j hjk
      rw [Array.getD_eq_getD_getElem?, this] at h3
      cases h3
    · have : listed[j]? = none := by rw [Array.getElem?_eq_none_iff]; omega
      rw [Array.getD_eq_getD_getElem?, this] at h3
      cases h3
  | o :: l, k, listed, hl, hk, hs, h1, h2, hg => by
    simp only [List.length_cons] at hk
    have h0 : ops[k]? = some o := by simpa using (hl 0).symm
    have htail : ∀ j, l[j]? = ops[k + 1 + j]? := fun j => by
      have := hl (j + 1)
      rw [List.getElem?_cons_succ] at this
      rw [this]
      congr 1; omega
    rw [List.map_cons] at hg
    unfold goodT at hg
    simp only [Bool.and_eq_true] at hg
    obtain ⟨⟨g1, g2⟩, g3⟩ := hg
    simp only [List.length_cons, Region.lexFrom, Bool.and_eq_true]
    refine ⟨⟨?_, ?_⟩, ?_⟩
    · rw [List.contains_iff_mem, mem_ready]
      refine ⟨?_, o, h0, fun e he hb => ?_⟩
      · rw [Array.getD_eq_getD_getElem?, h2 k (Nat.le_refl _) (by omega)]; rfl
      · have hm : e.on ∈ (rowT ops o).2.2 := by
          unfold rowT
          exact List.mem_map.2 ⟨e, List.mem_filter.2 ⟨Array.mem_toList_iff.2 he, hb⟩, rfl⟩
        have := ltT_iff g1 e.on hm
        rw [Array.getD_eq_getD_getElem?, h1 _ this]; rfl
    · unfold Region.free
      rw [h0]
      simp only [List.all_eq_true, List.mem_range]
      intro j hj
      by_cases hjk : j < k
      · have h5 := h1 j hjk
        have h6 : listed.getD j true = true := by rw [Array.getD_eq_getD_getElem?, h5]; rfl
        simp [h6]
      · by_cases hje : j = k
        · simp [hje]
        · obtain ⟨oj, hoj⟩ : ∃ oj, ops[j]? = some oj := ⟨_, Array.getElem?_eq_getElem hj⟩
          have hm : oj ∈ l := by
            have := htail (j - (k + 1))
            rw [show k + 1 + (j - (k + 1)) = j from by omega, hoj] at this
            exact List.mem_of_getElem? this
          have h5 := pairT_iff g2 _ (List.mem_map_of_mem (f := rowT ops) hm)
          rw [hoj]
          simp only [Bool.or_eq_true]
          rcases Bool.or_eq_true _ _ ▸ h5 with h6 | h6
          · refine .inr (.inl ?_)
            have h7 := memT_iff.1 h6
            unfold rowT at h7
            obtain ⟨e, he, hek⟩ := List.mem_map.1 h7
            have h8 := List.mem_filter.1 he
            rw [Array.any_eq_true']
            exact ⟨e, by simpa using h8.1, by simp [h8.2, hek]⟩
          · exact .inr (.inr (apartT_apart h6))
    · refine lex_goodT l (k + 1) _ htail (by omega) (by simpa using hs) (fun j hj => ?_) (fun j hj hjs => ?_) g3
      · by_cases hjk : j = k
        · subst hjk
          rw [Array.getElem?_setIfInBounds_self]
          simp; omega
        · rw [Array.getElem?_setIfInBounds_ne (by omega)]
          exact h1 j (by omega)
      · rw [Array.getElem?_setIfInBounds_ne (by omega)]
        exact h2 j (by omega) hjs
theorem lexB_of_good {l : List Oper} (hn : Region.noSelect l.toArray = true) (h : goodT 0 (l.map (rowT l.toArray)) = true) : Region.lexB .any l.toArray = true := by
  unfold Region.lexB
  rw [Bool.and_eq_true]
  refine ⟨hn, ?_⟩
  have h1 := lex_goodT (ops := l.toArray) l 0 (Array.replicate l.toArray.size false) (fun j => by simp) (by simp) (by simp) (fun j hj => by omega) (fun j _ hj => by
    rw [Array.getElem?_replicate, if_pos hj]) h
  simpa using h1
section
variable {P : Program}
theorem wp_region_quiet_big {id : Nat} {Q : Exit → Act → World → Prop} {a : Act} {w : World} {l : List Oper} (hm : P.follows .mixedOrders = true) (hn : Region.noSelect l.toArray = true) (hB : goodT 0 (l.map (rowT l.toArray)) = true)
    (h : wpQuiet P l.toArray (fun w' => ∃ n, w' = w.drewN n) (fun a' => ∀ w', (∃ n, w' = w.drewN n) → Q .normal a' w') l a) : (Code.region id l.toArray true).wp P Q a w :=
  wp_region_quiet_lit hm (lexB_of_good hn hB) h
end
end Go.Proofs.Ytldccpmnboebmaa
