/-
  Regions that draw their order, told in another order of their text; the laws of floating operations for them. No program is named here.
-/
import Derived.Test.YtldccpmnboebmaaLt
namespace Go.Proofs.Ytldccpmnboebmaa
open Go.RowKit Go.Sort
set_option linter.unusedVariables false

def renO (M : List Nat) (o : Oper) : Oper := { o with after := o.after.map fun e => { e with on := M.getD e.on e.on }, guard := o.guard.map fun g => (M.getD g.1 g.1, g.2) }
/-- L: the old places in the new order; M: the new place of each old one -/
def permL (L M : List Nat) (l : List Oper) : List Oper := L.map fun i => renO M (l.getD i default)
def permQ (L M : List Nat) (n : Nat) : Bool := L.length == n && M.length == n && (List.range n).all fun i => decide (L.getD i i < n) && decide (M.getD i i < n) && L.getD (M.getD i i) (M.getD i i) == i && M.getD (L.getD i i) (L.getD i i) == i
structure PermOk (L M : List Nat) (n : Nat) : Prop where
  lL : L.length = n
  lM : M.length = n
  bM : ∀ i, i < n → M.getD i i < n
  bL : ∀ i, i < n → L.getD i i < n
  lm : ∀ i, L.getD (M.getD i i) (M.getD i i) = i
  ml : ∀ i, M.getD (L.getD i i) (L.getD i i) = i
theorem getD_out {L : List Nat} {i d : Nat} (h : L.length ≤ i) : L.getD i d = d := by rw [List.getD_eq_getElem?_getD, List.getElem?_eq_none h]; rfl
theorem perm_ok {L M : List Nat} {n : Nat} (h : permQ L M n = true) : PermOk L M n := by
  unfold permQ at h
  simp only [Bool.and_eq_true, beq_iff_eq] at h
  obtain ⟨⟨h1, h2⟩, h3⟩ := h
  have h4 : ∀ i, i < n → L.getD i i < n ∧ M.getD i i < n ∧ L.getD (M.getD i i) (M.getD i i) = i ∧ M.getD (L.getD i i) (L.getD i i) = i := fun i hi => by
    have := List.all_eq_true.1 h3 i (List.mem_range.2 hi)
    simp only [Bool.and_eq_true, beq_iff_eq, decide_eq_true_eq] at this
    exact ⟨this.1.1.1, this.1.1.2, this.1.2, this.2⟩
  refine ⟨h1, h2, fun i hi => (h4 i hi).2.1, fun i hi => (h4 i hi).1, fun i => ?_, fun i => ?_⟩
  · by_cases hi : i < n
    · exact (h4 i hi).2.2.1
    · rw [getD_out (L := M) (by omega), getD_out (by omega)]
  · by_cases hi : i < n
    · exact (h4 i hi).2.2.2
    · rw [getD_out (L := L) (by omega), getD_out (by omega)]
section
variable {P : Program} {L M : List Nat} {l : List Oper}
theorem permL_len (h : PermOk L M l.length) : (permL L M l).length = l.length := by unfold permL; rw [List.length_map, h.lL]
theorem permL_at (h : PermOk L M l.length) (i : Nat) : (permL L M l)[M.getD i i]? = (l[i]?).map (renO M) := by
  by_cases hi : i < l.length
  · have hb := h.bM i hi
    unfold permL
    have e1 : L[M.getD i i]? = some i := by
      have h1 := h.lm i
      rw [List.getD_eq_getElem?_getD, List.getElem?_eq_getElem (by rw [h.lL]; exact hb)] at h1
      rw [List.getElem?_eq_getElem (by rw [h.lL]; exact hb)]
      exact congrArg some h1
    rw [List.getElem?_map, e1, List.getElem?_eq_getElem hi]
    simp only [Option.map_some]
    rw [List.getD_eq_getElem?_getD, List.getElem?_eq_getElem hi]
    rfl
  · rw [getD_out (L := M) (by rw [h.lM]; omega), List.getElem?_eq_none (by rw [permL_len h]; omega), List.getElem?_eq_none (by omega)]
    rfl
theorem perm_ready (h : PermOk L M l.length) {md : Region.Mode} {listed listed' : Array Bool} (hs : ∀ j d, listed'.getD (M.getD j j) d = listed.getD j d) (i : Nat) : i ∈ Region.ready md l.toArray listed ↔ M.getD i i ∈ Region.ready md (permL L M l).toArray listed' := by
  rw [mem_ready, mem_ready]
  have hat : (permL L M l).toArray[M.getD i i]? = (l.toArray[i]?).map (renO M) := by
    rw [List.getElem?_toArray, List.getElem?_toArray]; exact permL_at h i
  rw [hs, hat]
  constructor
  · rintro ⟨h1, o, h2, h3⟩
    refine ⟨h1, renO M o, by rw [h2]; rfl, fun e he hb => ?_⟩
    unfold renO at he
    simp only [Array.mem_map] at he
    obtain ⟨e0, he0, rfl⟩ := he
    rw [hs]
    exact h3 e0 he0 hb
  · rintro ⟨h1, o', h2, h3⟩
    cases ho : l.toArray[i]? with
    | none => rw [ho] at h2; cases h2
    | some o =>
      rw [ho] at h2
      injection h2 with h2
      subst h2
      refine ⟨h1, o, rfl, fun e he hb => ?_⟩
      have := h3 { e with on := M.getD e.on e.on } (by unfold renO; simp only [Array.mem_map]; exact ⟨e, he, rfl⟩) hb
      rw [hs] at this
      exact this
theorem perm_yielded (h : PermOk L M l.length) (t : Array Value) (g : Nat) : yielded (permL L M l).toArray t (M.getD g g) = yielded l.toArray t g := by
  unfold yielded
  have hat : (permL L M l).toArray[M.getD g g]? = (l.toArray[g]?).map (renO M) := by
    rw [List.getElem?_toArray, List.getElem?_toArray]; exact permL_at h g
  rw [hat]
  cases l.toArray[g]? <;> rfl
theorem perm_wanted (h : PermOk L M l.length) (t : Array Value) (o : Oper) : Region.wanted (renO M o) (yielded (permL L M l).toArray t) = Region.wanted o (yielded l.toArray t) := by
  obtain ⟨dst, op, ty, pos, af, gd⟩ := o
  cases gd with
  | none => rfl
  | some g =>
    obtain ⟨g, b⟩ := g
    show (yielded (permL L M l).toArray t (M.getD g g) == some b) = _
    rw [perm_yielded h]
    rfl
theorem perm_wp {Q : Exit → Act → World → Prop} (h : PermOk L M l.length) {i : Nat} {K K' : Act → World → Prop} (hK : ∀ a w, K' a w → K a w) {a : Act} {w : World} (hw : wpOp P (permL L M l).toArray Q (M.getD i i) K' a w) : wpOp P l.toArray Q i K a w := by
  unfold wpOp at hw ⊢
  have hat : (permL L M l).toArray[M.getD i i]? = (l.toArray[i]?).map (renO M) := by
    rw [List.getElem?_toArray, List.getElem?_toArray]; exact permL_at h i
  rw [hat] at hw
  cases ho : l.toArray[i]? with
  | none => rw [ho] at hw; exact hK _ _ hw
  | some o =>
    rw [ho] at hw
    simp only [Option.map_some] at hw
    rw [perm_wanted h] at hw
    simp only
    split
    · rename_i hx
      rw [if_pos hx] at hw
      obtain ⟨dst, op, ty, pos, af, gd⟩ := o
      rcases hw with hw | ⟨hw, hq⟩
      · exact .inl (Oper.wp_mono hK hw)
      · exact .inr ⟨hw, hq⟩
    · rename_i hx
      rw [if_neg hx] at hw
      exact hK _ _ hw
theorem perm_set (h : PermOk L M l.length) {listed listed' : Array Bool} (hz : listed.size = l.length) (hz' : listed'.size = l.length) (hs : ∀ j d, listed'.getD (M.getD j j) d = listed.getD j d) {i : Nat} (hi : i < l.length) (j : Nat) (d : Bool) : (listed'.setIfInBounds (M.getD i i) true).getD (M.getD j j) d = (listed.setIfInBounds i true).getD j d := by
  by_cases hji : j = i
  · subst hji
    rw [Array.getD_eq_getD_getElem?, Array.getD_eq_getD_getElem?, Array.getElem?_setIfInBounds_self, Array.getElem?_setIfInBounds_self, if_pos (by rw [hz']; exact h.bM j hi), if_pos (by omega)]
  · have hne : M.getD i i ≠ M.getD j j := fun e => hji (by rw [← h.lm j, ← e, h.lm i])
    rw [getD_set_ne d hne, getD_set_ne d (fun e => hji e.symm)]
    exact hs j d
theorem wpAny_perm {Q : Exit → Act → World → Prop} (h : PermOk L M l.length) : ∀ (fuel : Nat) (listed listed' : Array Bool) (a : Act) (w : World), listed.size = l.length → listed'.size = l.length → (∀ j d, listed'.getD (M.getD j j) d = listed.getD j d) →
    wpAny P .any (permL L M l).toArray Q fuel listed' a w → wpAny P .any l.toArray Q fuel listed a w
  | 0, listed, listed', a, w, hz, hz', hs, hw => by
    refine ⟨List.eq_nil_iff_forall_not_mem.2 fun i hi => ?_, hw.2⟩
    have := (perm_ready h hs i).1 hi
    rw [hw.1] at this
    cases this
  | fuel + 1, listed, listed', a, w, hz, hz', hs, hw => by
    refine ⟨fun he => hw.1 (List.eq_nil_iff_forall_not_mem.2 fun i hi => ?_), fun i hi => ?_⟩
    · have h1 : M.getD (L.getD i i) (L.getD i i) = i := h.ml i
      rw [← h1] at hi
      have := (perm_ready h hs _).2 hi
      rw [he] at this
      cases this
    · have hil : i < l.length := by
        obtain ⟨_, o, ho, _⟩ := mem_ready.1 hi
        rw [List.getElem?_toArray] at ho
        exact (List.getElem?_eq_some_iff.1 ho).1
      refine perm_wp h (fun a' w' hk => ?_) (hw.2 _ ((perm_ready h hs i).1 hi))
      exact wpAny_perm h fuel _ _ a' w' (by simpa using hz) (by simpa using hz') (perm_set h hz hz' hs hil) hk
theorem region_perm {id : Nat} {Q : Exit → Act → World → Prop} {a : Act} {w : World} (L M : List Nat) (hm : P.follows .mixedOrders = true) (hp : permQ L M l.length = true)
    (h : wpAny P .any (permL L M l).toArray Q (permL L M l).toArray.size (Array.replicate (permL L M l).toArray.size false) a { w with drawn := w.drawn + 1 }) : (Code.region id l.toArray true).wp P Q a w := by
  have hk := perm_ok hp
  have hsz : (permL L M l).toArray.size = l.toArray.size := by simp [permL_len hk]
  rw [hsz] at h
  refine wp_region_any hm (wpAny_perm hk _ _ _ a _ (by simp) (by simp) (fun j d => ?_) h)
  simp only [List.size_toArray]
  by_cases hj : j < l.length
  · rw [Array.getD_eq_getD_getElem?, Array.getD_eq_getD_getElem?, Array.getElem?_replicate, Array.getElem?_replicate, if_pos hj, if_pos (hk.bM j hj)]
  · rw [getD_out (L := M) (by rw [hk.lM]; omega)]
/-- a region in which boxes and slices of one element are made, boxes written, by operations that float; behind them comes a tail. L: the order in which it is told. No box was there ahead of the region. -/
theorem wp_region_floatB {id : Nat} {Q : Exit → Act → World → Prop} {a : Act} {w : World} {l : List Oper} (L M : List Nat) (n : Nat) (xs : List Fb) (hm : P.follows .mixedOrders = true) (hp : permQ L M l.length = true) (hok : fltBQ xs ((permL L M l).take n) ((permL L M l).drop n) = true) (hlt : (xs.all fun x => decide (x.al.i < (permL L M l).length)) = true) (hrun : ∀ x ∈ xs, x.bs = none → FltRun P [x.al]) (hrb : ∀ x ∈ xs, ∀ v u, x.bs = some (v, u) → ∀ o, ((permL L M l).take n)[x.al.i]? = some o → ∀ (ev : Operand → Value), ev (.tmp v) = u → ∀ w, (execOp ev o).run P w = .ok (.value (.slice (some ⟨w.heap.size, 0, none⟩) 1 1)) (w.alloc (.cells x.al.cs x.al.ty))) (hst : StRunQ P xs)
    (h : ∃ afin : Act, (∀ W', RowKit.Below w.heap.size w W' → wpQuiet P (virtQ ((permL L M l).take n) ((permL L M l).drop n)).toArray (fun w' => ∃ q : Regrown, w' = grow (redrawn W' q.d) q.os) (fun a' => a' = afin) (virtQ ((permL L M l).take n) ((permL L M l).drop n)) a) ∧ valsQ xs afin ∧
      (∀ (p : Nat → Nat) w', RowKit.Below w.heap.size w w' → (∀ x ∈ xs, Blk w' (p x.al.i) x.al.ty x.fin ∧ w.heap.size ≤ p x.al.i) → (∀ x ∈ xs, ∀ y ∈ xs, x.al.i ≠ y.al.i → p x.al.i ≠ p y.al.i) → wpList P (permL L M l).toArray Q ((permL L M l).drop n) (putsB (fun i => some (p i)) xs afin) w')) : (Code.region id l.toArray true).wp P Q a w :=
  region_perm L M hm hp (any_floatB n xs hok hlt hrun hrb hst h)
/-- the same, told in the text's own order -/
theorem wp_region_floatT {id : Nat} {Q : Exit → Act → World → Prop} {a : Act} {w : World} {l : List Oper} (n : Nat) (xs : List Fb) (hm : P.follows .mixedOrders = true) (hok : fltBQ xs (l.take n) (l.drop n) = true) (hlt : (xs.all fun x => decide (x.al.i < l.length)) = true) (hrun : ∀ x ∈ xs, x.bs = none → FltRun P [x.al]) (hrb : ∀ x ∈ xs, ∀ v u, x.bs = some (v, u) → ∀ o, (l.take n)[x.al.i]? = some o → ∀ (ev : Operand → Value), ev (.tmp v) = u → ∀ w, (execOp ev o).run P w = .ok (.value (.slice (some ⟨w.heap.size, 0, none⟩) 1 1)) (w.alloc (.cells x.al.cs x.al.ty))) (hst : StRunQ P xs)
    (h : ∃ afin : Act, (∀ W', RowKit.Below w.heap.size w W' → wpQuiet P (virtQ (l.take n) (l.drop n)).toArray (fun w' => ∃ q : Regrown, w' = grow (redrawn W' q.d) q.os) (fun a' => a' = afin) (virtQ (l.take n) (l.drop n)) a) ∧ valsQ xs afin ∧
      (∀ (p : Nat → Nat) w', RowKit.Below w.heap.size w w' → (∀ x ∈ xs, Blk w' (p x.al.i) x.al.ty x.fin ∧ w.heap.size ≤ p x.al.i) → (∀ x ∈ xs, ∀ y ∈ xs, x.al.i ≠ y.al.i → p x.al.i ≠ p y.al.i) → wpList P l.toArray Q (l.drop n) (putsB (fun i => some (p i)) xs afin) w')) : (Code.region id l.toArray true).wp P Q a w :=
  wp_region_any hm (any_floatB n xs hok hlt hrun hrb hst h)
end
end Go.Proofs.Ytldccpmnboebmaa
