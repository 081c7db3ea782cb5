/-
  Regions that draw their order, told in another order of their text; the laws of floating operations for them. No program is named here.
-/
import Derived.Test.YtldccpmnboebmaaDoorLt
namespace Go.Proofs.YtldccpmnboebmaaDoor
open Go.RowKit Go.Sort
set_option linter.unusedVariables false

def renO (M : List Nat) (o : Oper) : Oper := { o with after := o.after.map fun e => { e with on := M.getD e.on e.on }, guard := o.guard.map fun g => (M.getD g.1 g.1, g.2) }
/-- L: the old places in the new order; M: the new place of each old one -/
def permL (L M : List Nat) (l : List Oper) : List Oper := L.map fun i => renO M (l.getD i default)
def permQ (L M : List Nat) (n : Nat) : Bool := L.length == n && M.length == n && (List.range n).all fun i => decide (L.getD i i < n) && decide (M.getD i i < n) && L.getD (M.getD i i) (M.getD i i) == i && M.getD (L.getD i i) (L.getD i i) == i
structure PermOk (L M : List Nat) (n : Nat) : Prop where
  lL : L.length = n
  lM : M.length = n
  bM : ∀ i, i < n → M.getD i i < n
  bL : ∀ i, i < n → L.getD i i < n
  lm : ∀ i, L.getD (M.getD i i) (M.getD i i) = i
  ml : ∀ i, M.getD (L.getD i i) (L.getD i i) = i
theorem getD_out {L : List Nat} {i d : Nat} (h : L.length ≤ i) : L.getD i d = d := by rw [List.getD_eq_getElem?_getD, List.getElem?_eq_none h]; rfl
theorem perm_ok {L M : List Nat} {n : Nat} (h : permQ L M n = true) : PermOk L M n := by
  unfold permQ at h
  simp only [Bool.and_eq_true, beq_iff_eq] at h
  obtain ⟨⟨h1, h2⟩, h3⟩ := h
  have h4 : ∀ i, i < n → L.getD i i < n ∧ M.getD i i < n ∧ L.getD (M.getD i i) (M.getD i i) = i ∧ M.getD (L.getD i i) (L.getD i i) = i := fun i hi => by
    have := List.all_eq_true.1 h3 i (List.mem_range.2 hi)
    simp only [Bool.and_eq_true, beq_iff_eq, decide_eq_true_eq] at this
    exact ⟨this.1.1.1, this.1.1.2, this.1.2, this.2⟩
  refine ⟨h1, h2, fun i hi => (h4 i hi).2.1, fun i hi => (h4 i hi).1, fun i => ?_, fun i => ?_⟩
  · by_cases hi : i < n
    · exact (h4 i hi).2.2.1
    · rw [getD_out (L := M) (by omega), getD_out (by omega)]
  · by_cases hi : i < n
    · exact (h4 i hi).2.2.2
    · rw [getD_out (L := L) (by omega), getD_out (by omega)]
section
variable {P : Program} {L M : List Nat} {l : List Oper}
theorem permL_len (h : PermOk L M l.length) : (permL L M l).length = l.length := by unfold permL; rw [List.length_map, h.lL]
theorem permL_at (h : PermOk L M l.length) (i : Nat) : (permL L M l)[M.getD i i]? = (l[i]?).map (renO M) := by
  by_cases hi : i < l.length
  · have hb := h.bM i hi
    unfold permL
    have e1 : L[M.getD i i]? = some i := by
      have h1 := h.lm i
      rw [List.getD_eq_getElem?_getD, List.getElem?_eq_getElem (by rw [h.lL]; exact hb)] at h1
      rw [List.getElem?_eq_getElem (by rw [h.lL]; exact hb)]
      exact congrArg some h1
    rw [List.getElem?_map, e1, List.getElem?_eq_getElem hi]
    simp only [Option.map_some]
    rw [List.getD_eq_getElem?_getD, List.getElem?_eq_getElem hi]
    rfl
  · rw [getD_out (L := M) (by rw [h.lM]; omega), List.getElem?_eq_none (by rw [permL_len h]; omega), List.getElem?_eq_none (by omega)]
    rfl
theorem perm_ready (h : PermOk L M l.length) {md : Region.Mode} {listed listed' : Array Bool} (hs : ∀ j d, listed'.getD (M.getD j j) d = listed.getD j d) (i : Nat) : i ∈ Region.ready md l.toArray listed ↔ M.getD i i ∈ Region.ready md (permL L M l).toArray listed' := by
  rw [mem_ready, mem_ready]
  have hat : (permL L M l).toArray[M.getD i i]? = (l.toArray[i]?).map (renO M) := by
    rw [List.getElem?_toArray, List.getElem?_toArray]; exact permL_at h i
  rw [hs, hat]
  constructor
  · rintro ⟨h1, o, h2, h3⟩
    refine ⟨h1, renO M o, by rw [h2]; rfl, fun e he hb => ?_⟩
    unfold renO at he
    simp only [Array.mem_map] at he
    obtain ⟨e0, he0, rfl⟩ := he
    rw [hs]
    exact h3 e0 he0 hb
  · rintro ⟨h1, o', h2, h3⟩
    cases ho : l.toArray[i]? with
    | none => rw [ho] at h2; cases h2
    | some o =>
      rw [ho] at h2
      injection h2 with h2
      subst h2
      refine ⟨h1, o, rfl, fun e he hb => ?_⟩
      have := h3 { e with on := M.getD e.on e.on } (by unfold renO; simp only [Array.mem_map]; exact ⟨e, he, rfl⟩) hb
      rw [hs] at this
      exact this
theorem perm_yielded (h : PermOk L M l.length) (t : Array Value) (g : Nat) : yielded (permL L M l).toArray t (M.getD g g) = yielded l.toArray t g := by
  unfold yielded
  have hat : (permL L M l).toArray[M.getD g g]? = (l.toArray[g]?).map (renO M) := by
    rw [List.getElem?_toArray, List.getElem?_toArray]; exact permL_at h g
  rw [hat]
  cases l.toArray[g]? <;> rfl
theorem perm_wanted (h : PermOk L M l.length) (t : Array Value) (o : Oper) : Region.wanted (renO M o) (yielded (permL L M l).toArray t) = Region.wanted o (yielded l.toArray t) := by
  obtain ⟨dst, op, ty, pos, af, gd⟩ := o
  cases gd with
  | none => rfl
  | some g =>
    obtain ⟨g, b⟩ := g
    show (yielded (permL L M l).toArray t (M.getD g g) == some b) = _
    rw [perm_yielded h]
    rfl
theorem perm_wp {Q : Exit → Act → World → Prop} (h : PermOk L M l.length) {i : Nat} {K K' : Act → World → Prop} (hK : ∀ a w, K' a w → K a w) {a : Act} {w : World} (hw : wpOp P (permL L M l).toArray Q (M.getD i i) K' a w) : wpOp P l.toArray Q i K a w := by
  unfold wpOp at hw ⊢
  have hat : (permL L M l).toArray[M.getD i i]? = (l.toArray[i]?).map (renO M) := by
    rw [List.getElem?_toArray, List.getElem?_toArray]; exact permL_at h i
  rw [hat] at hw
  cases ho : l.toArray[i]? with
  | none => rw [ho] at hw; exact hK _ _ hw
  | some o =>
    rw [ho] at hw
    simp only [Option.map_some] at hw
    rw [perm_wanted h] at hw
    simp only
    split
    · rename_i hx
      rw [if_pos hx] at hw
      obtain ⟨dst, op, ty, pos, af, gd⟩ := o
      rcases hw with hw | ⟨hw, hq⟩
      · exact .inl (Oper.wp_mono hK hw)
      · exact .inr ⟨hw, hq⟩
    · rename_i hx
      rw [if_neg hx] at hw
      exact hK _ _ hw
theorem perm_set (h : PermOk L M l.length) {listed listed' : Array Bool} (hz : listed.size = l.length) (hz' : listed'.size = l.length) (hs : ∀ j d, listed'.getD (M.getD j j) d = listed.getD j d) {i : Nat} (hi : i < l.length) (j : Nat) (d : Bool) : (listed'.setIfInBounds (M.getD i i) true).getD (M.getD j j) d = (listed.setIfInBounds i true).getD j d := by
  by_cases hji : j = i
  · subst hji
    rw [Array.getD_eq_getD_getElem?, Array.getD_eq_getD_getElem?, Array.getElem?_setIfInBounds_self, Array.getElem?_setIfInBounds_self, if_pos (by rw [hz']; exact h.bM j hi), if_pos (by omega)]
  · have hne : M.getD i i ≠ M.getD j j := fun e => hji (by rw [← h.lm j, ← e, h.lm i])
    rw [getD_set_ne d hne, getD_set_ne d (fun e => hji e.symm)]
    exact hs j d
theorem wpAny_perm {Q : Exit → Act → World → Prop} (h : PermOk L M l.length) : ∀ (fuel : Nat) (listed listed' : Array Bool) (a : Act) (w : World), listed.size = l.length → listed'.size = l.length → (∀ j d, listed'.getD (M.getD j j) d = listed.getD j d) →
    wpAny P .any (permL L M l).toArray Q fuel listed' a w → wpAny P .any l.toArray Q fuel listed a w
  | 0, listed, listed', a, w, hz, hz', hs, hw => by
    refine ⟨List.eq_nil_iff_forall_not_mem.2 fun i hi => ?_, hw.2⟩
    have := (perm_ready h hs i).1 hi
    rw [hw.1] at this
    cases this
  | fuel + 1, listed, listed', a, w, hz, hz', hs, hw => by
    refine ⟨fun he => hw.1 (List.eq_nil_iff_forall_not_mem.2 fun i hi => ?_), fun i hi => ?_⟩
    · have h1 : M.getD (L.getD i i) (L.getD i i) = i := h.ml i
      rw [← h1] at hi
      have := (perm_ready h hs _).2 hi
      rw [he] at this
      cases this
    · have hil : i < l.length := by
        obtain ⟨_, o, ho, _⟩ := mem_ready.1 hi
        rw [List.getElem?_toArray] at ho
        exact (List.getElem?_eq_some_iff.1 ho).1
      refine perm_wp h (fun a' w' hk => ?_) (hw.2 _ ((perm_ready h hs i).1 hi))
      exact wpAny_perm h fuel _ _ a' w' (by simpa using hz) (by simpa using hz') (perm_set h hz hz' hs hil) hk
theorem lK_zero (n : Nat) : lK 0 n = Array.replicate n false := by unfold lK; simp
theorem region_perm {id : Nat} {Q : Exit → Act → World → Prop} {a : Act} {w : World} (L M : List Nat) (hm : P.follows .mixedOrders = true) (hp : permQ L M l.length = true)
    (h : wpAny P .any (permL L M l).toArray Q (permL L M l).toArray.size (Array.replicate (permL L M l).toArray.size false) a { w with drawn := w.drawn + 1 }) : (Code.region id l.toArray true).wp P Q a w := by
  have hk := perm_ok hp
  have hsz : (permL L M l).toArray.size = l.toArray.size := by simp [permL_len hk]
  rw [hsz] at h
  refine wp_region_any hm (wpAny_perm hk _ _ _ a _ (by simp) (by simp) (fun j d => ?_) h)
  simp only [List.size_toArray]
  by_cases hj : j < l.length
  · rw [Array.getD_eq_getD_getElem?, Array.getD_eq_getD_getElem?, Array.getElem?_replicate, Array.getElem?_replicate, if_pos hj, if_pos (hk.bM j hj)]
  · rw [getD_out (L := M) (by rw [hk.lM]; omega)]
/-- a region in which boxes and slices of one element are made, boxes written, by operations that float; behind them comes a tail. L: the order in which it is told. No box was there ahead of the region. -/
theorem wp_region_floatB {id : Nat} {Q : Exit → Act → World → Prop} {a : Act} {w : World} {l : List Oper} (L M : List Nat) (n : Nat) (xs : List Fb) (hm : P.follows .mixedOrders = true) (hp : permQ L M l.length = true) (hok : fltBQ 0 xs ((permL L M l).take n) ((permL L M l).drop n) = true) (hlt : (xs.all fun x => decide (x.al.i < (permL L M l).length)) = true) (hrun : ∀ x ∈ xs, x.bs = none → FltRun P [x.al]) (hrb : ∀ x ∈ xs, ∀ v u, x.bs = some (v, u) → ∀ o, ((permL L M l).take n)[x.al.i]? = some o → ∀ (ev : Operand → Value), ev (.tmp v) = u → ∀ w, (execOp ev o).run P w = .ok (.value (.slice (some ⟨w.heap.size, 0, none⟩) 1 1)) (w.alloc (.cells x.al.cs x.al.ty))) (hst : StRunQ P xs)
    (h : ∃ afin : Act, (∀ W', RowKit.Below w.heap.size w W' → wpQuiet P (virtQ ((permL L M l).take n) ((permL L M l).drop n)).toArray (fun w' => ∃ q : Regrown, w' = grow (redrawn W' q.d) q.os) (fun a' => a' = afin) (virtQ ((permL L M l).take n) ((permL L M l).drop n)) a) ∧ valsQ xs afin ∧
      (∀ (p : Nat → Nat) w', RowKit.Below w.heap.size w w' → (∀ x ∈ xs, Blk w' (p x.al.i) x.al.ty x.fin ∧ w.heap.size ≤ p x.al.i) → (∀ x ∈ xs, ∀ y ∈ xs, x.al.i ≠ y.al.i → p x.al.i ≠ p y.al.i) → wpList P (permL L M l).toArray Q ((permL L M l).drop n) (putsB (fun i => some (p i)) xs afin) w')) : (Code.region id l.toArray true).wp P Q a w :=
  region_perm L M hm hp (by
    have := any_floatB 0 (w := w) (w1 := { w with drawn := w.drawn + 1 }) ⟨rfl, rfl, rfl, Nat.le_refl _, fun _ _ => rfl⟩ n xs hok hlt hrun hrb hst (by obtain ⟨afin, h1, h2, h3⟩ := h; exact ⟨afin, fun W' hW' => by rw [List.drop_zero]; exact h1 W' hW', h2, h3⟩)
    rw [lK_zero] at this
    simpa using this)
/-- the same, told in the text's own order -/
theorem wp_region_floatT {id : Nat} {Q : Exit → Act → World → Prop} {a : Act} {w : World} {l : List Oper} (n : Nat) (xs : List Fb) (hm : P.follows .mixedOrders = true) (hok : fltBQ 0 xs (l.take n) (l.drop n) = true) (hlt : (xs.all fun x => decide (x.al.i < l.length)) = true) (hrun : ∀ x ∈ xs, x.bs = none → FltRun P [x.al]) (hrb : ∀ x ∈ xs, ∀ v u, x.bs = some (v, u) → ∀ o, (l.take n)[x.al.i]? = some o → ∀ (ev : Operand → Value), ev (.tmp v) = u → ∀ w, (execOp ev o).run P w = .ok (.value (.slice (some ⟨w.heap.size, 0, none⟩) 1 1)) (w.alloc (.cells x.al.cs x.al.ty))) (hst : StRunQ P xs)
    (h : ∃ afin : Act, (∀ W', RowKit.Below w.heap.size w W' → wpQuiet P (virtQ (l.take n) (l.drop n)).toArray (fun w' => ∃ q : Regrown, w' = grow (redrawn W' q.d) q.os) (fun a' => a' = afin) (virtQ (l.take n) (l.drop n)) a) ∧ valsQ xs afin ∧
      (∀ (p : Nat → Nat) w', RowKit.Below w.heap.size w w' → (∀ x ∈ xs, Blk w' (p x.al.i) x.al.ty x.fin ∧ w.heap.size ≤ p x.al.i) → (∀ x ∈ xs, ∀ y ∈ xs, x.al.i ≠ y.al.i → p x.al.i ≠ p y.al.i) → wpList P l.toArray Q (l.drop n) (putsB (fun i => some (p i)) xs afin) w')) : (Code.region id l.toArray true).wp P Q a w :=
  wp_region_any hm (by
    have := any_floatB 0 (w := w) (w1 := { w with drawn := w.drawn + 1 }) ⟨rfl, rfl, rfl, Nat.le_refl _, fun _ _ => rfl⟩ n xs hok hlt hrun hrb hst (by obtain ⟨afin, h1, h2, h3⟩ := h; exact ⟨afin, fun W' hW' => by rw [List.drop_zero]; exact h1 W' hW', h2, h3⟩)
    rw [lK_zero] at this
    simpa using this)
/-- the same, where the first kp operations have been taken already -/
theorem any_floatK {Q : Exit → Act → World → Prop} {a : Act} {w : World} {fuel : Nat} {listed : Array Bool} {l : List Oper} (kp n : Nat) (xs : List Fb) (hf : fuel = l.length - kp) (hl : listed = lK kp l.length) (hok : fltBQ kp xs (l.take n) (l.drop n) = true) (hlt : (xs.all fun x => decide (x.al.i < l.length)) = true) (hrun : ∀ x ∈ xs, x.bs = none → FltRun P [x.al]) (hrb : ∀ x ∈ xs, ∀ v u, x.bs = some (v, u) → ∀ o, (l.take n)[x.al.i]? = some o → ∀ (ev : Operand → Value), ev (.tmp v) = u → ∀ w, (execOp ev o).run P w = .ok (.value (.slice (some ⟨w.heap.size, 0, none⟩) 1 1)) (w.alloc (.cells x.al.cs x.al.ty))) (hst : StRunQ P xs)
    (h : ∃ afin : Act, (∀ W', RowKit.Below w.heap.size w W' → wpQuiet P (virtQ (l.take n) (l.drop n)).toArray (fun w' => ∃ q : Regrown, w' = grow (redrawn W' q.d) q.os) (fun a' => a' = afin) ((virtQ (l.take n) (l.drop n)).drop kp) a) ∧ valsQ xs afin ∧
      (∀ (p : Nat → Nat) w', RowKit.Below w.heap.size w w' → (∀ x ∈ xs, Blk w' (p x.al.i) x.al.ty x.fin ∧ w.heap.size ≤ p x.al.i) → (∀ x ∈ xs, ∀ y ∈ xs, x.al.i ≠ y.al.i → p x.al.i ≠ p y.al.i) → wpList P l.toArray Q (l.drop n) (putsB (fun i => some (p i)) xs afin) w')) : wpAny P .any l.toArray Q fuel listed a w := by
  subst hf hl
  exact any_floatB kp (RowKit.Below.refl _ _) n xs hok hlt hrun hrb hst h
/-- the same, where the first operation copies an address or the like, and is taken ahead -/
theorem wp_region_float1 {id : Nat} {Q : Exit → Act → World → Prop} {tm : Array Value} {df : List Deferred} {w : World} {o : Oper} {rest : List Oper} (d : Tmp) (v : Value) (n : Nat) (xs : List Fb) (hm : P.follows .mixedOrders = true) (hd : o.dst = some d) (hgd : o.guard = none)
    (hs : Region.noSelect (o :: rest).toArray = true) (hf : Region.free .any (o :: rest).toArray (Array.replicate (o :: rest).toArray.size false) 0 = true) (hr : (Region.ready .any (o :: rest).toArray (Array.replicate (o :: rest).toArray.size false)).contains 0 = true)
    (hQ : ∀ c a w, Q (.panic c) (a.put o.dst v) w → Q (.panic c) a w) (hy : ∀ w, (execOp (Act.eval { tmps := tm, defers := df }) o).run P w = .ok (.value v) w)
    (hok : fltBQ 1 xs ((o :: rest).take n) ((o :: rest).drop n) = true) (hlt : (xs.all fun x => decide (x.al.i < (o :: rest).length)) = true) (hrun : ∀ x ∈ xs, x.bs = none → FltRun P [x.al]) (hrb : ∀ x ∈ xs, ∀ v u, x.bs = some (v, u) → ∀ q, ((o :: rest).take n)[x.al.i]? = some q → ∀ (ev : Operand → Value), ev (.tmp v) = u → ∀ w, (execOp ev q).run P w = .ok (.value (.slice (some ⟨w.heap.size, 0, none⟩) 1 1)) (w.alloc (.cells x.al.cs x.al.ty))) (hst : StRunQ P xs)
    (h : ∃ afin : Act, (∀ W', RowKit.Below w.heap.size w W' → wpQuiet P (virtQ ((o :: rest).take n) ((o :: rest).drop n)).toArray (fun w' => ∃ q : Regrown, w' = grow (redrawn W' q.d) q.os) (fun a' => a' = afin) ((virtQ ((o :: rest).take n) ((o :: rest).drop n)).drop 1) { tmps := tm.setIfInBounds d v, defers := df }) ∧ valsQ xs afin ∧
      (∀ (p : Nat → Nat) w', RowKit.Below w.heap.size w w' → (∀ x ∈ xs, Blk w' (p x.al.i) x.al.ty x.fin ∧ w.heap.size ≤ p x.al.i) → (∀ x ∈ xs, ∀ y ∈ xs, x.al.i ≠ y.al.i → p x.al.i ≠ p y.al.i) → wpList P (o :: rest).toArray Q ((o :: rest).drop n) (putsB (fun i => some (p i)) xs afin) w')) : (Code.region id (o :: rest).toArray true).wp P Q { tmps := tm, defers := df } w := by
  refine wp_region_any hm ?_
  have key := any_floatB 1 (w := w) (w1 := { w with drawn := w.drawn + 1 }) ⟨rfl, rfl, rfl, Nat.le_refl _, fun _ _ => rfl⟩ n xs hok hlt hrun hrb hst h
  have h0 : (o :: rest).toArray[0]? = some o := rfl
  have hsz : (o :: rest).toArray.size = rest.length + 1 := by simp
  have hl : (Array.replicate (o :: rest).toArray.size false).setIfInBounds 0 true = lK 1 (o :: rest).length := by
    refine Array.ext (by rw [lK_size (by simp)]; simp) fun i h1 h2 => ?_
    have h3 : i < (o :: rest).length := by simpa using h1
    have h4 := lK_at (k := 1) h3
    rw [Array.getElem?_eq_getElem h2] at h4
    have h5 := Option.some.inj h4
    rw [h5, Array.getElem_setIfInBounds (by simpa using h1)]
    by_cases hi : i = 0
    · subst hi; simp
    · simp [hi, Ne.symm hi]
  have ht : ∀ f, f = rest.length → wpAny P .any (o :: rest).toArray Q (f + 1) (Array.replicate (o :: rest).toArray.size false) { tmps := tm, defers := df } { w with drawn := w.drawn + 1 } := fun f hfe => by
    refine wpAny_take (i := 0) (v := v) h0 hs hf hr hQ (Or.inl ⟨by simp [Region.wanted, hgd], hy⟩) ?_
    rw [hl, hfe]
    have hp : Act.put { tmps := tm, defers := df } o.dst v = { tmps := tm.setIfInBounds d v, defers := df } := by rw [hd]; rfl
    rw [hp]
    exact key
  have := ht rest.length rfl
  rw [← hsz] at this
  exact this
theorem any_start {Q : Exit → Act → World → Prop} {a : Act} {w : World} {l : List Oper} (h : wpAny P .any l.toArray Q (l.length - 0) (lK 0 l.length) a w) : wpAny P .any l.toArray Q l.toArray.size (Array.replicate l.toArray.size false) a w := by
  rw [lK_zero] at h
  simpa using h
theorem lK_succ {k n : Nat} (h : k < n) : (lK k n).setIfInBounds k true = lK (k + 1) n := by
  have hs1 := lK_size (k := k) (n := n) (by omega)
  have hs2 := lK_size (k := k + 1) (n := n) (by omega)
  refine Array.ext (by rw [Array.size_setIfInBounds, hs1, hs2]) fun i h1 h2 => ?_
  have h3 : i < n := by omega
  have h4 := lK_at (k := k + 1) h3
  have h5 := lK_at (k := k) h3
  rw [Array.getElem?_eq_getElem h2] at h4
  rw [Array.getElem?_eq_getElem (by omega)] at h5
  rw [Option.some.inj h4, Array.getElem_setIfInBounds (by omega)]
  by_cases hi : k = i
  · subst hi
    rw [if_pos rfl, if_pos (by omega)]
  · rw [if_neg hi, Option.some.inj h5]
    by_cases hk : i < k
    · rw [if_pos hk, if_pos (by omega)]
    · rw [if_neg hk, if_neg (by omega)]
/-- the next of the first operations, which copies or reckons an address, is taken ahead -/
theorem any_takeK {Q : Exit → Act → World → Prop} {tm : Array Value} {df : List Deferred} {w : World} {l : List Oper} (k : Nat) (d : Tmp) (v : Value) (hk : k < l.length) (hd : (l[k]?).map (fun o => (o.dst, o.guard)) = some (some d, none))
    (hs : Region.noSelect l.toArray = true) (hf : Region.free .any l.toArray (lK k l.length) k = true) (hr : (Region.ready .any l.toArray (lK k l.length)).contains k = true)
    (hQ : ∀ c a w, Q (.panic c) (a.put (some d) v) w → Q (.panic c) a w) (hy : ∀ w, (l[k]?).map (fun o => (execOp (Act.eval { tmps := tm, defers := df }) o).run P w) = some (.ok (.value v) w))
    (h : wpAny P .any l.toArray Q (l.length - (k + 1)) (lK (k + 1) l.length) { tmps := tm.setIfInBounds d v, defers := df } w) : wpAny P .any l.toArray Q (l.length - k) (lK k l.length) { tmps := tm, defers := df } w := by
  have h0 : l[k]? = some l[k] := List.getElem?_eq_getElem hk
  have h1 : l.toArray[k]? = some l[k] := by rw [List.getElem?_toArray]; exact h0
  rw [h0] at hd
  simp only [Option.map_some, Option.some.injEq, Prod.mk.injEq] at hd
  obtain ⟨hd1, hd2⟩ := hd
  have hf1 : l.length - k = l.length - (k + 1) + 1 := by omega
  rw [hf1]
  refine wpAny_take (i := k) (v := v) h1 hs hf hr (by rw [hd1]; exact hQ) (Or.inl ⟨by simp [Region.wanted, hd2], fun w' => ?_⟩) ?_
  · have := hy w'
    rw [h0] at this
    simpa using this
  · rw [lK_succ hk]
    have hp : Act.put { tmps := tm, defers := df } l[k].dst v = { tmps := tm.setIfInBounds d v, defers := df } := by rw [hd1]; rfl
    rw [hp]
    exact h
end
end Go.Proofs.YtldccpmnboebmaaDoor
