/-
  Regions that draw their order, in which boxes are made and written by operations that may come ahead of others: allocations and stores float. No program is named here.
-/
import Derived.Test.YtldccpmnboebmaaDoorLz
import Derived.Test.YtldccpmnboebmaaDoorM2
namespace Go.Proofs.YtldccpmnboebmaaDoor
open Go.RowKit Go.Sort
set_option linter.unusedVariables false

/-- a box of the region: the allocation (or a box that was there: then its key lies beyond the region), the store that writes it: its place, the value's temporary, the row -/
structure Fs where
  al : Al
  st : Option (Nat × Tmp × Array Value)
def Fs.cur (x : Fs) (listed : Array Bool) : Array Value := match x.st with
  | some (j, _, row) => if listed.getD j false = true then row else x.al.cs
  | none => x.al.cs
def Fs.fin (x : Fs) : Array Value := match x.st with
  | some (_, _, row) => row
  | none => x.al.cs
def fltP (o : Oper) : Oper := match o.op with
  | .alloc _ => nopT o
  | .store _ _ _ => nopT o
  | _ => o
def virtP (H T : List Oper) : List Oper := H.map fltP ++ T.map nopT
def isTmp (o : Operand) (d : Tmp) : Bool := match o with
  | .tmp e => e == d
  | _ => false
theorem isTmp_eq {o : Operand} {d : Tmp} (h : isTmp o d = true) : o = .tmp d := by
  unfold isTmp at h
  split at h
  · rw [beq_iff_eq] at h; rw [h]
  · cases h
def alS (xs : List Fs) (ops : Array Oper) (i : Nat) (o : Oper) : Bool := match o.op with
  | .alloc ty => xs.any fun x => x.al.i == i && o.dst == some x.al.d && o.guard == none && x.al.ty == ty
  | .store ty pt vt => o.dst == none && o.guard == none && xs.any fun x => (match x.st with | some (j, v, _) => j == i && isTmp vt v && xs.all (fun y => y.al.d != v) | none => false) && isTmp pt x.al.d && x.al.ty == ty
  | _ => xs.all fun x => !(o.looksAt ops).contains x.al.d && o.dst != some x.al.d
def allS (xs : List Fs) (ops : Array Oper) : Nat → List Oper → Bool
  | _, [] => true
  | k, o :: r => alS xs ops k o && allS xs ops (k + 1) r
theorem allS_at {xs : List Fs} {ops : Array Oper} : ∀ (l : List Oper) (k : Nat), allS xs ops k l = true → ∀ j o, l[j]? = some o → alS xs ops (k + j) o = true
  | [], _, _, j, o, h => by simp at h
  | q :: l, k, hg, j, o, h => by
    unfold allS at hg
    rw [Bool.and_eq_true] at hg
    cases j with
    | zero =>
      simp only [List.getElem?_cons_zero, Option.some.injEq] at h
      subst h
      exact hg.1
    | succ j =>
      simp only [List.getElem?_cons_succ] at h
      have := allS_at l (k + 1) hg.2 j o h
      rw [show k + (j + 1) = k + 1 + j from by omega]
      exact this
theorem putsF_keep (p : Nat → Option Nat) (d : Tmp) : ∀ (als : List Al) (a : Act), (∀ x ∈ als, x.d ≠ d) → (putsF p als a).tmps[d]? = a.tmps[d]?
  | [], a, _ => rfl
  | x :: r, a, h => by
    unfold putsF
    rw [putsF_keep p d r _ fun y hy => h y (by simp [hy])]
    cases hp : p x.i with
    | none => rfl
    | some g =>
      show (a.tmps.setIfInBounds x.d (ptrV g))[d]? = _
      rw [Array.getElem?_setIfInBounds_ne]
      exact h x (by simp)
theorem putsF_slot (p : Nat → Option Nat) : ∀ (als : List Al) (a : Act) (x : Al) (g : Nat), x ∈ als → (als.map (·.d)).Nodup → p x.i = some g → x.d < a.tmps.size → (putsF p als a).tmps[x.d]? = some (ptrV g)
  | [], a, x, g, h, _, _, _ => by simp at h
  | y :: r, a, x, g, h, hd, hp, hs => by
    simp only [List.map_cons, List.nodup_cons] at hd
    unfold putsF
    rcases List.mem_cons.1 h with e | e
    · subst e
      rw [hp]
      simp only
      rw [putsF_keep p x.d r _ fun z hz e => hd.1 (by rw [← e]; exact List.mem_map_of_mem (f := fun z : Al => z.d) hz)]
      show (a.tmps.setIfInBounds x.d (ptrV g))[x.d]? = _
      rw [Array.getElem?_setIfInBounds_self, if_pos hs]
    · refine putsF_slot p r _ x g e hd.2 hp ?_
      cases hq : p y.i with
      | none => exact hs
      | some g' =>
        show x.d < (a.tmps.setIfInBounds y.d (ptrV g')).size
        simpa using hs
theorem eval_at {a : Act} {d : Tmp} {v : Value} (h : a.tmps[d]? = some v) : a.eval (.tmp d) = v := by
  show a.tmps.getD d undef = v
  rw [Array.getD_eq_getD_getElem?, h]
  rfl
theorem fltP_after (o : Oper) : (fltP o).after = o.after := by unfold fltP; split <;> rfl
section
variable {P : Program} {H T : List Oper} {xs : List Fs}
theorem virtP_after : (virtP H T).map (·.after) = (H ++ T).map (·.after) := by
  unfold virtP
  rw [List.map_append, List.map_append, List.map_map, List.map_map]
  congr 1
  exact List.map_congr_left fun o _ => fltP_after o
theorem virtP_len : (virtP H T).length = H.length + T.length := by unfold virtP; simp
theorem virtP_head {i : Nat} {o : Oper} (h : H[i]? = some o) : (virtP H T)[i]? = some (fltP o) := by
  have hi := (List.getElem?_eq_some_iff.1 h).1
  unfold virtP
  rw [List.getElem?_append_left (by simpa using hi), List.getElem?_map, h]
  rfl
theorem ready_virtP (listed : Array Bool) : Region.ready .any (H ++ T).toArray listed = Region.ready .any (virtP H T).toArray listed := by
  unfold Region.ready
  have hs : (H ++ T).toArray.size = (virtP H T).toArray.size := by simp [virtP_len]
  rw [hs]
  refine List.filter_congr fun i _ => ?_
  have h1 : (H ++ T)[i]?.map (·.after) = (virtP H T)[i]?.map (·.after) := by
    rw [← List.getElem?_map, ← List.getElem?_map, virtP_after]
  congr 1
  simp only [List.getElem?_toArray]
  cases e1 : (H ++ T)[i]? with
  | none =>
    cases e2 : (virtP H T)[i]? with
    | none => rfl
    | some b => rw [e1, e2] at h1; cases h1
  | some a =>
    cases e2 : (virtP H T)[i]? with
    | none => rw [e1, e2] at h1; cases h1
    | some b =>
      rw [e1, e2] at h1
      simp only [Option.map_some, Option.some.injEq] at h1
      simp only [Option.map_some, Option.getD_some]
      rw [h1]
theorem dst_virtP (hT : ∀ o ∈ T, o.dst = none) (hall : allS xs (H ++ T).toArray 0 H = true) (g : Nat) (hno : ∀ x ∈ xs, ((H ++ T).toArray[g]?).bind (·.dst) ≠ some x.al.d) : ((H ++ T).toArray[g]?).bind (·.dst) = ((virtP H T).toArray[g]?).bind (·.dst) := by
  simp only [List.getElem?_toArray] at hno ⊢
  by_cases hg : g < H.length
  · obtain ⟨o, ho⟩ : ∃ o, H[g]? = some o := ⟨_, List.getElem?_eq_getElem hg⟩
    rw [real_head ho] at hno ⊢
    rw [virtP_head ho]
    simp only [Option.bind_some] at hno ⊢
    have hb := allS_at H 0 hall g o ho
    unfold alS at hb
    unfold fltP
    split at hb
    · rename_i ty hop
      obtain ⟨x, hx, hb⟩ := List.any_eq_true.1 hb
      simp only [Bool.and_eq_true, beq_iff_eq] at hb
      exact absurd hb.1.1.2 (hno x hx)
    · rename_i ty pt vt hop
      simp only [Bool.and_eq_true, beq_iff_eq] at hb
      rw [hb.1.1]
      rfl
    · rename_i h1 h2
      rfl
  · by_cases hg2 : g < H.length + T.length
    · obtain ⟨o, ho⟩ : ∃ o, T[g - H.length]? = some o := ⟨_, List.getElem?_eq_getElem (by omega)⟩
      have h1 : (H ++ T)[g]? = some o := by rw [List.getElem?_append_right (by omega), ho]
      have h2 : (virtP H T)[g]? = some (nopT o) := by
        unfold virtP
        rw [List.getElem?_append_right (by simp; omega), List.length_map, List.getElem?_map, ho]
        rfl
      rw [h1, h2]
      simp only [Option.bind_some]
      rw [hT o (List.mem_of_getElem? ho)]
      rfl
    · rw [List.getElem?_eq_none (by simp; omega), List.getElem?_eq_none (by rw [virtP_len]; omega)]
theorem wanted_virtP (hT : ∀ o ∈ T, o.dst = none) (hall : allS xs (H ++ T).toArray 0 H = true) (o : Oper) (hno : ∀ x ∈ xs, x.al.d ∉ o.looksAt (H ++ T).toArray) (tmps : Array Value) : Region.wanted o (yielded (H ++ T).toArray tmps) = Region.wanted o (yielded (virtP H T).toArray tmps) := by
  unfold Region.wanted
  cases hg : o.guard with
  | none => rfl
  | some gb =>
    obtain ⟨g, b⟩ := gb
    simp only
    have h := dst_virtP hT hall g fun x hx e => by
      refine hno x hx ?_
      unfold Oper.looksAt
      rw [hg]
      simp only [e]
      simp
    unfold yielded
    rw [h]
theorem nodupS : ∀ {xs : List Fs} {x y : Fs}, (xs.map (·.al.i)).Nodup → x ∈ xs → y ∈ xs → x.al.i = y.al.i → x = y
  | [], x, y, _, h, _, _ => by simp at h
  | z :: r, x, y, hn, hx, hy, e => by
    simp only [List.map_cons, List.nodup_cons] at hn
    rcases List.mem_cons.1 hx with h1 | h1
    · rcases List.mem_cons.1 hy with h2 | h2
      · rw [h1, h2]
      · subst h1
        exact absurd (by rw [e]; exact List.mem_map_of_mem (f := fun z : Fs => z.al.i) h2) hn.1
    · rcases List.mem_cons.1 hy with h2 | h2
      · subst h2
        exact absurd (by rw [← e]; exact List.mem_map_of_mem (f := fun z : Fs => z.al.i) h1) hn.1
      · exact nodupS hn.2 h1 h2 e
def isStore (o : Oper) : Bool := match o.op with
  | .store _ _ _ => true
  | _ => false
structure FltOkS (xs : List Fs) (H T : List Oper) : Prop where
  tdst : ∀ o ∈ T, o.dst = none
  all : allS xs (H ++ T).toArray 0 H = true
  ni : (xs.map (·.al.i)).Nodup
  nd : (xs.map (·.al.d)).Nodup
  alk : ∀ x ∈ xs, (∃ o ty, H[x.al.i]? = some o ∧ o.op = .alloc ty) ∨ H.length + T.length ≤ x.al.i
  sop : ∀ x ∈ xs, ∀ j v row, x.st = some (j, v, row) → ∃ o, H[j]? = some o ∧ isStore o = true ∧ (x.al.i < H.length → reachT 4 (virtP H T) x.al.i o = true) ∧ (∀ k q, (virtP H T)[k]? = some q → q.dst = some v → reachT 4 (virtP H T) k o = true)
  sj : ∀ x ∈ xs, ∀ y ∈ xs, ∀ j v row v' row', x.st = some (j, v, row) → y.st = some (j, v', row') → x.al.i = y.al.i
  one : ndT ((virtP H T).map (·.dst)) = true
  sel : Region.noSelect (virtP H T).toArray = true
  early : ∀ j o, (virtP H T).toArray[j]? = some o → ∀ e ∈ o.after, Region.binds .any e = true → e.on < j
  wait : ∀ o ∈ T, ∀ k, k < H.length → reachT 4 (virtP H T) k o = true
  seq : Region.seqB .any (H ++ T).toArray T.length H.length (Array.replicate H.length true ++ Array.replicate T.length false) = true
def StRun (P : Program) (xs : List Fs) : Prop := ∀ x ∈ xs, ∀ j v row, x.st = some (j, v, row) → (P.info? x.al.ty).map (·.size) = some row.size ∧ x.al.cs.size = row.size ∧ row.all (·.oneCell') = true
theorem cur_same {x : Fs} {l l' : Array Bool} (h : ∀ j v row, x.st = some (j, v, row) → l.getD j false = l'.getD j false) : x.cur l = x.cur l' := by
  unfold Fs.cur
  cases hst : x.st with
  | none => rfl
  | some q =>
    obtain ⟨j, v, row⟩ := q
    simp only
    rw [h j v row hst]
theorem cur_fin {x : Fs} {l : Array Bool} (h : ∀ j v row, x.st = some (j, v, row) → l.getD j false = true) : x.cur l = x.fin := by
  unfold Fs.cur Fs.fin
  cases hst : x.st with
  | none => rfl
  | some q =>
    obtain ⟨j, v, row⟩ := q
    simp only
    rw [if_pos (h j v row hst)]
theorem cur_size {x : Fs} {l : Array Bool} (h : ∀ j v row, x.st = some (j, v, row) → x.al.cs.size = row.size) : (x.cur l).size = x.al.cs.size := by
  unfold Fs.cur
  cases hst : x.st with
  | none => rfl
  | some q =>
    obtain ⟨j, v, row⟩ := q
    simp only
    split
    · exact (h j v row hst).symm
    · rfl
theorem getD_ft {l : Array Bool} {j : Nat} (h : l.getD j true = false) : l.getD j false = false := by
  rw [Array.getD_eq_getD_getElem?] at h ⊢
  cases e : l[j]? with
  | none => rw [e] at h; cases h
  | some b => rw [e] at h; simpa using h
theorem getD_tf {l : Array Bool} {j : Nat} (hj : j < l.size) (h : l.getD j true = true) : l.getD j false = true := by
  rw [Array.getD_eq_getD_getElem?, Array.getElem?_eq_getElem hj] at h ⊢
  exact h
theorem tail_end {B : Nat} {W : World} {afin : Act} {Q : Exit → Act → World → Prop} {p0 : Nat → Option Nat} (hk : FltOkS xs H T)
    (htail : ∀ (p : Nat → Nat) w', RowKit.Below B W w' → (∀ x ∈ xs, Blk w' (p x.al.i) x.al.ty x.fin ∧ B ≤ p x.al.i) → (∀ x ∈ xs, ∀ y ∈ xs, x.al.i ≠ y.al.i → p x.al.i ≠ p y.al.i) → (∀ x ∈ xs, H.length + T.length ≤ x.al.i → p0 x.al.i = some (p x.al.i)) → wpList P (H ++ T).toArray Q T (putsF (fun i => some (p i)) (xs.map (·.al)) afin) w')
    {fuel : Nat} {listed : Array Bool} {a : Act} {p : Nat → Option Nat} {w : World} (hs : listed.size = H.length + T.length) (hf : fuel = unl listed H.length + T.length) (hu : ∀ j, H.length ≤ j → j < H.length + T.length → listed.getD j true = false) (h0 : unl listed H.length = 0)
    (hb : RowKit.Below B W w) (hB : ∀ x ∈ xs, ∀ g, p x.al.i = some g → Blk w g x.al.ty (x.cur listed) ∧ B ≤ g) (hD : ∀ x ∈ xs, ∀ y ∈ xs, x.al.i ≠ y.al.i → ∀ g, p x.al.i = some g → p y.al.i ≠ some g) (hp : ∀ x ∈ xs, listed.getD x.al.i true = false ↔ p x.al.i = none) (hfx : ∀ x ∈ xs, H.length + T.length ≤ x.al.i → p x.al.i = p0 x.al.i)
    (hea : wpAnyQ P .any (virtP H T).toArray (CW W) (fun a' => a' = afin) fuel listed a) : wpAny P .any (H ++ T).toArray Q fuel listed (putsF p (xs.map (·.al)) a) w := by
  have hall := unl_zero h0
  have hea := pin_end fuel listed a hea (fun j o ho hl => by
    have hj := (Array.getElem?_eq_some_iff.1 ho).1
    simp [virtP_len] at hj
    by_cases hjH : j < H.length
    · have := hall j hjH
      rw [this] at hl
      cases hl
    · have h2 : (virtP H T)[j]? = (T[j - H.length]?).map nopT := by
        unfold virtP
        rw [List.getElem?_append_right (by simp; omega), List.length_map, List.getElem?_map]
      rw [List.getElem?_toArray, h2] at ho
      obtain ⟨q, _, rfl⟩ := Option.map_eq_some_iff.1 ho
      rfl)
  have hsome : ∀ x ∈ xs, ∃ g, p x.al.i = some g := fun x hx => by
    cases hpx : p x.al.i with
    | some g => exact ⟨g, rfl⟩
    | none =>
      have h1 := (hp x hx).2 hpx
      rcases hk.alk x hx with ⟨o, ty, ho, _⟩ | h2
      · have h3 := hall x.al.i (List.getElem?_eq_some_iff.1 ho).1
        rw [h3] at h1
        cases h1
      · rw [Array.getD_eq_getD_getElem?, Array.getElem?_eq_none (by omega)] at h1
        cases h1
  have hcur : ∀ x ∈ xs, x.cur listed = x.fin := fun x hx => cur_fin fun j v row hst => by
    obtain ⟨o, ho, _⟩ := hk.sop x hx j v row hst
    have hj := (List.getElem?_eq_some_iff.1 ho).1
    exact getD_tf (by omega) (hall j hj)
  have hw := htail (fun i => (p i).getD 0) w hb (fun x hx => by
    obtain ⟨g, hg⟩ := hsome x hx
    rw [hg, ← hcur x hx]
    exact hB x hx g hg) (fun x hx y hy hxy => by
    obtain ⟨g, hg⟩ := hsome x hx
    obtain ⟨g', hg'⟩ := hsome y hy
    rw [hg, hg']
    simp only [Option.getD_some]
    intro e
    subst e
    exact hD x hx y hy hxy g hg hg') (fun x hx h => by
    obtain ⟨g, hg⟩ := hsome x hx
    rw [← hfx x hx h, hg]
    rfl)
  have hpe : putsF p (xs.map (·.al)) a = putsF (fun i => some ((p i).getD 0)) (xs.map (·.al)) afin := by
    rw [hea]
    refine putsF_congr fun x hx => ?_
    obtain ⟨y, hy, rfl⟩ := List.mem_map.1 hx
    obtain ⟨g, hg⟩ := hsome y hy
    rw [hg]
    rfl
  rw [hpe]
  have hseq := hk.seq
  have hle : listed = Array.replicate H.length true ++ Array.replicate T.length false := listed_is hs hall hu
  rw [← hle] at hseq
  have := wpAny_of_seq (P := P) (Q' := Q) T H.length listed _ w (fun j => by rw [List.getElem?_toArray, List.getElem?_append_right (by omega)]; congr 1; omega) hseq hw
  rw [show T.length = fuel from by omega] at this
  exact this
theorem wpAny_floatS {B : Nat} {W : World} {afin : Act} {Q : Exit → Act → World → Prop} {p0 : Nat → Option Nat} (hBW : B ≤ W.heap.size) (hk : FltOkS xs H T) (hrun : ∀ x ∈ xs, x.al.i < H.length → FltRun P [x.al]) (hst : StRun P xs) (hval : ∀ x ∈ xs, ∀ j v row, x.st = some (j, v, row) → afin.tmps[v]? = some (.agg row)) (hslot : ∀ x ∈ xs, x.al.d < afin.tmps.size)
    (htail : ∀ (p : Nat → Nat) w', RowKit.Below B W w' → (∀ x ∈ xs, Blk w' (p x.al.i) x.al.ty x.fin ∧ B ≤ p x.al.i) → (∀ x ∈ xs, ∀ y ∈ xs, x.al.i ≠ y.al.i → p x.al.i ≠ p y.al.i) → (∀ x ∈ xs, H.length + T.length ≤ x.al.i → p0 x.al.i = some (p x.al.i)) → wpList P (H ++ T).toArray Q T (putsF (fun i => some (p i)) (xs.map (·.al)) afin) w') :
    ∀ (fuel : Nat) (listed : Array Bool) (a : Act) (p : Nat → Option Nat) (w : World), listed.size = H.length + T.length → fuel = unl listed H.length + T.length → (∀ j, H.length ≤ j → j < H.length + T.length → listed.getD j true = false) →
      RowKit.Below B W w → (∀ x ∈ xs, ∀ g, p x.al.i = some g → Blk w g x.al.ty (x.cur listed) ∧ B ≤ g) → (∀ x ∈ xs, ∀ y ∈ xs, x.al.i ≠ y.al.i → ∀ g, p x.al.i = some g → p y.al.i ≠ some g) → (∀ x ∈ xs, listed.getD x.al.i true = false ↔ p x.al.i = none) → (∀ x ∈ xs, H.length + T.length ≤ x.al.i → p x.al.i = p0 x.al.i) → (∀ (j : Nat) o, (virtP H T)[j]? = some o → listed.getD j false = true → ∀ e ∈ o.after, Region.binds .any e = true → listed.getD e.on false = true) →
      (∀ W', RowKit.Below B W W' → wpAnyQ P .any (virtP H T).toArray (CW W') (fun a' => a' = afin) fuel listed a) → wpAny P .any (H ++ T).toArray Q fuel listed (putsF p (xs.map (·.al)) a) w := by
  intro fuel
  induction fuel with
  | zero =>
    intro listed a p w hs hf hu hb hB hD hp hfx hcl hfam
    exact tail_end hk htail hs hf hu (by omega) hb hB hD hp hfx (hfam W ⟨rfl, rfl, rfl, Nat.le_refl _, fun k _ => rfl⟩)
  | succ fuel ih =>
    intro listed a p w hs hf hu hb hB hD hp hfx hcl hfam
    by_cases h0 : unl listed H.length = 0
    · exact tail_end hk htail hs hf hu h0 hb hB hD hp hfx (hfam W ⟨rfl, rfl, rfl, Nat.le_refl _, fun k _ => rfl⟩)
    · obtain ⟨j0, hj0, hjl⟩ := unl_pos h0
      have hni : ((xs.map (·.al)).map (·.i)).Nodup := by rw [List.map_map]; exact hk.ni
      have hnd : ((xs.map (·.al)).map (·.d)).Nodup := by rw [List.map_map]; exact hk.nd
      have hne : Region.ready .any (virtP H T).toArray listed ≠ [] := ready_some (n := j0) (by simp [virtP_len]; omega) (by rw [hs]; simp [virtP_len]) hk.early hjl
      refine ⟨fun e => absurd (by rw [← ready_virtP]; exact e) hne, fun i hi => ?_⟩
      rw [ready_virtP] at hi
      obtain ⟨hil, ov, hov, hiall⟩ := mem_ready.1 hi
      have hiS : i < H.length + T.length := by
        have := (Array.getElem?_eq_some_iff.1 hov).1
        simpa [virtP_len] using this
      have hiH : i < H.length := by
        refine Classical.byContradiction fun hcon => ?_
        have h2 : (virtP H T)[i]? = (T[i - H.length]?).map nopT := by
          unfold virtP
          rw [List.getElem?_append_right (by simp; omega), List.length_map, List.getElem?_map]
        rw [List.getElem?_toArray, h2] at hov
        obtain ⟨q, hq, rfl⟩ := Option.map_eq_some_iff.1 hov
        have h3 := reachT_listed hcl 4 q (fun e he hbn => hiall e he hbn) (hk.wait q (List.mem_of_getElem? hq) j0 hj0)
        have hjs : j0 < listed.size := by omega
        rw [Array.getD_eq_getD_getElem?, Array.getElem?_eq_getElem hjs] at h3 hjl
        simp only [Option.getD_some] at h3 hjl
        rw [h3] at hjl
        cases hjl
      obtain ⟨o, ho⟩ : ∃ o, H[i]? = some o := ⟨_, List.getElem?_eq_getElem hiH⟩
      have hreal : (H ++ T).toArray[i]? = some o := by rw [List.getElem?_toArray]; exact real_head ho
      have hvirt : (virtP H T).toArray[i]? = some (fltP o) := by rw [List.getElem?_toArray]; exact virtP_head ho
      have hoa : ∀ e ∈ o.after, Region.binds .any e = true → listed.getD e.on false = true := fun e he hbn => by
        have hov' : ov = fltP o := by
          rw [hvirt] at hov
          injection hov with hov
          exact hov.symm
        exact hiall e (by rw [hov', fltP_after]; exact he) hbn
      have hilt : i < listed.size := by omega
      have hunl := unl_set hilt hil H.length hiH
      have hb' := allS_at H 0 hk.all i o ho
      rw [Nat.zero_add] at hb'
      -- invariants of the new list
      have hs' : (listed.setIfInBounds i true).size = H.length + T.length := by simpa using hs
      have hf' : fuel = unl (listed.setIfInBounds i true) H.length + T.length := by omega
      have hu' : ∀ j, H.length ≤ j → j < H.length + T.length → (listed.setIfInBounds i true).getD j true = false := fun j h1 h2 => by
        rw [getD_set_ne true (by omega)]
        exact hu j h1 h2
      have hcl' : ∀ (j : Nat) o, (virtP H T)[j]? = some o → (listed.setIfInBounds i true).getD j false = true → ∀ e ∈ o.after, Region.binds .any e = true → (listed.setIfInBounds i true).getD e.on false = true := fun j q hq hl e he hbn => by
        by_cases hji : j = i
        · subst hji
          rw [List.getElem?_toArray, hq] at hov
          injection hov with hov
          subst hov
          exact getD_set_true (hiall e he hbn)
        · rw [getD_set_ne false (fun e => hji e.symm)] at hl
          exact getD_set_true (hcl j q hq hl e he hbn)
      have hset : (listed.setIfInBounds i true).getD i true = true := by
        rw [Array.getD_eq_getD_getElem?, Array.getElem?_setIfInBounds_self]; split <;> rfl
      have hpins : ∀ (hns : isStore o = false), ∀ x ∈ xs, x.cur (listed.setIfInBounds i true) = x.cur listed := fun hns x hx => cur_same fun j v row hst => by
        obtain ⟨q, hq, hqs, _⟩ := hk.sop x hx j v row hst
        have hji : i ≠ j := fun e => by
          subst e
          rw [ho] at hq
          injection hq with hq
          subst hq
          rw [hns] at hqs
          cases hqs
        exact getD_set_ne false hji
      unfold alS at hb'
      split at hb'
      · rename_i ty hop
        obtain ⟨x, hx, hxb⟩ := List.any_eq_true.1 hb'
        simp only [Bool.and_eq_true, beq_iff_eq] at hxb
        obtain ⟨⟨⟨hxi, hxd⟩, hxg⟩, hxt⟩ := hxb
        have hpx : p x.al.i = none := (hp x hx).1 (by rw [hxi]; exact hil)
        have hr := hrun x hx (by omega) x.al (List.mem_singleton.2 rfl) (putsF p (xs.map (·.al)) a).eval o (by rw [hop, hxt]) w
        have hcu := hpins (by unfold isStore; rw [hop])
        unfold wpOp
        rw [hreal]
        simp only
        rw [if_pos (by simp [Region.wanted, hxg])]
        refine .inl ?_
        unfold Oper.wp
        rw [hr]
        show wpAny P .any (H ++ T).toArray Q fuel _ ((putsF p (xs.map (·.al)) a).put o.dst (ptrV w.heap.size)) _
        rw [hxd, ← putsF_new p w.heap.size (xs.map (·.al)) a x.al (List.mem_map_of_mem (f := fun z : Fs => z.al) hx) hni hnd hpx]
        have hcx : x.cur listed = x.al.cs := by
          unfold Fs.cur
          cases hsx : x.st with
          | none => rfl
          | some q =>
            obtain ⟨j, v, row⟩ := q
            simp only
            refine if_neg fun hl => ?_
            obtain ⟨q, hq, _, hre, _⟩ := hk.sop x hx j v row hsx
            have h1 := reachT_listed hcl 4 q (fun e he hbn => by
              have := hcl j (fltP q) (virtP_head hq) hl e (by rw [fltP_after]; exact he) hbn
              exact this) (hre (by omega))
            rw [hxi, getD_ft hil] at h1
            cases h1
        refine ih _ a _ _ hs' hf' hu' (hb.alloc (Nat.le_trans hBW hb.size) _) ?_ ?_ ?_ ?_ hcl' ?_
        · intro y hy g hg
          rw [hcu y hy]
          by_cases hyx : y.al.i = x.al.i
          · have : y = x := nodupS hk.ni hy hx hyx
            subst this
            have hg' : w.heap.size = g := by simpa using hg
            subst hg'
            rw [hcx]
            exact ⟨Blk.new w _ _, Nat.le_trans hBW hb.size⟩
          · simp only [if_neg hyx] at hg
            obtain ⟨h1, h2⟩ := hB y hy g hg
            exact ⟨h1.alloc _, h2⟩
        · intro y hy z hz hyz g hg
          by_cases hyx : y.al.i = x.al.i
          · simp only [if_pos hyx, Option.some.injEq] at hg
            have hzx : ¬ z.al.i = x.al.i := fun e => hyz (hyx.trans e.symm)
            simp only [if_neg hzx]
            intro e
            have := (hB z hz g e).1.lt
            omega
          · simp only [if_neg hyx] at hg
            by_cases hzx : z.al.i = x.al.i
            · simp only [if_pos hzx]
              intro e
              injection e with e
              have := (hB y hy g hg).1.lt
              omega
            · simp only [if_neg hzx]
              exact hD y hy z hz hyz g hg
        · intro y hy
          by_cases hyx : y.al.i = x.al.i
          · simp only [if_pos hyx]
            rw [hyx, hxi, hset]
            simp
          · simp only [if_neg hyx]
            rw [getD_set_ne true (fun e => hyx (by rw [hxi]; exact e.symm))]
            exact hp y hy
        · intro y hy hyl
          have hyx : ¬ y.al.i = x.al.i := fun e => by omega
          simp only [if_neg hyx]
          exact hfx y hy hyl
        · intro W' hW'
          have hq := (hfam W' hW').2 i hi
          unfold qOp at hq
          rw [hvirt] at hq
          have hfl : fltP o = nopT o := by unfold fltP; rw [hop]
          rw [hfl] at hq
          simp only at hq
          rw [if_pos (by simp [Region.wanted, nopT])] at hq
          obtain ⟨v, _, hK⟩ := hq
          exact hK
      · rename_i ty pt vt hop
        simp only [Bool.and_eq_true, beq_iff_eq] at hb'
        obtain ⟨⟨hod, hog⟩, hb'⟩ := hb'
        obtain ⟨x, hx, hxb⟩ := List.any_eq_true.1 hb'
        simp only [Bool.and_eq_true, beq_iff_eq] at hxb
        obtain ⟨⟨hxs, hxp⟩, hxt⟩ := hxb
        have hpt := isTmp_eq hxp
        cases hsx : x.st with
        | none => rw [hsx] at hxs; cases hxs
        | some q =>
        obtain ⟨j, v, row⟩ := q
        rw [hsx] at hxs
        simp only [Bool.and_eq_true, beq_iff_eq] at hxs
        obtain ⟨⟨hji, hxv⟩, hxd⟩ := hxs
        subst hji
        have hvt := isTmp_eq hxv
        obtain ⟨q, hq, _, hre, hrv⟩ := hk.sop x hx j v row hsx
        rw [ho] at hq
        injection hq with hq
        subst hq
        obtain ⟨hs1, hs2, hs3⟩ := hst x hx j v row hsx
        have hfl : fltP o = nopT o := by unfold fltP; rw [hop]
        -- the box is there
        obtain ⟨g, hg⟩ : ∃ g, p x.al.i = some g := by
          cases hpx : p x.al.i with
          | some g => exact ⟨g, rfl⟩
          | none =>
            have h1 := (hp x hx).2 hpx
            by_cases hxl : x.al.i < H.length
            · have h2 := reachT_listed hcl 4 o hoa (hre hxl)
              rw [getD_ft h1] at h2
              cases h2
            · rcases hk.alk x hx with ⟨o', ty', ho', _⟩ | h2
              · exact absurd (List.getElem?_eq_some_iff.1 ho').1 hxl
              · rw [Array.getD_eq_getD_getElem?, Array.getElem?_eq_none (by omega)] at h1
                cases h1
        obtain ⟨hblk, hgB⟩ := hB x hx g hg
        have hvw := hfam w hb
        -- the pointer
        have hptr : (putsF p (xs.map (·.al)) a).eval pt = .pointer (some ⟨g, 0, none⟩) := by
          rw [hpt]
          refine eval_at (putsF_slot p (xs.map (·.al)) a x.al g (List.mem_map_of_mem (f := fun z : Fs => z.al) hx) hnd hg ?_)
          have h1 := pin_slot (d := x.al.d) (fuel + 1) listed a hvw (fun k q hq hl e => by
            rw [List.getElem?_toArray] at hq
            by_cases hkH : k < H.length
            · obtain ⟨r, hr⟩ : ∃ r, H[k]? = some r := ⟨_, List.getElem?_eq_getElem hkH⟩
              rw [virtP_head hr] at hq
              injection hq with hq
              have h2 := allS_at H 0 hk.all k r hr
              unfold alS at h2
              subst hq
              unfold fltP at e
              split at h2
              · rename_i hr2
                rw [hr2] at e
                cases e
              · rename_i hr2
                rw [hr2] at e
                cases e
              · rename_i hn1 hn2
                have h3 := List.all_eq_true.1 h2 x hx
                simp only [Bool.and_eq_true, bne_iff_ne] at h3
                refine h3.2 ?_
                split at e
                · rename_i ty' he; exact absurd he (hn1 ty')
                · rename_i ty' pt' vt' he; exact absurd he (hn2 ty' pt' vt')
                · exact e
            · have h2 : (virtP H T)[k]? = (T[k - H.length]?).map nopT := by
                unfold virtP
                rw [List.getElem?_append_right (by simp; omega), List.length_map, List.getElem?_map]
              rw [h2] at hq
              obtain ⟨r, _, rfl⟩ := Option.map_eq_some_iff.1 hq
              cases e)
          rw [Array.getElem?_eq_getElem (hslot x hx)] at h1
          exact (Array.getElem?_eq_some_iff.1 h1).1
        have hvalue : (putsF p (xs.map (·.al)) a).eval vt = .agg row := by
          rw [hvt]
          refine eval_at ?_
          rw [putsF_keep p v (xs.map (·.al)) a (fun z hz e => by
            obtain ⟨y, hy, rfl⟩ := List.mem_map.1 hz
            have := List.all_eq_true.1 hxd y hy
            simp only [bne_iff_ne] at this
            exact this e)]
          rw [← hval x hx j v row hsx]
          refine pin_slot (fuel + 1) listed a hvw fun k q hq hl e => ?_
          rw [List.getElem?_toArray] at hq
          have h2 := reachT_listed hcl 4 o hoa (hrv k q hq e)
          rw [getD_ft hl] at h2
          cases h2
        unfold wpOp
        rw [hreal]
        simp only
        rw [if_pos (by simp [Region.wanted, hog])]
        refine .inl ?_
        refine wp_storeG ty pt vt (x.cur listed) row hop hptr hvalue hblk (by rw [← hxt]; exact hs1) (by rw [cur_size fun j' v' row' h => (hst x hx j' v' row' h).2.1]; exact hs2) hs3 hod ?_
        refine ih _ a p _ hs' hf' hu' (row_below hb hgB row) ?_ hD ?_ hfx hcl' ?_
        · intro y hy g' hg'
          by_cases hyx : y.al.i = x.al.i
          · have : y = x := nodupS hk.ni hy hx hyx
            subst this
            rw [hg] at hg'
            injection hg' with hg'
            subst hg'
            have hcn : y.cur (listed.setIfInBounds j true) = row := by
              unfold Fs.cur
              rw [hsx]
              simp only
              exact if_pos (getD_tf (by simpa using hilt) hset)
            rw [hcn]
            exact ⟨blk_row hblk, hgB⟩
          · obtain ⟨h1, h2⟩ := hB y hy g' hg'
            have hcn : y.cur (listed.setIfInBounds j true) = y.cur listed := cur_same fun j' v' row' hsy => by
              refine getD_set_ne false fun e => ?_
              subst e
              exact hyx (hk.sj y hy x hx j v' row' v row hsy hsx)
            rw [hcn]
            refine ⟨h1.same (setRow_other w g g' row ?_), h2⟩
            intro e
            subst e
            exact hD y hy x hx hyx g' hg' hg
        · intro y hy
          have hyi : y.al.i ≠ j := fun e => by
            rcases hk.alk y hy with ⟨o', ty', ho', hal⟩ | h2
            · rw [e, ho] at ho'
              injection ho' with ho'
              subst ho'
              rw [hop] at hal
              cases hal
            · omega
          rw [getD_set_ne true (fun e => hyi e.symm)]
          exact hp y hy
        · intro W' hW'
          have hq := (hfam W' hW').2 j hi
          unfold qOp at hq
          rw [hvirt] at hq
          rw [hfl] at hq
          simp only at hq
          rw [if_pos (by simp [Region.wanted, nopT])] at hq
          obtain ⟨v, _, hK⟩ := hq
          exact hK
      · rename_i hop hop2
        have hno : ∀ x ∈ xs, x.al.d ∉ o.looksAt (H ++ T).toArray ∧ o.dst ≠ some x.al.d := fun x hx => by
          have := List.all_eq_true.1 hb' x hx
          simp only [Bool.and_eq_true, Bool.not_eq_true', bne_iff_ne] at this
          refine ⟨fun hm => ?_, this.2⟩
          have h2 : (o.looksAt (H ++ T).toArray).contains x.al.d = true := by rw [List.contains_iff_mem]; exact hm
          rw [h2] at this
          cases this.1
        have hnoA : ∀ z ∈ xs.map (·.al), z.d ∉ o.looksAt (H ++ T).toArray := fun z hz => by
          obtain ⟨y, hy, rfl⟩ := List.mem_map.1 hz
          exact (hno y hy).1
        have hcu := hpins (by unfold isStore; split <;> first | (rename_i ty pt vt h2; exact absurd h2 (hop2 ty pt vt)) | rfl)
        have hfl : fltP o = o := by unfold fltP; split <;> first | (rename_i ty h2; exact absurd h2 (hop ty)) | (rename_i ty pt vt h2; exact absurd h2 (hop2 ty pt vt)) | rfl
        have hsl : ∀ cs b, o.op ≠ .select cs b := by
          have := Region.noSelect_spec hk.sel i (fltP o)
          rw [hfl] at this
          exact fun cs b => this cs b (by rw [hvirt, hfl])
        obtain ⟨v, hy, hK⟩ := yieldsIn_of_qOp (by rw [hvirt, hfl]) ((hfam w hb).2 i hi)
        have hfam' : ∀ W', RowKit.Below B W W' → wpAnyQ P .any (virtP H T).toArray (CW W') (fun a' => a' = afin) fuel (listed.setIfInBounds i true) (a.put o.dst v) := fun W' hW' => by
          obtain ⟨v', _, hK'⟩ := yieldsIn_of_qOp (by rw [hvirt, hfl]) ((hfam W' hW').2 i hi)
          have : a.put o.dst v' = a.put o.dst v := put_one fun e he => by
            have hone : ∀ (j : Nat) q, (virtP H T).toArray[j]? = some q → (listed.setIfInBounds i true).getD j true = false → q.dst ≠ some e := fun j q hq hl hqe => by
              have hji : j = i := ndT_at _ hk.one j i e (by rw [List.getElem?_map]; rw [List.getElem?_toArray] at hq; rw [hq]; simp [hqe]) (by rw [List.getElem?_map]; rw [List.getElem?_toArray] at hvirt; rw [hvirt, hfl]; simp [he])
              subst hji
              rw [hset] at hl
              cases hl
            rw [pin_slot fuel _ _ hK' hone, pin_slot fuel _ _ hK hone]
          rw [← this]
          exact hK'
        have hp' : ∀ x ∈ xs, (listed.setIfInBounds i true).getD x.al.i true = false ↔ p x.al.i = none := fun x hx => by
          have hxi : x.al.i ≠ i := fun e => by
            rcases hk.alk x hx with ⟨q, ty, hq1, hq2⟩ | h2
            · rw [e, ho] at hq1
              injection hq1 with hq1
              subst hq1
              exact hop _ hq2
            · omega
          rw [getD_set_ne true (fun e => hxi e.symm)]
          exact hp x hx
        have hgo : ∀ w'', RowKit.Below w.heap.size w w'' → wpAny P .any (H ++ T).toArray Q fuel (listed.setIfInBounds i true) ((putsF p (xs.map (·.al)) a).put o.dst v) w'' := fun w'' hw'' => by
          rw [← putsF_put p (xs.map (·.al)) a fun z hz => by
            obtain ⟨y, hy, rfl⟩ := List.mem_map.1 hz
            exact (hno y hy).2]
          exact ih _ _ p w'' hs' hf' hu' (hb.trans (hw''.mono (Nat.le_trans hBW hb.size))) (fun x hx g hg => by
            obtain ⟨h1, h2⟩ := hB x hx g hg
            rw [hcu x hx]
            exact ⟨h1.same (hw''.block _ h1.lt), h2⟩) hD hp' hfx hcl' hfam'
        unfold wpOp
        rw [hreal]
        simp only
        rw [putsF_wanted p o (xs.map (·.al)) a hnoA, wanted_virtP hk.tdst hk.all o (fun x hx => (hno x hx).1)]
        rcases hy with ⟨hw1, hw2⟩ | ⟨hw1, rfl⟩
        · rw [if_pos hw1]
          refine .inl ?_
          have h3 := hw2 w (cw_self w)
          unfold Oper.quietAt at h3
          unfold Oper.wp
          rw [putsF_eval (ops := (H ++ T).toArray) p o hsl (xs.map (·.al)) a hnoA]
          generalize (execOp a.eval o).run P w = r at h3 ⊢
          cases r with
          | ok n w' =>
            cases n <;> simp only [Oper.quietUpon] at h3 <;> simp only [Oper.upon]
            case value u =>
              obtain ⟨e1, e2⟩ := h3
              rw [e1, e2]
              exact hgo w (RowKit.Below.refl _ _)
            case skip =>
              obtain ⟨e1, e2⟩ := h3
              rw [e1, ← e2]
              exact hgo w (RowKit.Below.refl _ _)
            case enter f args =>
              obtain ⟨e1, hc⟩ := h3
              rw [e1]
              refine hc.mono fun e w'' ⟨he, q, hq⟩ => ?_
              subst he hq
              exact hgo _ (below_regrown w q.d q.os)
          | halt x w' => simp only [Oper.quietUpon] at h3
        · rw [if_neg (by rw [hw1]; simp)]
          exact hgo w (RowKit.Below.refl _ _)
def stB (xs : List Fs) (H V : List Oper) : Bool := xs.all fun x => match x.st with
  | none => true
  | some (j, v, _) => match H[j]? with
    | some o => isStore o && (decide (H.length ≤ x.al.i) || reachT 4 V x.al.i o) && (List.range V.length).all fun k => match V[k]? with
      | some q => q.dst != some v || reachT 4 V k o
      | none => true
    | none => false
def uqB (xs : List Fs) : Bool := xs.all fun x => xs.all fun y => match x.st, y.st with
  | some (j, _, _), some (k, _, _) => j != k || x.al.i == y.al.i
  | _, _ => true
def akB (xs : List Fs) (H : List Oper) (n : Nat) : Bool := xs.all fun x => decide (n ≤ x.al.i) || match H[x.al.i]? with
  | some o => (match o.op with | .alloc _ => true | _ => false)
  | none => false
def fltBS (xs : List Fs) (H T : List Oper) : Bool :=
  (T.all fun o => o.dst == none) && allS xs (H ++ T).toArray 0 H && decide (xs.map (·.al.i)).Nodup && decide (xs.map (·.al.d)).Nodup && akB xs H (H.length + T.length) && stB xs H (virtP H T) && uqB xs &&
  ndT ((virtP H T).map (·.dst)) && Region.noSelect (virtP H T).toArray && goodT 0 ((virtP H T).map (rowT (virtP H T).toArray)) &&
  (T.all fun o => (List.range H.length).all fun k => reachT 4 (virtP H T) k o) && Region.seqB .any (H ++ T).toArray T.length H.length (Array.replicate H.length true ++ Array.replicate T.length false)
theorem flt_okS (h : fltBS xs H T = true) : FltOkS xs H T := by
  unfold fltBS at h
  simp only [Bool.and_eq_true, decide_eq_true_eq] at h
  obtain ⟨⟨⟨⟨⟨⟨⟨⟨⟨⟨⟨h1, h2⟩, h3⟩, h4⟩, h5⟩, h6⟩, h7⟩, h8⟩, h9⟩, h10⟩, h11⟩, h12⟩ := h
  refine ⟨fun o ho => by have := List.all_eq_true.1 h1 o ho; simpa using this, h2, h3, h4, fun x hx => ?_, fun x hx j v row hst => ?_, fun x hx y hy j v row v' row' hsx hsy => ?_, h8, h9, fun j o ho e he hb => ?_, fun o ho k hk => List.all_eq_true.1 (List.all_eq_true.1 h11 o ho) k (List.mem_range.2 hk), h12⟩
  · have := List.all_eq_true.1 h5 x hx
    rw [Bool.or_eq_true] at this
    rcases this with h | h
    · exact .inr (of_decide_eq_true h)
    · cases ho : H[x.al.i]? with
      | none => rw [ho] at h; cases h
      | some o =>
        rw [ho] at h
        simp only at h
        split at h
        · rename_i ty hop
          exact .inl ⟨o, ty, rfl, hop⟩
        · cases h
  · have := List.all_eq_true.1 h6 x hx
    rw [hst] at this
    simp only at this
    cases ho : H[j]? with
    | none => rw [ho] at this; cases this
    | some o =>
      rw [ho] at this
      simp only [Bool.and_eq_true, Bool.or_eq_true, decide_eq_true_eq] at this
      refine ⟨o, rfl, this.1.1, fun hx => ?_, fun k q hq hd => ?_⟩
      · rcases this.1.2 with h | h
        · omega
        · exact h
      · have hk := (List.getElem?_eq_some_iff.1 hq).1
        have h := List.all_eq_true.1 this.2 k (List.mem_range.2 hk)
        rw [hq] at h
        simp only [Bool.or_eq_true, bne_iff_ne] at h
        rcases h with h | h
        · exact absurd hd h
        · exact h
  · have := List.all_eq_true.1 (List.all_eq_true.1 h7 x hx) y hy
    rw [hsx, hsy] at this
    simp only [Bool.or_eq_true, bne_iff_ne, beq_iff_eq] at this
    rcases this with h | h
    · exact absurd rfl h
    · exact h
  · have := good_early (virtP H T) 0 h10 j o (by simpa using ho) e he hb
    omega
/-- p0: the boxes that were there ahead of the region (their keys lie beyond it) -/
theorem wp_region_floatS {id : Nat} {Q : Exit → Act → World → Prop} {a : Act} {w : World} {l : List Oper} (n B : Nat) (xs : List Fs) (p0 : Nat → Option Nat) (hm : P.follows .mixedOrders = true) (hok : fltBS xs (l.take n) (l.drop n) = true) (hrun : ∀ x ∈ xs, x.al.i < (l.take n).length → FltRun P [x.al]) (hst : StRun P xs)
    (hBW : B ≤ w.heap.size) (hp0 : ∀ x ∈ xs, (x.al.i < l.length → p0 x.al.i = none) ∧ (l.length ≤ x.al.i → ∃ g, p0 x.al.i = some g ∧ Blk w g x.al.ty x.al.cs ∧ B ≤ g)) (hpd : ∀ x ∈ xs, ∀ y ∈ xs, x.al.i ≠ y.al.i → ∀ g, p0 x.al.i = some g → p0 y.al.i ≠ some g) (hpa : putsF p0 (xs.map (·.al)) a = a)
    (h : ∃ afin : Act, (∀ W', RowKit.Below B w W' → wpQuiet P (virtP (l.take n) (l.drop n)).toArray (fun w' => ∃ q : Regrown, w' = grow (redrawn W' q.d) q.os) (fun a' => a' = afin) (virtP (l.take n) (l.drop n)) a) ∧
      (∀ x ∈ xs, ∀ j v row, x.st = some (j, v, row) → afin.tmps[v]? = some (.agg row)) ∧ (∀ x ∈ xs, x.al.d < afin.tmps.size) ∧
      (∀ (p : Nat → Nat) w', RowKit.Below B w w' → (∀ x ∈ xs, Blk w' (p x.al.i) x.al.ty x.fin ∧ B ≤ p x.al.i) → (∀ x ∈ xs, ∀ y ∈ xs, x.al.i ≠ y.al.i → p x.al.i ≠ p y.al.i) → (∀ x ∈ xs, l.length ≤ x.al.i → p0 x.al.i = some (p x.al.i)) → wpList P l.toArray Q (l.drop n) (putsF (fun i => some (p i)) (xs.map (·.al)) afin) w')) : (Code.region id l.toArray true).wp P Q a w := by
  obtain ⟨afin, hwalk, hval, hslot, htail⟩ := h
  have hsplit : l = l.take n ++ l.drop n := (List.take_append_drop n l).symm
  have hlen : l.length = (l.take n).length + (l.drop n).length := by rw [← List.length_append, ← hsplit]
  rw [hlen] at htail hp0
  obtain ⟨H, hH⟩ : ∃ H, l.take n = H := ⟨_, rfl⟩
  obtain ⟨T, hT⟩ : ∃ T, l.drop n = T := ⟨_, rfl⟩
  rw [hH, hT] at hok hwalk hsplit hp0 htail
  rw [hH] at hrun
  rw [hsplit] at htail ⊢
  clear hH hT hsplit hlen
  have hk := flt_okS hok
  have hg : goodT 0 ((virtP H T).map (rowT (virtP H T).toArray)) = true := by
    unfold fltBS at hok
    simp only [Bool.and_eq_true, decide_eq_true_eq] at hok
    exact hok.1.1.2
  have hlex := lexB_of_good hk.sel hg
  unfold Region.lexB at hlex
  rw [Bool.and_eq_true] at hlex
  refine wp_region_any hm ?_
  have hsz : (H ++ T).toArray.size = H.length + T.length := by simp
  have hsz2 : (virtP H T).toArray.size = H.length + T.length := by simp [virtP_len]
  have hfr : ∀ j, (Array.replicate (H.length + T.length) false).getD j false = false := fun j => by
    rw [Array.getD_eq_getD_getElem?, Array.getElem?_replicate]
    split <;> rfl
  have key := wpAny_floatS (P := P) (B := B) (W := w) (afin := afin) (Q := Q) (p0 := p0) hBW hk hrun hst hval hslot htail (H.length + T.length) (Array.replicate (H.length + T.length) false) a p0 { w with drawn := w.drawn + 1 } (by simp) (by rw [unl_fresh _ (by omega)]) (fun j h1 h2 => by
      rw [Array.getD_eq_getD_getElem?, Array.getElem?_replicate, if_pos h2]; rfl) ⟨rfl, rfl, rfl, Nat.le_refl _, fun k _ => rfl⟩ (fun x hx g hg => by
      have hc : x.cur (Array.replicate (H.length + T.length) false) = x.al.cs := by
        unfold Fs.cur
        split
        · exact if_neg (by rw [hfr]; simp)
        · rfl
      rw [hc]
      by_cases hx2 : x.al.i < H.length + T.length
      · rw [(hp0 x hx).1 hx2] at hg; cases hg
      · obtain ⟨g', h1, h2, h3⟩ := (hp0 x hx).2 (by omega)
        rw [h1] at hg
        injection hg with hg
        subst hg
        exact ⟨h2, h3⟩) hpd (fun x hx => by
      by_cases hx2 : x.al.i < H.length + T.length
      · rw [Array.getD_eq_getD_getElem?, Array.getElem?_replicate, if_pos hx2, (hp0 x hx).1 hx2]
        simp
      · obtain ⟨g', h1, h2, h3⟩ := (hp0 x hx).2 (by omega)
        rw [Array.getD_eq_getD_getElem?, Array.getElem?_replicate, if_neg hx2, h1]
        simp) (fun x hx _ => rfl) (fun j o _ hl => by
      rw [hfr] at hl
      cases hl) (fun W' hW' => by
      have H1 := wpAnyQ_lex (P := P) (C := CW W') (md := .any) hk.sel (virtP H T) 0 (Array.replicate (virtP H T).toArray.size false) a (by simp) (by simpa using hlex.2) (hwalk W' hW')
      rw [hsz2, virtP_len] at H1
      exact H1)
  rw [hpa] at key
  rw [hsz]
  exact key
def valsAt : List Fs → Act → Prop
  | [], _ => True
  | x :: r, a => (match x.st with | some (_, v, row) => a.tmps[v]? = some (.agg row) | none => True) ∧ x.al.d < a.tmps.size ∧ valsAt r a
theorem valsAt_val : ∀ {xs : List Fs} {a : Act}, valsAt xs a → ∀ x ∈ xs, ∀ j v row, x.st = some (j, v, row) → a.tmps[v]? = some (.agg row)
  | [], a, _, x, hx, _, _, _, _ => by simp at hx
  | y :: r, a, h, x, hx, j, v, row, hst => by
    rcases List.mem_cons.1 hx with e | e
    · subst e
      have := h.1
      rw [hst] at this
      exact this
    · exact valsAt_val h.2.2 x e j v row hst
theorem valsAt_slot : ∀ {xs : List Fs} {a : Act}, valsAt xs a → ∀ x ∈ xs, x.al.d < a.tmps.size
  | [], a, _, x, hx => by simp at hx
  | y :: r, a, h, x, hx => by
    rcases List.mem_cons.1 hx with e | e
    · subst e; exact h.2.1
    · exact valsAt_slot h.2.2 x e
/-- no box was there ahead of the region -/
theorem wp_region_floatA {id : Nat} {Q : Exit → Act → World → Prop} {a : Act} {w : World} {l : List Oper} (n : Nat) (xs : List Fs) (hm : P.follows .mixedOrders = true) (hok : fltBS xs (l.take n) (l.drop n) = true) (hlt : (xs.all fun x => decide (x.al.i < l.length)) = true) (hrun : ∀ x ∈ xs, FltRun P [x.al]) (hst : StRun P xs)
    (h : ∃ afin : Act, (∀ W', RowKit.Below w.heap.size w W' → wpQuiet P (virtP (l.take n) (l.drop n)).toArray (fun w' => ∃ q : Regrown, w' = grow (redrawn W' q.d) q.os) (fun a' => a' = afin) (virtP (l.take n) (l.drop n)) a) ∧ valsAt xs afin ∧
      (∀ (p : Nat → Nat) w', RowKit.Below w.heap.size w w' → (∀ x ∈ xs, Blk w' (p x.al.i) x.al.ty x.fin ∧ w.heap.size ≤ p x.al.i) → (∀ x ∈ xs, ∀ y ∈ xs, x.al.i ≠ y.al.i → p x.al.i ≠ p y.al.i) → wpList P l.toArray Q (l.drop n) (putsF (fun i => some (p i)) (xs.map (·.al)) afin) w')) : (Code.region id l.toArray true).wp P Q a w := by
  obtain ⟨afin, h1, h2, h3⟩ := h
  have hlt' : ∀ x ∈ xs, x.al.i < l.length := fun x hx => of_decide_eq_true (List.all_eq_true.1 hlt x hx)
  exact wp_region_floatS n w.heap.size xs (fun _ => none) hm hok (fun x hx _ => hrun x hx) hst (Nat.le_refl _) (fun x hx => ⟨fun _ => rfl, fun h => absurd (hlt' x hx) (by omega)⟩) (fun x _ y _ _ g hg => by cases hg) (putsF_none _ _)
    ⟨afin, h1, valsAt_val h2, valsAt_slot h2, fun p w' a1 a2 a3 _ => h3 p w' a1 a2 a3⟩
end
end Go.Proofs.YtldccpmnboebmaaDoor
