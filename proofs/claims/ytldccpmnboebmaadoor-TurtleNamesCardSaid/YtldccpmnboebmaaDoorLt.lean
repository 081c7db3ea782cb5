/-
  As Ls, and a slice of one element may be built by an operation that floats; behind the head comes a tail in the order of the text, of whatever operations. No program is named here.
-/
import Derived.Test.YtldccpmnboebmaaDoorLs
namespace Go.Proofs.YtldccpmnboebmaaDoor
open Go.RowKit Go.Sort
set_option linter.unusedVariables false

/-- a box of the region: the allocation (or a box that was there: then its key lies beyond the region), the store that writes it: its place, the value's temporary, the row; or the slice of one element that is built: the element's temporary, the element -/
structure Fb where
  al : Al
  st : Option (Nat × Tmp × Array Value)
  bs : Option (Tmp × Value)
def Fb.mk' (x : Fb) (g : Nat) : Value := match x.bs with
  | none => ptrV g
  | some _ => .slice (some ⟨g, 0, none⟩) 1 1
def Fb.cur (x : Fb) (listed : Array Bool) : Array Value := match x.st with
  | some (j, _, row) => if listed.getD j false = true then row else x.al.cs
  | none => x.al.cs
def Fb.fin (x : Fb) : Array Value := match x.st with
  | some (_, _, row) => row
  | none => x.al.cs
def fltQ (o : Oper) : Oper := match o.op with
  | .alloc _ => nopT o
  | .store _ _ _ => nopT o
  | .buildSlice _ _ _ => nopT o
  | _ => o
def virtQ (H T : List Oper) : List Oper := H.map fltQ ++ T.map nopT
def putsB (p : Nat → Option Nat) : List Fb → Act → Act
  | [], a => a
  | x :: r, a => putsB p r (match p x.al.i with | some g => a.put (some x.al.d) (x.mk' g) | none => a)
theorem putsB_put (p : Nat → Option Nat) {e : Option Tmp} {v : Value} : ∀ (xs : List Fb) (a : Act), (∀ x ∈ xs, e ≠ some x.al.d) → putsB p xs (a.put e v) = (putsB p xs a).put e v
  | [], a, _ => rfl
  | x :: r, a, h => by
    unfold putsB
    cases hp : p x.al.i with
    | none => exact putsB_put p r a fun y hy => h y (by simp [hy])
    | some g =>
      simp only
      rw [Act.put_comm a v (x.mk' g) (fun d hd => by
        intro e'
        injection e' with e'
        subst e'
        exact h x (by simp) hd)]
      exact putsB_put p r _ fun y hy => h y (by simp [hy])
theorem putsB_upd (p : Nat → Option Nat) (k g : Nat) : ∀ (xs : List Fb) (a : Act), (∀ x ∈ xs, x.al.i ≠ k) → putsB (fun j => if j = k then some g else p j) xs a = putsB p xs a
  | [], a, _ => rfl
  | x :: r, a, h => by
    unfold putsB
    rw [if_neg (h x (by simp))]
    exact putsB_upd p k g r _ fun y hy => h y (by simp [hy])
theorem putsB_new (p : Nat → Option Nat) (g : Nat) : ∀ (xs : List Fb) (a : Act) (x : Fb), x ∈ xs → (xs.map (·.al.i)).Nodup → (xs.map (·.al.d)).Nodup → p x.al.i = none →
    putsB (fun j => if j = x.al.i then some g else p j) xs a = (putsB p xs a).put (some x.al.d) (x.mk' g)
  | [], a, x, h, _, _, _ => by simp at h
  | y :: r, a, x, h, hi, hd, hp => by
    simp only [List.map_cons, List.nodup_cons] at hi hd
    unfold putsB
    rcases List.mem_cons.1 h with e | e
    · subst e
      rw [if_pos rfl, hp]
      simp only
      rw [putsB_upd p x.al.i g r _ (fun z hz e => hi.1 (by rw [← e]; exact List.mem_map_of_mem (f := fun z : Fb => z.al.i) hz))]
      exact putsB_put p r a fun z hz e => by
        injection e with e
        exact hd.1 (by rw [e]; exact List.mem_map_of_mem (f := fun z : Fb => z.al.d) hz)
    · have hne : y.al.i ≠ x.al.i := fun e' => hi.1 (by rw [e']; exact List.mem_map_of_mem (f := fun z : Fb => z.al.i) e)
      rw [if_neg hne]
      exact putsB_new p g r _ x e hi.2 hd.2 hp
theorem putsB_eval {ops : Array Oper} (p : Nat → Option Nat) (o : Oper) (hs : ∀ cs b, o.op ≠ .select cs b) : ∀ (xs : List Fb) (a : Act), (∀ x ∈ xs, x.al.d ∉ o.looksAt ops) → execOp (putsB p xs a).eval o = execOp a.eval o
  | [], a, _ => rfl
  | x :: r, a, h => by
    unfold putsB
    rw [putsB_eval (ops := ops) p o hs r _ fun y hy => h y (by simp [hy])]
    cases hp : p x.al.i with
    | none => rfl
    | some g => exact execOp_put (ops := ops) o hs a (some x.al.d) (x.mk' g) fun d hd => by injection hd with hd; subst hd; exact h x (by simp)
theorem putsB_wanted {ops : Array Oper} (p : Nat → Option Nat) (o : Oper) : ∀ (xs : List Fb) (a : Act), (∀ x ∈ xs, x.al.d ∉ o.looksAt ops) → Region.wanted o (yielded ops (putsB p xs a).tmps) = Region.wanted o (yielded ops a.tmps)
  | [], a, _ => rfl
  | x :: r, a, h => by
    unfold putsB
    rw [putsB_wanted p o r _ fun y hy => h y (by simp [hy])]
    cases hp : p x.al.i with
    | none => rfl
    | some g => exact wanted_put o a (some x.al.d) (x.mk' g) fun d hd => by injection hd with hd; subst hd; exact h x (by simp)
theorem putsB_congr {p q : Nat → Option Nat} : ∀ {xs : List Fb} {a : Act}, (∀ x ∈ xs, p x.al.i = q x.al.i) → putsB p xs a = putsB q xs a
  | [], a, _ => rfl
  | x :: r, a, h => by
    unfold putsB
    rw [h x (by simp)]
    exact putsB_congr fun y hy => h y (by simp [hy])
theorem putsB_none : ∀ (xs : List Fb) (a : Act), putsB (fun _ => none) xs a = a
  | [], a => rfl
  | x :: r, a => by unfold putsB; exact putsB_none r a
def alQ (xs : List Fb) (ops : Array Oper) (n i : Nat) (o : Oper) : Bool := match o.op with
  | .alloc ty => xs.any fun x => x.al.i == i && o.dst == some x.al.d && o.guard == none && x.al.ty == ty && x.bs.isNone
  | .store ty pt vt => o.dst == none && o.guard == none && xs.any fun x => (match x.st with | some (j, v, _) => j == i && isTmp vt v && xs.all (fun y => y.al.d != v) | none => false) && isTmp pt x.al.d && x.al.ty == ty && x.bs.isNone
  | .buildSlice _ _ _ => o.guard == none && xs.any fun x => x.al.i == i && o.dst == some x.al.d && (match x.bs with | some (v, _) => xs.all (fun y => y.al.d != v) | none => false)
  | _ => (xs.all fun x => !(o.looksAt ops).contains x.al.d && o.dst != some x.al.d) && (match o.guard with | some (g, _) => decide (g < n) | none => true)
def allQ (xs : List Fb) (ops : Array Oper) (n : Nat) : Nat → List Oper → Bool
  | _, [] => true
  | k, o :: r => alQ xs ops n k o && allQ xs ops n (k + 1) r
theorem allQ_at {xs : List Fb} {ops : Array Oper} {n : Nat} : ∀ (l : List Oper) (k : Nat), allQ xs ops n k l = true → ∀ j o, l[j]? = some o → alQ xs ops n (k + j) o = true
  | [], _, _, j, o, h => by simp at h
  | q :: l, k, hg, j, o, h => by
    unfold allQ at hg
    rw [Bool.and_eq_true] at hg
    cases j with
    | zero =>
      simp only [List.getElem?_cons_zero, Option.some.injEq] at h
      subst h
      exact hg.1
    | succ j =>
      simp only [List.getElem?_cons_succ] at h
      have := allQ_at l (k + 1) hg.2 j o h
      rw [show k + (j + 1) = k + 1 + j from by omega]
      exact this
theorem putsB_keep (p : Nat → Option Nat) (d : Tmp) : ∀ (xs : List Fb) (a : Act), (∀ x ∈ xs, x.al.d ≠ d) → (putsB p xs a).tmps[d]? = a.tmps[d]?
  | [], a, _ => rfl
  | x :: r, a, h => by
    unfold putsB
    rw [putsB_keep p d r _ fun y hy => h y (by simp [hy])]
    cases hp : p x.al.i with
    | none => rfl
    | some g =>
      show (a.tmps.setIfInBounds x.al.d (x.mk' g))[d]? = _
      rw [Array.getElem?_setIfInBounds_ne]
      exact h x (by simp)
theorem putsB_slot (p : Nat → Option Nat) : ∀ (xs : List Fb) (a : Act) (x : Fb) (g : Nat), x ∈ xs → (xs.map (·.al.d)).Nodup → p x.al.i = some g → x.al.d < a.tmps.size → (putsB p xs a).tmps[x.al.d]? = some (x.mk' g)
  | [], a, x, g, h, _, _, _ => by simp at h
  | y :: r, a, x, g, h, hd, hp, hs => by
    simp only [List.map_cons, List.nodup_cons] at hd
    unfold putsB
    rcases List.mem_cons.1 h with e | e
    · subst e
      rw [hp]
      simp only
      rw [putsB_keep p x.al.d r _ fun z hz e => hd.1 (by rw [← e]; exact List.mem_map_of_mem (f := fun z : Fb => z.al.d) hz)]
      show (a.tmps.setIfInBounds x.al.d (x.mk' g))[x.al.d]? = _
      rw [Array.getElem?_setIfInBounds_self, if_pos hs]
    · refine putsB_slot p r _ x g e hd.2 hp ?_
      cases hq : p y.al.i with
      | none => exact hs
      | some g' =>
        show x.al.d < (a.tmps.setIfInBounds y.al.d (y.mk' g')).size
        simpa using hs
theorem fltQ_after (o : Oper) : (fltQ o).after = o.after := by unfold fltQ; split <;> rfl
section
variable {P : Program} {H T : List Oper} {xs : List Fb}
theorem virtQ_after : (virtQ H T).map (·.after) = (H ++ T).map (·.after) := by
  unfold virtQ
  rw [List.map_append, List.map_append, List.map_map, List.map_map]
  congr 1
  exact List.map_congr_left fun o _ => fltQ_after o
theorem virtQ_len : (virtQ H T).length = H.length + T.length := by unfold virtQ; simp
theorem virtQ_head {i : Nat} {o : Oper} (h : H[i]? = some o) : (virtQ H T)[i]? = some (fltQ o) := by
  have hi := (List.getElem?_eq_some_iff.1 h).1
  unfold virtQ
  rw [List.getElem?_append_left (by simpa using hi), List.getElem?_map, h]
  rfl
theorem ready_virtQ (listed : Array Bool) : Region.ready .any (H ++ T).toArray listed = Region.ready .any (virtQ H T).toArray listed := by
  unfold Region.ready
  have hs : (H ++ T).toArray.size = (virtQ H T).toArray.size := by simp [virtQ_len]
  rw [hs]
  refine List.filter_congr fun i _ => ?_
  have h1 : (H ++ T)[i]?.map (·.after) = (virtQ H T)[i]?.map (·.after) := by
    rw [← List.getElem?_map, ← List.getElem?_map, virtQ_after]
  congr 1
  simp only [List.getElem?_toArray]
  cases e1 : (H ++ T)[i]? with
  | none =>
    cases e2 : (virtQ H T)[i]? with
    | none => rfl
    | some b => rw [e1, e2] at h1; cases h1
  | some a =>
    cases e2 : (virtQ H T)[i]? with
    | none => rw [e1, e2] at h1; cases h1
    | some b =>
      rw [e1, e2] at h1
      simp only [Option.map_some, Option.some.injEq] at h1
      simp only [Option.map_some, Option.getD_some]
      rw [h1]
theorem dst_virtQ (hall : allQ xs (H ++ T).toArray H.length 0 H = true) (g : Nat) (hgH : g < H.length) (hno : ∀ x ∈ xs, ((H ++ T).toArray[g]?).bind (·.dst) ≠ some x.al.d) : ((H ++ T).toArray[g]?).bind (·.dst) = ((virtQ H T).toArray[g]?).bind (·.dst) := by
  simp only [List.getElem?_toArray] at hno ⊢
  obtain ⟨o, ho⟩ : ∃ o, H[g]? = some o := ⟨_, List.getElem?_eq_getElem hgH⟩
  rw [real_head ho] at hno ⊢
  rw [virtQ_head ho]
  simp only [Option.bind_some] at hno ⊢
  have hb := allQ_at H 0 hall g o ho
  unfold alQ at hb
  unfold fltQ
  split at hb
  · rename_i ty hop
    obtain ⟨x, hx, hb⟩ := List.any_eq_true.1 hb
    simp only [Bool.and_eq_true, beq_iff_eq] at hb
    exact absurd hb.1.1.1.2 (hno x hx)
  · rename_i ty pt vt hop
    simp only [Bool.and_eq_true, beq_iff_eq] at hb
    rw [hb.1.1]
    rfl
  · rename_i ty n els hop
    rw [Bool.and_eq_true] at hb
    obtain ⟨x, hx, hb⟩ := List.any_eq_true.1 hb.2
    simp only [Bool.and_eq_true, beq_iff_eq] at hb
    exact absurd hb.1.2 (hno x hx)
  · rename_i h1 h2 h3
    rfl
theorem wanted_virtQ (hall : allQ xs (H ++ T).toArray H.length 0 H = true) (o : Oper) (hgn : (match o.guard with | some (g, _) => decide (g < H.length) | none => true) = true) (hno : ∀ x ∈ xs, x.al.d ∉ o.looksAt (H ++ T).toArray) (tmps : Array Value) : Region.wanted o (yielded (H ++ T).toArray tmps) = Region.wanted o (yielded (virtQ H T).toArray tmps) := by
  unfold Region.wanted
  cases hg : o.guard with
  | none => rfl
  | some gb =>
    obtain ⟨g, b⟩ := gb
    rw [hg] at hgn
    simp only at hgn ⊢
    have h := dst_virtQ hall g (of_decide_eq_true hgn) fun x hx e => by
      refine hno x hx ?_
      unfold Oper.looksAt
      rw [hg]
      simp only [e]
      simp
    unfold yielded
    rw [h]
theorem nodupQ : ∀ {xs : List Fb} {x y : Fb}, (xs.map (·.al.i)).Nodup → x ∈ xs → y ∈ xs → x.al.i = y.al.i → x = y
  | [], x, y, _, h, _, _ => by simp at h
  | z :: r, x, y, hn, hx, hy, e => by
    simp only [List.map_cons, List.nodup_cons] at hn
    rcases List.mem_cons.1 hx with h1 | h1
    · rcases List.mem_cons.1 hy with h2 | h2
      · rw [h1, h2]
      · subst h1
        exact absurd (by rw [e]; exact List.mem_map_of_mem (f := fun z : Fb => z.al.i) h2) hn.1
    · rcases List.mem_cons.1 hy with h2 | h2
      · subst h2
        exact absurd (by rw [← e]; exact List.mem_map_of_mem (f := fun z : Fb => z.al.i) h1) hn.1
      · exact nodupQ hn.2 h1 h2 e
def isBuild (o : Oper) : Bool := match o.op with
  | .buildSlice _ _ _ => true
  | _ => false
/-- kp: so many operations, the first ones, are done ahead -/
structure FltOkQ (kp : Nat) (xs : List Fb) (H T : List Oper) : Prop where
  all : allQ xs (H ++ T).toArray H.length 0 H = true
  ni : (xs.map (·.al.i)).Nodup
  nd : (xs.map (·.al.d)).Nodup
  alk : ∀ x ∈ xs, (∃ o, H[x.al.i]? = some o ∧ ((∃ ty, o.op = .alloc ty) ∨ isBuild o = true)) ∨ H.length + T.length ≤ x.al.i
  bsk : ∀ x ∈ xs, ∀ v u, x.bs = some (v, u) → ∃ o, H[x.al.i]? = some o ∧ ∀ k q, (virtQ H T)[k]? = some q → q.dst = some v → reachT 24 (virtQ H T) k o = true
  stb : ∀ x ∈ xs, x.bs ≠ none → x.st = none
  sop : ∀ x ∈ xs, ∀ j v row, x.st = some (j, v, row) → ∃ o, H[j]? = some o ∧ isStore o = true ∧ (x.al.i < H.length → reachT 24 (virtQ H T) x.al.i o = true) ∧ (∀ k q, (virtQ H T)[k]? = some q → q.dst = some v → reachT 24 (virtQ H T) k o = true)
  sj : ∀ x ∈ xs, ∀ y ∈ xs, ∀ j v row v' row', x.st = some (j, v, row) → y.st = some (j, v', row') → x.al.i = y.al.i
  one : ndT ((virtQ H T).map (·.dst)) = true
  sel : Region.noSelect (virtQ H T).toArray = true
  early : ∀ j o, (virtQ H T).toArray[j]? = some o → ∀ e ∈ o.after, Region.binds .any e = true → e.on < j
  wait : ∀ o ∈ T, ∀ k, kp ≤ k → k < H.length → reachT 24 (virtQ H T) k o = true
  kH : kp ≤ H.length
  lowA : ∀ x ∈ xs, kp ≤ x.al.i
  lowS : ∀ x ∈ xs, ∀ j v row, x.st = some (j, v, row) → kp ≤ j
  pin : ∀ j o, j < kp → (virtQ H T)[j]? = some o → ∀ e ∈ o.after, Region.binds .any e = true → e.on < kp
  seq : Region.seqB .any (H ++ T).toArray T.length H.length (Array.replicate H.length true ++ Array.replicate T.length false) = true
def StRunQ (P : Program) (xs : List Fb) : Prop := ∀ x ∈ xs, ∀ j v row, x.st = some (j, v, row) → (P.info? x.al.ty).map (·.size) = some row.size ∧ x.al.cs.size = row.size ∧ row.all (·.oneCell') = true
theorem curQ_same {x : Fb} {l l' : Array Bool} (h : ∀ j v row, x.st = some (j, v, row) → l.getD j false = l'.getD j false) : x.cur l = x.cur l' := by
  unfold Fb.cur
  cases hst : x.st with
  | none => rfl
  | some q =>
    obtain ⟨j, v, row⟩ := q
    simp only
    rw [h j v row hst]
theorem curQ_fin {x : Fb} {l : Array Bool} (h : ∀ j v row, x.st = some (j, v, row) → l.getD j false = true) : x.cur l = x.fin := by
  unfold Fb.cur Fb.fin
  cases hst : x.st with
  | none => rfl
  | some q =>
    obtain ⟨j, v, row⟩ := q
    simp only
    rw [if_pos (h j v row hst)]
theorem curQ_size {x : Fb} {l : Array Bool} (h : ∀ j v row, x.st = some (j, v, row) → x.al.cs.size = row.size) : (x.cur l).size = x.al.cs.size := by
  unfold Fb.cur
  cases hst : x.st with
  | none => rfl
  | some q =>
    obtain ⟨j, v, row⟩ := q
    simp only
    split
    · exact (h j v row hst).symm
    · rfl
theorem tailQ_end {B : Nat} {W : World} {afin : Act} {Q : Exit → Act → World → Prop} {p0 : Nat → Option Nat} {kp : Nat} (hk : FltOkQ kp xs H T)
    (htail : ∀ (p : Nat → Nat) w', RowKit.Below B W w' → (∀ x ∈ xs, Blk w' (p x.al.i) x.al.ty x.fin ∧ B ≤ p x.al.i) → (∀ x ∈ xs, ∀ y ∈ xs, x.al.i ≠ y.al.i → p x.al.i ≠ p y.al.i) → (∀ x ∈ xs, H.length + T.length ≤ x.al.i → p0 x.al.i = some (p x.al.i)) → wpList P (H ++ T).toArray Q T (putsB (fun i => some (p i)) xs afin) w')
    {fuel : Nat} {listed : Array Bool} {a : Act} {p : Nat → Option Nat} {w : World} (hs : listed.size = H.length + T.length) (hf : fuel = unl listed H.length + T.length) (hu : ∀ j, H.length ≤ j → j < H.length + T.length → listed.getD j true = false) (h0 : unl listed H.length = 0)
    (hb : RowKit.Below B W w) (hB : ∀ x ∈ xs, ∀ g, p x.al.i = some g → Blk w g x.al.ty (x.cur listed) ∧ B ≤ g) (hD : ∀ x ∈ xs, ∀ y ∈ xs, x.al.i ≠ y.al.i → ∀ g, p x.al.i = some g → p y.al.i ≠ some g) (hp : ∀ x ∈ xs, listed.getD x.al.i true = false ↔ p x.al.i = none) (hfx : ∀ x ∈ xs, H.length + T.length ≤ x.al.i → p x.al.i = p0 x.al.i)
    (hea : wpAnyQ P .any (virtQ H T).toArray (CW W) (fun a' => a' = afin) fuel listed a) : wpAny P .any (H ++ T).toArray Q fuel listed (putsB p xs a) w := by
  have hall := unl_zero h0
  have hea := pin_end fuel listed a hea (fun j o ho hl => by
    have hj := (Array.getElem?_eq_some_iff.1 ho).1
    simp [virtQ_len] at hj
    by_cases hjH : j < H.length
    · have := hall j hjH
      rw [this] at hl
      cases hl
    · have h2 : (virtQ H T)[j]? = (T[j - H.length]?).map nopT := by
        unfold virtQ
        rw [List.getElem?_append_right (by simp; omega), List.length_map, List.getElem?_map]
      rw [List.getElem?_toArray, h2] at ho
      obtain ⟨q, _, rfl⟩ := Option.map_eq_some_iff.1 ho
      rfl)
  have hsome : ∀ x ∈ xs, ∃ g, p x.al.i = some g := fun x hx => by
    cases hpx : p x.al.i with
    | some g => exact ⟨g, rfl⟩
    | none =>
      have h1 := (hp x hx).2 hpx
      rcases hk.alk x hx with ⟨o, ho, _⟩ | h2
      · have h3 := hall x.al.i (List.getElem?_eq_some_iff.1 ho).1
        rw [h3] at h1
        cases h1
      · rw [Array.getD_eq_getD_getElem?, Array.getElem?_eq_none (by omega)] at h1
        cases h1
  have hcur : ∀ x ∈ xs, x.cur listed = x.fin := fun x hx => curQ_fin fun j v row hst => by
    obtain ⟨o, ho, _⟩ := hk.sop x hx j v row hst
    have hj := (List.getElem?_eq_some_iff.1 ho).1
    exact getD_tf (by omega) (hall j hj)
  have hw := htail (fun i => (p i).getD 0) w hb (fun x hx => by
    obtain ⟨g, hg⟩ := hsome x hx
    rw [hg, ← hcur x hx]
    exact hB x hx g hg) (fun x hx y hy hxy => by
    obtain ⟨g, hg⟩ := hsome x hx
    obtain ⟨g', hg'⟩ := hsome y hy
    rw [hg, hg']
    simp only [Option.getD_some]
    intro e
    subst e
    exact hD x hx y hy hxy g hg hg') (fun x hx h => by
    obtain ⟨g, hg⟩ := hsome x hx
    rw [← hfx x hx h, hg]
    rfl)
  have hpe : putsB p xs a = putsB (fun i => some ((p i).getD 0)) xs afin := by
    rw [hea]
    refine putsB_congr fun x hx => ?_
    obtain ⟨g, hg⟩ := hsome x hx
    rw [hg]
    rfl
  rw [hpe]
  have hseq := hk.seq
  have hle : listed = Array.replicate H.length true ++ Array.replicate T.length false := listed_is hs hall hu
  rw [← hle] at hseq
  have := wpAny_of_seq (P := P) (Q' := Q) T H.length listed _ w (fun j => by rw [List.getElem?_toArray, List.getElem?_append_right (by omega)]; congr 1; omega) hseq hw
  rw [show T.length = fuel from by omega] at this
  exact this
theorem wpAny_floatQ {B : Nat} {W : World} {afin : Act} {Q : Exit → Act → World → Prop} {p0 : Nat → Option Nat} {kp : Nat} (hBW : B ≤ W.heap.size) (hk : FltOkQ kp xs H T) (hrun : ∀ x ∈ xs, x.al.i < H.length → x.bs = none → FltRun P [x.al]) (hrb : ∀ x ∈ xs, ∀ v u, x.bs = some (v, u) → ∀ o, H[x.al.i]? = some o → ∀ (ev : Operand → Value), ev (.tmp v) = u → ∀ w, (execOp ev o).run P w = .ok (.value (.slice (some ⟨w.heap.size, 0, none⟩) 1 1)) (w.alloc (.cells x.al.cs x.al.ty))) (hst : StRunQ P xs) (hvb : ∀ x ∈ xs, ∀ v u, x.bs = some (v, u) → afin.tmps[v]? = some u) (hval : ∀ x ∈ xs, ∀ j v row, x.st = some (j, v, row) → afin.tmps[v]? = some (.agg row)) (hslot : ∀ x ∈ xs, x.al.d < afin.tmps.size)
    (htail : ∀ (p : Nat → Nat) w', RowKit.Below B W w' → (∀ x ∈ xs, Blk w' (p x.al.i) x.al.ty x.fin ∧ B ≤ p x.al.i) → (∀ x ∈ xs, ∀ y ∈ xs, x.al.i ≠ y.al.i → p x.al.i ≠ p y.al.i) → (∀ x ∈ xs, H.length + T.length ≤ x.al.i → p0 x.al.i = some (p x.al.i)) → wpList P (H ++ T).toArray Q T (putsB (fun i => some (p i)) xs afin) w') :
    ∀ (fuel : Nat) (listed : Array Bool) (a : Act) (p : Nat → Option Nat) (w : World), listed.size = H.length + T.length → fuel = unl listed H.length + T.length → (∀ j, H.length ≤ j → j < H.length + T.length → listed.getD j true = false) → (∀ j, j < kp → listed.getD j true = true) →
      RowKit.Below B W w → (∀ x ∈ xs, ∀ g, p x.al.i = some g → Blk w g x.al.ty (x.cur listed) ∧ B ≤ g) → (∀ x ∈ xs, ∀ y ∈ xs, x.al.i ≠ y.al.i → ∀ g, p x.al.i = some g → p y.al.i ≠ some g) → (∀ x ∈ xs, listed.getD x.al.i true = false ↔ p x.al.i = none) → (∀ x ∈ xs, H.length + T.length ≤ x.al.i → p x.al.i = p0 x.al.i) → (∀ (j : Nat) o, (virtQ H T)[j]? = some o → listed.getD j false = true → ∀ e ∈ o.after, Region.binds .any e = true → listed.getD e.on false = true) →
      (∀ W', RowKit.Below B W W' → wpAnyQ P .any (virtQ H T).toArray (CW W') (fun a' => a' = afin) fuel listed a) → wpAny P .any (H ++ T).toArray Q fuel listed (putsB p xs a) w := by
  intro fuel
  induction fuel with
  | zero =>
    intro listed a p w hs hf hu hpn hb hB hD hp hfx hcl hfam
    exact tailQ_end hk htail hs hf hu (by omega) hb hB hD hp hfx (hfam W ⟨rfl, rfl, rfl, Nat.le_refl _, fun k _ => rfl⟩)
  | succ fuel ih =>
    intro listed a p w hs hf hu hpn hb hB hD hp hfx hcl hfam
    by_cases h0 : unl listed H.length = 0
    · exact tailQ_end hk htail hs hf hu h0 hb hB hD hp hfx (hfam W ⟨rfl, rfl, rfl, Nat.le_refl _, fun k _ => rfl⟩)
    · obtain ⟨j0, hj0, hjl⟩ := unl_pos h0
      have hne : Region.ready .any (virtQ H T).toArray listed ≠ [] := ready_some (n := j0) (by simp [virtQ_len]; omega) (by rw [hs]; simp [virtQ_len]) hk.early hjl
      refine ⟨fun e => absurd (by rw [← ready_virtQ]; exact e) hne, fun i hi => ?_⟩
      rw [ready_virtQ] at hi
      obtain ⟨hil, ov, hov, hiall⟩ := mem_ready.1 hi
      have hiS : i < H.length + T.length := by
        have := (Array.getElem?_eq_some_iff.1 hov).1
        simpa [virtQ_len] using this
      have hiH : i < H.length := by
        refine Classical.byContradiction fun hcon => ?_
        have h2 : (virtQ H T)[i]? = (T[i - H.length]?).map nopT := by
          unfold virtQ
          rw [List.getElem?_append_right (by simp; omega), List.length_map, List.getElem?_map]
        rw [List.getElem?_toArray, h2] at hov
        obtain ⟨q, hq, rfl⟩ := Option.map_eq_some_iff.1 hov
        have h3 := reachT_listed hcl 24 q (fun e he hbn => hiall e he hbn) (hk.wait q (List.mem_of_getElem? hq) j0 (Nat.le_of_not_lt fun e => by rw [hpn j0 e] at hjl; cases hjl) hj0)
        have hjs : j0 < listed.size := by omega
        rw [Array.getD_eq_getD_getElem?, Array.getElem?_eq_getElem hjs] at h3 hjl
        simp only [Option.getD_some] at h3 hjl
        rw [h3] at hjl
        cases hjl
      obtain ⟨o, ho⟩ : ∃ o, H[i]? = some o := ⟨_, List.getElem?_eq_getElem hiH⟩
      have hreal : (H ++ T).toArray[i]? = some o := by rw [List.getElem?_toArray]; exact real_head ho
      have hvirt : (virtQ H T).toArray[i]? = some (fltQ o) := by rw [List.getElem?_toArray]; exact virtQ_head ho
      have hoa : ∀ e ∈ o.after, Region.binds .any e = true → listed.getD e.on false = true := fun e he hbn => by
        have hov' : ov = fltQ o := by
          rw [hvirt] at hov
          injection hov with hov
          exact hov.symm
        exact hiall e (by rw [hov', fltQ_after]; exact he) hbn
      have hilt : i < listed.size := by omega
      have hunl := unl_set hilt hil H.length hiH
      have hb' := allQ_at H 0 hk.all i o ho
      rw [Nat.zero_add] at hb'
      -- invariants of the new list
      have hs' : (listed.setIfInBounds i true).size = H.length + T.length := by simpa using hs
      have hf' : fuel = unl (listed.setIfInBounds i true) H.length + T.length := by omega
      have hu' : ∀ j, H.length ≤ j → j < H.length + T.length → (listed.setIfInBounds i true).getD j true = false := fun j h1 h2 => by
        rw [getD_set_ne true (by omega)]
        exact hu j h1 h2
      have hpn' : ∀ j, j < kp → (listed.setIfInBounds i true).getD j true = true := fun j hj => by
        by_cases hji : j = i
        · subst hji
          rw [Array.getD_eq_getD_getElem?, Array.getElem?_setIfInBounds_self]; split <;> rfl
        · rw [getD_set_ne true (fun e => hji e.symm)]
          exact hpn j hj
      have hcl' : ∀ (j : Nat) o, (virtQ H T)[j]? = some o → (listed.setIfInBounds i true).getD j false = true → ∀ e ∈ o.after, Region.binds .any e = true → (listed.setIfInBounds i true).getD e.on false = true := fun j q hq hl e he hbn => by
        by_cases hji : j = i
        · subst hji
          rw [List.getElem?_toArray, hq] at hov
          injection hov with hov
          subst hov
          exact getD_set_true (hiall e he hbn)
        · rw [getD_set_ne false (fun e => hji e.symm)] at hl
          exact getD_set_true (hcl j q hq hl e he hbn)
      have hset : (listed.setIfInBounds i true).getD i true = true := by
        rw [Array.getD_eq_getD_getElem?, Array.getElem?_setIfInBounds_self]; split <;> rfl
      have hpins : ∀ (hns : isStore o = false), ∀ x ∈ xs, x.cur (listed.setIfInBounds i true) = x.cur listed := fun hns x hx => curQ_same fun j v row hst => by
        obtain ⟨q, hq, hqs, _⟩ := hk.sop x hx j v row hst
        have hji : i ≠ j := fun e => by
          subst e
          rw [ho] at hq
          injection hq with hq
          subst hq
          rw [hns] at hqs
          cases hqs
        exact getD_set_ne false hji
      have hnew : ∀ x, x ∈ xs → x.al.i = i → o.dst = some x.al.d → o.guard = none → isStore o = false → fltQ o = nopT o → (execOp (putsB p xs a).eval o).run P w = .ok (.value (x.mk' w.heap.size)) (w.alloc (.cells x.al.cs x.al.ty)) → wpOp P (H ++ T).toArray Q i (wpAny P .any (H ++ T).toArray Q fuel (listed.setIfInBounds i true)) (putsB p xs a) w := by
        intro x hx hxi hxd hxg hns hfl hr
        have hpx : p x.al.i = none := (hp x hx).1 (by rw [hxi]; exact hil)
        have hcu := hpins hns
        unfold wpOp
        rw [hreal]
        simp only
        rw [if_pos (by simp [Region.wanted, hxg])]
        refine .inl ?_
        unfold Oper.wp
        rw [hr]
        show wpAny P .any (H ++ T).toArray Q fuel _ ((putsB p xs a).put o.dst (x.mk' w.heap.size)) _
        rw [hxd, ← putsB_new p w.heap.size xs a x hx hk.ni hk.nd hpx]
        have hcx : x.cur listed = x.al.cs := by
          unfold Fb.cur
          cases hsx : x.st with
          | none => rfl
          | some q =>
            obtain ⟨j, v, row⟩ := q
            simp only
            refine if_neg fun hl => ?_
            obtain ⟨q, hq, _, hre, _⟩ := hk.sop x hx j v row hsx
            have h1 := reachT_listed hcl 24 q (fun e he hbn => by
              have := hcl j (fltQ q) (virtQ_head hq) hl e (by rw [fltQ_after]; exact he) hbn
              exact this) (hre (by omega))
            rw [hxi, getD_ft hil] at h1
            cases h1
        refine ih _ a _ _ hs' hf' hu' hpn' (hb.alloc (Nat.le_trans hBW hb.size) _) ?_ ?_ ?_ ?_ hcl' ?_
        · intro y hy g hg
          rw [hcu y hy]
          by_cases hyx : y.al.i = x.al.i
          · have : y = x := nodupQ hk.ni hy hx hyx
            subst this
            have hg' : w.heap.size = g := by simpa using hg
            subst hg'
            rw [hcx]
            exact ⟨Blk.new w _ _, Nat.le_trans hBW hb.size⟩
          · simp only [if_neg hyx] at hg
            obtain ⟨h1, h2⟩ := hB y hy g hg
            exact ⟨h1.alloc _, h2⟩
        · intro y hy z hz hyz g hg
          by_cases hyx : y.al.i = x.al.i
          · simp only [if_pos hyx, Option.some.injEq] at hg
            have hzx : ¬ z.al.i = x.al.i := fun e => hyz (hyx.trans e.symm)
            simp only [if_neg hzx]
            intro e
            have := (hB z hz g e).1.lt
            omega
          · simp only [if_neg hyx] at hg
            by_cases hzx : z.al.i = x.al.i
            · simp only [if_pos hzx]
              intro e
              injection e with e
              have := (hB y hy g hg).1.lt
              omega
            · simp only [if_neg hzx]
              exact hD y hy z hz hyz g hg
        · intro y hy
          by_cases hyx : y.al.i = x.al.i
          · simp only [if_pos hyx]
            rw [hyx, hxi, hset]
            simp
          · simp only [if_neg hyx]
            rw [getD_set_ne true (fun e => hyx (by rw [hxi]; exact e.symm))]
            exact hp y hy
        · intro y hy hyl
          have hyx : ¬ y.al.i = x.al.i := fun e => by omega
          simp only [if_neg hyx]
          exact hfx y hy hyl
        · intro W' hW'
          have hq := (hfam W' hW').2 i hi
          unfold qOp at hq
          rw [hvirt] at hq
          rw [hfl] at hq
          simp only at hq
          rw [if_pos (by simp [Region.wanted, nopT])] at hq
          obtain ⟨v, _, hK⟩ := hq
          exact hK
      unfold alQ at hb'
      split at hb'
      · rename_i ty hop
        obtain ⟨x, hx, hxb⟩ := List.any_eq_true.1 hb'
        simp only [Bool.and_eq_true, beq_iff_eq, Option.isNone_iff_eq_none] at hxb
        obtain ⟨⟨⟨⟨hxi, hxd⟩, hxg⟩, hxt⟩, hxn⟩ := hxb
        have hr := hrun x hx (by omega) hxn x.al (List.mem_singleton.2 rfl) (putsB p xs a).eval o (by rw [hop, hxt]) w
        refine hnew x hx hxi hxd hxg (by unfold isStore; rw [hop]) (by unfold fltQ; rw [hop]) ?_
        unfold Fb.mk'
        rw [hxn]
        exact hr
      · rename_i ty pt vt hop
        simp only [Bool.and_eq_true, beq_iff_eq] at hb'
        obtain ⟨⟨hod, hog⟩, hb'⟩ := hb'
        obtain ⟨x, hx, hxb⟩ := List.any_eq_true.1 hb'
        simp only [Bool.and_eq_true, beq_iff_eq] at hxb
        obtain ⟨⟨⟨hxs, hxp⟩, hxt⟩, hxn⟩ := hxb
        have hxn := Option.isNone_iff_eq_none.1 hxn
        have hpt := isTmp_eq hxp
        cases hsx : x.st with
        | none => rw [hsx] at hxs; cases hxs
        | some q =>
        obtain ⟨j, v, row⟩ := q
        rw [hsx] at hxs
        simp only [Bool.and_eq_true, beq_iff_eq] at hxs
        obtain ⟨⟨hji, hxv⟩, hxd⟩ := hxs
        subst hji
        have hvt := isTmp_eq hxv
        obtain ⟨q, hq, _, hre, hrv⟩ := hk.sop x hx j v row hsx
        rw [ho] at hq
        injection hq with hq
        subst hq
        obtain ⟨hs1, hs2, hs3⟩ := hst x hx j v row hsx
        have hfl : fltQ o = nopT o := by unfold fltQ; rw [hop]
        -- the box is there
        obtain ⟨g, hg⟩ : ∃ g, p x.al.i = some g := by
          cases hpx : p x.al.i with
          | some g => exact ⟨g, rfl⟩
          | none =>
            have h1 := (hp x hx).2 hpx
            by_cases hxl : x.al.i < H.length
            · have h2 := reachT_listed hcl 24 o hoa (hre hxl)
              rw [getD_ft h1] at h2
              cases h2
            · rcases hk.alk x hx with ⟨o', ho', _⟩ | h2
              · exact absurd (List.getElem?_eq_some_iff.1 ho').1 hxl
              · rw [Array.getD_eq_getD_getElem?, Array.getElem?_eq_none (by omega)] at h1
                cases h1
        obtain ⟨hblk, hgB⟩ := hB x hx g hg
        have hvw := hfam w hb
        -- the pointer
        have hptr : (putsB p xs a).eval pt = .pointer (some ⟨g, 0, none⟩) := by
          rw [hpt]
          have hmk : x.mk' g = ptrV g := by unfold Fb.mk'; rw [hxn]
          refine eval_at ((putsB_slot p xs a x g hx hk.nd hg ?_).trans (congrArg some hmk))
          have h1 := pin_slot (d := x.al.d) (fuel + 1) listed a hvw (fun k q hq hl e => by
            rw [List.getElem?_toArray] at hq
            by_cases hkH : k < H.length
            · obtain ⟨r, hr⟩ : ∃ r, H[k]? = some r := ⟨_, List.getElem?_eq_getElem hkH⟩
              rw [virtQ_head hr] at hq
              injection hq with hq
              have h2 := allQ_at H 0 hk.all k r hr
              unfold alQ at h2
              subst hq
              unfold fltQ at e
              split at h2
              · rename_i hr2
                rw [hr2] at e
                cases e
              · rename_i hr2
                rw [hr2] at e
                cases e
              · rename_i hr2
                rw [hr2] at e
                cases e
              · rename_i hn1 hn2 hn3
                rw [Bool.and_eq_true] at h2
                have h3 := List.all_eq_true.1 h2.1 x hx
                simp only [Bool.and_eq_true, bne_iff_ne] at h3
                refine h3.2 ?_
                split at e
                · rename_i ty' he; exact absurd he (hn1 ty')
                · rename_i ty' pt' vt' he; exact absurd he (hn2 ty' pt' vt')
                · rename_i ty' pt' vt' he; exact absurd he (hn3 ty' pt' vt')
                · exact e
            · have h2 : (virtQ H T)[k]? = (T[k - H.length]?).map nopT := by
                unfold virtQ
                rw [List.getElem?_append_right (by simp; omega), List.length_map, List.getElem?_map]
              rw [h2] at hq
              obtain ⟨r, _, rfl⟩ := Option.map_eq_some_iff.1 hq
              cases e)
          rw [Array.getElem?_eq_getElem (hslot x hx)] at h1
          exact (Array.getElem?_eq_some_iff.1 h1).1
        have hvalue : (putsB p xs a).eval vt = .agg row := by
          rw [hvt]
          refine eval_at ?_
          rw [putsB_keep p v xs a (fun y hy e => by
            have := List.all_eq_true.1 hxd y hy
            simp only [bne_iff_ne] at this
            exact this e)]
          rw [← hval x hx j v row hsx]
          refine pin_slot (fuel + 1) listed a hvw fun k q hq hl e => ?_
          rw [List.getElem?_toArray] at hq
          have h2 := reachT_listed hcl 24 o hoa (hrv k q hq e)
          rw [getD_ft hl] at h2
          cases h2
        unfold wpOp
        rw [hreal]
        simp only
        rw [if_pos (by simp [Region.wanted, hog])]
        refine .inl ?_
        refine wp_storeG ty pt vt (x.cur listed) row hop hptr hvalue hblk (by rw [← hxt]; exact hs1) (by rw [curQ_size fun j' v' row' h => (hst x hx j' v' row' h).2.1]; exact hs2) hs3 hod ?_
        refine ih _ a p _ hs' hf' hu' hpn' (row_below hb hgB row) ?_ hD ?_ hfx hcl' ?_
        · intro y hy g' hg'
          by_cases hyx : y.al.i = x.al.i
          · have : y = x := nodupQ hk.ni hy hx hyx
            subst this
            rw [hg] at hg'
            injection hg' with hg'
            subst hg'
            have hcn : y.cur (listed.setIfInBounds j true) = row := by
              unfold Fb.cur
              rw [hsx]
              simp only
              exact if_pos (getD_tf (by simpa using hilt) hset)
            rw [hcn]
            exact ⟨blk_row hblk, hgB⟩
          · obtain ⟨h1, h2⟩ := hB y hy g' hg'
            have hcn : y.cur (listed.setIfInBounds j true) = y.cur listed := curQ_same fun j' v' row' hsy => by
              refine getD_set_ne false fun e => ?_
              subst e
              exact hyx (hk.sj y hy x hx j v' row' v row hsy hsx)
            rw [hcn]
            refine ⟨h1.same (setRow_other w g g' row ?_), h2⟩
            intro e
            subst e
            exact hD y hy x hx hyx g' hg' hg
        · intro y hy
          have hyi : y.al.i ≠ j := fun e => by
            rcases hk.alk y hy with ⟨o', ho', hal⟩ | h2
            · rw [e, ho] at ho'
              injection ho' with ho'
              subst ho'
              rcases hal with ⟨ty', hal⟩ | hal
              · rw [hop] at hal
                cases hal
              · unfold isBuild at hal
                rw [hop] at hal
                cases hal
            · omega
          rw [getD_set_ne true (fun e => hyi e.symm)]
          exact hp y hy
        · intro W' hW'
          have hq := (hfam W' hW').2 j hi
          unfold qOp at hq
          rw [hvirt] at hq
          rw [hfl] at hq
          simp only at hq
          rw [if_pos (by simp [Region.wanted, nopT])] at hq
          obtain ⟨v, _, hK⟩ := hq
          exact hK
      · rename_i ty nn els hop
        simp only [Bool.and_eq_true, beq_iff_eq] at hb'
        obtain ⟨hxg, hb'⟩ := hb'
        obtain ⟨x, hx, hxb⟩ := List.any_eq_true.1 hb'
        simp only [Bool.and_eq_true, beq_iff_eq] at hxb
        obtain ⟨⟨hxi, hxd⟩, hxn⟩ := hxb
        cases hxs : x.bs with
        | none => rw [hxs] at hxn; cases hxn
        | some q =>
        obtain ⟨v, u⟩ := q
        rw [hxs] at hxn
        simp only at hxn
        obtain ⟨q, hq, hrv⟩ := hk.bsk x hx v u hxs
        rw [hxi, ho] at hq
        injection hq with hq
        subst hq
        have hvw := hfam w hb
        have hvalue : (putsB p xs a).eval (.tmp v) = u := by
          refine eval_at ?_
          rw [putsB_keep p v xs a (fun y hy e => by
            have := List.all_eq_true.1 hxn y hy
            simp only [bne_iff_ne] at this
            exact this e)]
          rw [← hvb x hx v u hxs]
          refine pin_slot (fuel + 1) listed a hvw fun k q hq hl e => ?_
          rw [List.getElem?_toArray] at hq
          have h2 := reachT_listed hcl 24 o hoa (hrv k q hq e)
          rw [getD_ft hl] at h2
          cases h2
        have hr := hrb x hx v u hxs o (by rw [hxi]; exact ho) (putsB p xs a).eval hvalue w
        refine hnew x hx hxi hxd hxg (by unfold isStore; rw [hop]) (by unfold fltQ; rw [hop]) ?_
        unfold Fb.mk'
        rw [hxs]
        exact hr
      · rename_i hop hop2 hop3
        rw [Bool.and_eq_true] at hb'
        obtain ⟨hb', hgn⟩ := hb'
        have hno : ∀ x ∈ xs, x.al.d ∉ o.looksAt (H ++ T).toArray ∧ o.dst ≠ some x.al.d := fun x hx => by
          have := List.all_eq_true.1 hb' x hx
          simp only [Bool.and_eq_true, Bool.not_eq_true', bne_iff_ne] at this
          refine ⟨fun hm => ?_, this.2⟩
          have h2 : (o.looksAt (H ++ T).toArray).contains x.al.d = true := by rw [List.contains_iff_mem]; exact hm
          rw [h2] at this
          cases this.1
        have hnoA : ∀ z ∈ xs, z.al.d ∉ o.looksAt (H ++ T).toArray := fun z hz => (hno z hz).1
        have hcu := hpins (by unfold isStore; split <;> first | (rename_i ty pt vt h2; exact absurd h2 (hop2 ty pt vt)) | rfl)
        have hfl : fltQ o = o := by unfold fltQ; split <;> first | (rename_i ty h2; exact absurd h2 (hop ty)) | (rename_i ty pt vt h2; exact absurd h2 (hop2 ty pt vt)) | (rename_i ty pt vt h2; exact absurd h2 (hop3 ty pt vt)) | rfl
        have hsl : ∀ cs b, o.op ≠ .select cs b := by
          have := Region.noSelect_spec hk.sel i (fltQ o)
          rw [hfl] at this
          exact fun cs b => this cs b (by rw [hvirt, hfl])
        obtain ⟨v, hy, hK⟩ := yieldsIn_of_qOp (by rw [hvirt, hfl]) ((hfam w hb).2 i hi)
        have hfam' : ∀ W', RowKit.Below B W W' → wpAnyQ P .any (virtQ H T).toArray (CW W') (fun a' => a' = afin) fuel (listed.setIfInBounds i true) (a.put o.dst v) := fun W' hW' => by
          obtain ⟨v', _, hK'⟩ := yieldsIn_of_qOp (by rw [hvirt, hfl]) ((hfam W' hW').2 i hi)
          have : a.put o.dst v' = a.put o.dst v := put_one fun e he => by
            have hone : ∀ (j : Nat) q, (virtQ H T).toArray[j]? = some q → (listed.setIfInBounds i true).getD j true = false → q.dst ≠ some e := fun j q hq hl hqe => by
              have hji : j = i := ndT_at _ hk.one j i e (by rw [List.getElem?_map]; rw [List.getElem?_toArray] at hq; rw [hq]; simp [hqe]) (by rw [List.getElem?_map]; rw [List.getElem?_toArray] at hvirt; rw [hvirt, hfl]; simp [he])
              subst hji
              rw [hset] at hl
              cases hl
            rw [pin_slot fuel _ _ hK' hone, pin_slot fuel _ _ hK hone]
          rw [← this]
          exact hK'
        have hp' : ∀ x ∈ xs, (listed.setIfInBounds i true).getD x.al.i true = false ↔ p x.al.i = none := fun x hx => by
          have hxi : x.al.i ≠ i := fun e => by
            rcases hk.alk x hx with ⟨q, hq1, hq2⟩ | h2
            · rw [e, ho] at hq1
              injection hq1 with hq1
              subst hq1
              rcases hq2 with ⟨ty', hq2⟩ | hq2
              · exact hop _ hq2
              · unfold isBuild at hq2
                split at hq2
                · rename_i h3; exact hop3 _ _ _ h3
                · cases hq2
            · omega
          rw [getD_set_ne true (fun e => hxi e.symm)]
          exact hp x hx
        have hgo : ∀ w'', RowKit.Below w.heap.size w w'' → wpAny P .any (H ++ T).toArray Q fuel (listed.setIfInBounds i true) ((putsB p xs a).put o.dst v) w'' := fun w'' hw'' => by
          rw [← putsB_put p xs a fun z hz => (hno z hz).2]
          exact ih _ _ p w'' hs' hf' hu' hpn' (hb.trans (hw''.mono (Nat.le_trans hBW hb.size))) (fun x hx g hg => by
            obtain ⟨h1, h2⟩ := hB x hx g hg
            rw [hcu x hx]
            exact ⟨h1.same (hw''.block _ h1.lt), h2⟩) hD hp' hfx hcl' hfam'
        unfold wpOp
        rw [hreal]
        simp only
        rw [putsB_wanted p o xs a hnoA, wanted_virtQ hk.all o hgn (fun x hx => (hno x hx).1)]
        rcases hy with ⟨hw1, hw2⟩ | ⟨hw1, rfl⟩
        · rw [if_pos hw1]
          refine .inl ?_
          have h3 := hw2 w (cw_self w)
          unfold Oper.quietAt at h3
          unfold Oper.wp
          rw [putsB_eval (ops := (H ++ T).toArray) p o hsl xs a hnoA]
          generalize (execOp a.eval o).run P w = r at h3 ⊢
          cases r with
          | ok n w' =>
            cases n <;> simp only [Oper.quietUpon] at h3 <;> simp only [Oper.upon]
            case value u =>
              obtain ⟨e1, e2⟩ := h3
              rw [e1, e2]
              exact hgo w (RowKit.Below.refl _ _)
            case skip =>
              obtain ⟨e1, e2⟩ := h3
              rw [e1, ← e2]
              exact hgo w (RowKit.Below.refl _ _)
            case enter f args =>
              obtain ⟨e1, hc⟩ := h3
              rw [e1]
              refine hc.mono fun e w'' ⟨he, q, hq⟩ => ?_
              subst he hq
              exact hgo _ (below_regrown w q.d q.os)
          | halt x w' => simp only [Oper.quietUpon] at h3
        · rw [if_neg (by rw [hw1]; simp)]
          exact hgo w (RowKit.Below.refl _ _)
def stQ (xs : List Fb) (H V : List Oper) : Bool := xs.all fun x => match x.st with
  | none => true
  | some (j, v, _) => match H[j]? with
    | some o => isStore o && (decide (H.length ≤ x.al.i) || reachT 24 V x.al.i o) && (List.range V.length).all fun k => match V[k]? with
      | some q => q.dst != some v || reachT 24 V k o
      | none => true
    | none => false
def uqQ (xs : List Fb) : Bool := xs.all fun x => xs.all fun y => match x.st, y.st with
  | some (j, _, _), some (k, _, _) => j != k || x.al.i == y.al.i
  | _, _ => true
def akQ (xs : List Fb) (H V : List Oper) (n : Nat) : Bool := xs.all fun x => (decide (n ≤ x.al.i) || match H[x.al.i]? with
  | some o => (match o.op with | .alloc _ => true | _ => isBuild o)
  | none => false) && (match x.bs with
  | none => true
  | some (v, _) => x.st.isNone && match H[x.al.i]? with
    | some o => (List.range V.length).all fun k => match V[k]? with
      | some q => q.dst != some v || reachT 24 V k o
      | none => true
    | none => false)
def fltBQ (kp : Nat) (xs : List Fb) (H T : List Oper) : Bool :=
  decide (kp ≤ H.length) && (xs.all fun x => decide (kp ≤ x.al.i) && match x.st with | some (j, _, _) => decide (kp ≤ j) | none => true) && (((virtQ H T).take kp).all fun o => o.after.all fun e => !Region.binds .any e || decide (e.on < kp)) &&
  allQ xs (H ++ T).toArray H.length 0 H && decide (xs.map (·.al.i)).Nodup && decide (xs.map (·.al.d)).Nodup && akQ xs H (virtQ H T) (H.length + T.length) && stQ xs H (virtQ H T) && uqQ xs &&
  ndT ((virtQ H T).map (·.dst)) && Region.noSelect (virtQ H T).toArray && goodT 0 ((virtQ H T).map (rowT (virtQ H T).toArray)) &&
  (T.all fun o => (List.range H.length).all fun k => decide (k < kp) || reachT 24 (virtQ H T) k o) && Region.seqB .any (H ++ T).toArray T.length H.length (Array.replicate H.length true ++ Array.replicate T.length false)
theorem flt_okQ {kp : Nat} (h : fltBQ kp xs H T = true) : FltOkQ kp xs H T := by
  unfold fltBQ at h
  simp only [Bool.and_eq_true, decide_eq_true_eq] at h
  obtain ⟨⟨⟨⟨⟨⟨⟨⟨⟨⟨⟨⟨⟨k1, k2⟩, k3⟩, h2⟩, h3⟩, h4⟩, h5⟩, h6⟩, h7⟩, h8⟩, h9⟩, h10⟩, h11⟩, h12⟩ := h
  refine ⟨h2, h3, h4, fun x hx => ?_, fun x hx v u hbs => ?_, fun x hx hbs => ?_, fun x hx j v row hst => ?_, fun x hx y hy j v row v' row' hsx hsy => ?_, h8, h9, fun j o ho e he hb => ?_, fun o ho k hk1 hk => ?_, k1, fun x hx => ?_, fun x hx j v row hst => ?_, fun j o hj ho e he hb => ?_, h12⟩
  · have := List.all_eq_true.1 h5 x hx
    rw [Bool.and_eq_true, Bool.or_eq_true] at this
    rcases this.1 with h | h
    · exact .inr (of_decide_eq_true h)
    · cases ho : H[x.al.i]? with
      | none => rw [ho] at h; cases h
      | some o =>
        rw [ho] at h
        simp only at h
        split at h
        · rename_i ty hop
          exact .inl ⟨o, rfl, .inl ⟨ty, hop⟩⟩
        · exact .inl ⟨o, rfl, .inr h⟩
  · have := List.all_eq_true.1 h5 x hx
    rw [Bool.and_eq_true] at this
    have h := this.2
    rw [hbs] at h
    simp only [Bool.and_eq_true] at h
    cases ho : H[x.al.i]? with
    | none => rw [ho] at h; cases h.2
    | some o =>
      rw [ho] at h
      refine ⟨o, rfl, fun k q hq hd => ?_⟩
      have hk := (List.getElem?_eq_some_iff.1 hq).1
      have h3 := List.all_eq_true.1 h.2 k (List.mem_range.2 hk)
      rw [hq] at h3
      simp only [Bool.or_eq_true, bne_iff_ne] at h3
      rcases h3 with h3 | h3
      · exact absurd hd h3
      · exact h3
  · have := List.all_eq_true.1 h5 x hx
    rw [Bool.and_eq_true] at this
    have h := this.2
    cases hb : x.bs with
    | none => exact absurd hb hbs
    | some q =>
      rw [hb] at h
      simp only [Bool.and_eq_true] at h
      exact Option.isNone_iff_eq_none.1 h.1
  · have := List.all_eq_true.1 h6 x hx
    rw [hst] at this
    simp only at this
    cases ho : H[j]? with
    | none => rw [ho] at this; cases this
    | some o =>
      rw [ho] at this
      simp only [Bool.and_eq_true, Bool.or_eq_true, decide_eq_true_eq] at this
      refine ⟨o, rfl, this.1.1, fun hx => ?_, fun k q hq hd => ?_⟩
      · rcases this.1.2 with h | h
        · omega
        · exact h
      · have hk := (List.getElem?_eq_some_iff.1 hq).1
        have h := List.all_eq_true.1 this.2 k (List.mem_range.2 hk)
        rw [hq] at h
        simp only [Bool.or_eq_true, bne_iff_ne] at h
        rcases h with h | h
        · exact absurd hd h
        · exact h
  · have := List.all_eq_true.1 (List.all_eq_true.1 h7 x hx) y hy
    rw [hsx, hsy] at this
    simp only [Bool.or_eq_true, bne_iff_ne, beq_iff_eq] at this
    rcases this with h | h
    · exact absurd rfl h
    · exact h
  · have := good_early (virtQ H T) 0 h10 j o (by simpa using ho) e he hb
    omega
  · have := List.all_eq_true.1 (List.all_eq_true.1 h11 o ho) k (List.mem_range.2 hk)
    rw [Bool.or_eq_true, decide_eq_true_eq] at this
    exact this.resolve_left (by omega)
  · have := List.all_eq_true.1 k2 x hx
    rw [Bool.and_eq_true, decide_eq_true_eq] at this
    exact this.1
  · have := List.all_eq_true.1 k2 x hx
    rw [Bool.and_eq_true, decide_eq_true_eq, hst] at this
    simpa using this.2
  · have := List.all_eq_true.1 k3 o (List.mem_of_getElem? (by rw [List.getElem?_take, if_pos hj]; exact ho))
    have h2 := Array.all_eq_true_iff_forall_mem.1 this e he
    rw [hb] at h2
    simpa using h2
def lK (k n : Nat) : Array Bool := (List.replicate k true ++ List.replicate (n - k) false).toArray
theorem lK_size {k n : Nat} (h : k ≤ n) : (lK k n).size = n := by unfold lK; simp; omega
theorem lK_at {k n j : Nat} (hj : j < n) : (lK k n)[j]? = some (if j < k then true else false) := by
  unfold lK
  rw [List.getElem?_toArray, List.getElem?_append, List.length_replicate]
  split
  · rw [List.getElem?_replicate, if_pos (by assumption)]
  · rw [List.getElem?_replicate, if_pos (by omega)]
theorem lK_get {k n j : Nat} {d : Bool} : (lK k n).getD j d = if j < k then true else if j < n then false else d := by
  unfold lK
  rw [Array.getD_eq_getD_getElem?, List.getElem?_toArray, List.getElem?_append, List.length_replicate]
  by_cases h1 : j < k
  · rw [if_pos h1, if_pos h1, List.getElem?_replicate, if_pos h1]; rfl
  · rw [if_neg h1, if_neg h1, List.getElem?_replicate]
    by_cases h2 : j < n
    · rw [if_pos h2, if_pos (by omega)]; rfl
    · rw [if_neg h2, if_neg (by omega)]; rfl
theorem unl_lK {k n : Nat} : ∀ m, k ≤ m → m ≤ n → unl (lK k n) m = m - k := by
  intro m
  induction m with
  | zero => intro h1 h2; unfold unl; omega
  | succ m ih =>
    intro h1 h2
    unfold unl
    by_cases hm : k ≤ m
    · have h3 : (lK k n).getD m true = false := by rw [lK_get, if_neg (by omega), if_pos (by omega)]
      rw [ih hm (by omega), h3]
      simp
      omega
    · have hk : k = m + 1 := by omega
      have h0 : ∀ q, q ≤ k → unl (lK k n) q = 0 := by
        intro q
        induction q with
        | zero => intro _; rfl
        | succ q ih2 =>
          intro hq
          have h3 : (lK k n).getD q true = true := by rw [lK_get, if_pos (by omega)]
          unfold unl
          rw [ih2 (by omega), h3]
          simp
      have h3 : (lK k n).getD m true = true := by rw [lK_get, if_pos (by omega)]
      rw [h0 m (by omega), h3]
      simp
      omega
theorem good_drop : ∀ (r : List (Option Nat × List Nat × List Nat)) (j k : Nat), goodT k r = true → goodT (k + j) (r.drop j) = true
  | r, 0, k, h => by simpa using h
  | [], j + 1, k, h => by simp [goodT]
  | x :: r, j + 1, k, h => by
    unfold goodT at h
    simp only [Bool.and_eq_true] at h
    rw [List.drop_succ_cons, show k + (j + 1) = k + 1 + j from by omega]
    exact good_drop r j (k + 1) h.2
/-- p0: the boxes that were there ahead of the region (their keys lie beyond it) -/
theorem any_floatQ (kp : Nat) {Q : Exit → Act → World → Prop} {a : Act} {w w1 : World} (hw1 : RowKit.Below w.heap.size w w1) {l : List Oper} (n B : Nat) (xs : List Fb) (p0 : Nat → Option Nat) (hok : fltBQ kp xs (l.take n) (l.drop n) = true) (hrun : ∀ x ∈ xs, x.al.i < (l.take n).length → x.bs = none → FltRun P [x.al]) (hrb : ∀ x ∈ xs, ∀ v u, x.bs = some (v, u) → ∀ o, (l.take n)[x.al.i]? = some o → ∀ (ev : Operand → Value), ev (.tmp v) = u → ∀ w, (execOp ev o).run P w = .ok (.value (.slice (some ⟨w.heap.size, 0, none⟩) 1 1)) (w.alloc (.cells x.al.cs x.al.ty))) (hst : StRunQ P xs)
    (hBW : B ≤ w.heap.size) (hp0 : ∀ x ∈ xs, (x.al.i < l.length → p0 x.al.i = none) ∧ (l.length ≤ x.al.i → ∃ g, p0 x.al.i = some g ∧ Blk w g x.al.ty x.al.cs ∧ B ≤ g)) (hpd : ∀ x ∈ xs, ∀ y ∈ xs, x.al.i ≠ y.al.i → ∀ g, p0 x.al.i = some g → p0 y.al.i ≠ some g) (hpa : putsB p0 xs a = a)
    (h : ∃ afin : Act, (∀ W', RowKit.Below B w W' → wpQuiet P (virtQ (l.take n) (l.drop n)).toArray (fun w' => ∃ q : Regrown, w' = grow (redrawn W' q.d) q.os) (fun a' => a' = afin) ((virtQ (l.take n) (l.drop n)).drop kp) a) ∧
      (∀ x ∈ xs, ∀ v u, x.bs = some (v, u) → afin.tmps[v]? = some u) ∧ (∀ x ∈ xs, ∀ j v row, x.st = some (j, v, row) → afin.tmps[v]? = some (.agg row)) ∧ (∀ x ∈ xs, x.al.d < afin.tmps.size) ∧
      (∀ (p : Nat → Nat) w', RowKit.Below B w w' → (∀ x ∈ xs, Blk w' (p x.al.i) x.al.ty x.fin ∧ B ≤ p x.al.i) → (∀ x ∈ xs, ∀ y ∈ xs, x.al.i ≠ y.al.i → p x.al.i ≠ p y.al.i) → (∀ x ∈ xs, l.length ≤ x.al.i → p0 x.al.i = some (p x.al.i)) → wpList P l.toArray Q (l.drop n) (putsB (fun i => some (p i)) xs afin) w')) : wpAny P .any l.toArray Q (l.length - kp) (lK kp l.length) a w1 := by
  obtain ⟨afin, hwalk, hvb, hval, hslot, htail⟩ := h
  have hsplit : l = l.take n ++ l.drop n := (List.take_append_drop n l).symm
  have hlen : l.length = (l.take n).length + (l.drop n).length := by rw [← List.length_append, ← hsplit]
  rw [hlen] at htail hp0
  obtain ⟨H, hH⟩ : ∃ H, l.take n = H := ⟨_, rfl⟩
  obtain ⟨T, hT⟩ : ∃ T, l.drop n = T := ⟨_, rfl⟩
  rw [hH, hT] at hok hwalk hsplit hp0 htail
  rw [hH] at hrun hrb
  rw [hsplit] at htail ⊢
  clear hH hT hsplit hlen
  have hk := flt_okQ hok
  have hg : goodT 0 ((virtQ H T).map (rowT (virtQ H T).toArray)) = true := by
    unfold fltBQ at hok
    simp only [Bool.and_eq_true, decide_eq_true_eq] at hok
    exact hok.1.1.2
  have hsz : (H ++ T).length = H.length + T.length := by simp
  rw [hsz]
  have hkH := hk.kH
  have hBw1 : ∀ i, i < w.heap.size → w1.heap[i]? = w.heap[i]? := fun i hi => hw1.block i hi
  have hlow : ∀ x ∈ xs, x.cur (lK kp (H.length + T.length)) = x.al.cs := fun x hx => by
    unfold Fb.cur
    cases hst : x.st with
    | none => rfl
    | some q =>
      obtain ⟨j, v, row⟩ := q
      simp only
      refine if_neg ?_
      obtain ⟨o, ho, _⟩ := hk.sop x hx j v row hst
      have hj := (List.getElem?_eq_some_iff.1 ho).1
      rw [lK_get, if_neg (by have := hk.lowS x hx j v row hst; omega), if_pos (by omega)]
      decide
  have key := wpAny_floatQ (P := P) (B := B) (W := w) (afin := afin) (Q := Q) (p0 := p0) hBW hk hrun hrb hst hvb hval hslot htail (H.length + T.length - kp) (lK kp (H.length + T.length)) a p0 w1 (lK_size (by omega)) (by rw [unl_lK _ (by omega) (by omega)]; omega) (fun j h1 h2 => by
      rw [lK_get, if_neg (by omega), if_pos h2]) (fun j hj => by rw [lK_get, if_pos hj]) (hw1.mono hBW) (fun x hx g hg => by
      rw [hlow x hx]
      by_cases hx2 : x.al.i < H.length + T.length
      · rw [(hp0 x hx).1 hx2] at hg; cases hg
      · obtain ⟨g', h1, h2, h3⟩ := (hp0 x hx).2 (by omega)
        rw [h1] at hg
        injection hg with hg
        subst hg
        exact ⟨h2.same (hBw1 _ h2.lt), h3⟩) hpd (fun x hx => by
      have hlo := hk.lowA x hx
      by_cases hx2 : x.al.i < H.length + T.length
      · rw [lK_get, if_neg (by omega), if_pos hx2, (hp0 x hx).1 hx2]
        simp
      · obtain ⟨g', h1, h2, h3⟩ := (hp0 x hx).2 (by omega)
        rw [lK_get, if_neg (by omega), if_neg hx2, h1]
        simp) (fun x hx _ => rfl) (fun j o ho hl e he hb => by
      have hjl : j < H.length + T.length := by have := (List.getElem?_eq_some_iff.1 ho).1; rw [virtQ_len] at this; exact this
      rw [lK_get] at hl
      by_cases hjk : j < kp
      · have := hk.pin j o hjk ho e he hb
        rw [lK_get, if_pos this]
      · rw [if_neg hjk, if_pos hjl] at hl
        cases hl) (fun W' hW' => by
      have hlex := lex_goodT (ops := (virtQ H T).toArray) ((virtQ H T).drop kp) kp (lK kp (H.length + T.length)) (fun j => by rw [List.getElem?_drop, List.getElem?_toArray]) (by simp [virtQ_len]; omega) (by rw [lK_size (by omega)]; simp [virtQ_len]) (fun j hj => by rw [lK_at (by omega), if_pos hj]) (fun j h1 h2 => by rw [List.size_toArray, virtQ_len] at h2; rw [lK_at h2, if_neg (by omega)]) (by rw [List.map_drop]; have := good_drop ((virtQ H T).map (rowT (virtQ H T).toArray)) kp 0 hg; rw [Nat.zero_add] at this; exact this)
      have H1 := wpAnyQ_lex (P := P) (C := CW W') (md := .any) hk.sel ((virtQ H T).drop kp) kp (lK kp (H.length + T.length)) a (fun j => by rw [List.getElem?_drop, List.getElem?_toArray]) hlex (hwalk W' hW')
      rw [List.length_drop, virtQ_len] at H1
      exact H1)
  rw [hpa] at key
  exact key
def valsQ : List Fb → Act → Prop
  | [], _ => True
  | x :: r, a => (match x.st with | some (_, v, row) => a.tmps[v]? = some (.agg row) | none => True) ∧ (match x.bs with | some (v, u) => a.tmps[v]? = some u | none => True) ∧ x.al.d < a.tmps.size ∧ valsQ r a
theorem valsQ_val : ∀ {xs : List Fb} {a : Act}, valsQ xs a → ∀ x ∈ xs, ∀ j v row, x.st = some (j, v, row) → a.tmps[v]? = some (.agg row)
  | [], a, _, x, hx, _, _, _, _ => by simp at hx
  | y :: r, a, h, x, hx, j, v, row, hst => by
    rcases List.mem_cons.1 hx with e | e
    · subst e
      have := h.1
      rw [hst] at this
      exact this
    · exact valsQ_val h.2.2.2 x e j v row hst
theorem valsQ_bs : ∀ {xs : List Fb} {a : Act}, valsQ xs a → ∀ x ∈ xs, ∀ v u, x.bs = some (v, u) → a.tmps[v]? = some u
  | [], a, _, x, hx, _, _, _ => by simp at hx
  | y :: r, a, h, x, hx, v, u, hst => by
    rcases List.mem_cons.1 hx with e | e
    · subst e
      have := h.2.1
      rw [hst] at this
      exact this
    · exact valsQ_bs h.2.2.2 x e v u hst
theorem valsQ_slot : ∀ {xs : List Fb} {a : Act}, valsQ xs a → ∀ x ∈ xs, x.al.d < a.tmps.size
  | [], a, _, x, hx => by simp at hx
  | y :: r, a, h, x, hx => by
    rcases List.mem_cons.1 hx with e | e
    · subst e; exact h.2.2.1
    · exact valsQ_slot h.2.2.2 x e
/-- no box was there ahead of the region -/
theorem any_floatB (kp : Nat) {Q : Exit → Act → World → Prop} {a : Act} {w w1 : World} (hw1 : RowKit.Below w.heap.size w w1) {l : List Oper} (n : Nat) (xs : List Fb) (hok : fltBQ kp xs (l.take n) (l.drop n) = true) (hlt : (xs.all fun x => decide (x.al.i < l.length)) = true) (hrun : ∀ x ∈ xs, x.bs = none → FltRun P [x.al]) (hrb : ∀ x ∈ xs, ∀ v u, x.bs = some (v, u) → ∀ o, (l.take n)[x.al.i]? = some o → ∀ (ev : Operand → Value), ev (.tmp v) = u → ∀ w, (execOp ev o).run P w = .ok (.value (.slice (some ⟨w.heap.size, 0, none⟩) 1 1)) (w.alloc (.cells x.al.cs x.al.ty))) (hst : StRunQ P xs)
    (h : ∃ afin : Act, (∀ W', RowKit.Below w.heap.size w W' → wpQuiet P (virtQ (l.take n) (l.drop n)).toArray (fun w' => ∃ q : Regrown, w' = grow (redrawn W' q.d) q.os) (fun a' => a' = afin) ((virtQ (l.take n) (l.drop n)).drop kp) a) ∧ valsQ xs afin ∧
      (∀ (p : Nat → Nat) w', RowKit.Below w.heap.size w w' → (∀ x ∈ xs, Blk w' (p x.al.i) x.al.ty x.fin ∧ w.heap.size ≤ p x.al.i) → (∀ x ∈ xs, ∀ y ∈ xs, x.al.i ≠ y.al.i → p x.al.i ≠ p y.al.i) → wpList P l.toArray Q (l.drop n) (putsB (fun i => some (p i)) xs afin) w')) : wpAny P .any l.toArray Q (l.length - kp) (lK kp l.length) a w1 := by
  obtain ⟨afin, h1, h2, h3⟩ := h
  have hlt' : ∀ x ∈ xs, x.al.i < l.length := fun x hx => of_decide_eq_true (List.all_eq_true.1 hlt x hx)
  exact any_floatQ kp hw1 n w.heap.size xs (fun _ => none) hok (fun x hx _ hb => hrun x hx hb) hrb hst (Nat.le_refl _) (fun x hx => ⟨fun _ => rfl, fun h => absurd (hlt' x hx) (by omega)⟩) (fun x _ y _ _ g hg => by cases hg) (putsB_none _ _)
    ⟨afin, h1, valsQ_bs h2, valsQ_val h2, valsQ_slot h2, fun p w' a1 a2 a3 _ => h3 p w' a1 a2 a3⟩
end
section
variable {P : Program} {α : Type} {E : Rp α}
/-- the run of a slice of one element -/
theorem run_build1 {t e : TypeId} {z : Value} {bytes : Nat} {v : Tmp} {o : Oper} {ev : Operand → Value} {u : Value} (ho : o.op = .buildSlice t 1 #[(0, .tmp v)]) (ht : P.underlying t = some (.slice e)) (hinfo : (P.info? e).map (fun i => (i.zero, i.size, i.bytes)) = some (some z, E.n, bytes)) (hzs : z.cells.size = E.n) (hsz : 0 < E.n) (hb : E.n ≤ 16777216) (hev : ev (.tmp v) = u) (hu : u.cells.size = E.n) (w : World) :
    (execOp ev o).run P w = .ok (.value (.slice (some ⟨w.heap.size, 0, none⟩) 1 1)) (w.alloc (.cells u.cells e)) := by
  have hrun := run_buildSlice1 (P := P) (t := t) (e := e) (z := z) (size := E.n) (bytes := bytes) ht hinfo hzs hsz hb u hu w
  rw [show execOp ev o = do return .value (← Instr.buildSlice t 1 #[(0, u)]) from by simp [execOp, ho, hev]]
  simp only [Sem.run_bind, hrun, Result.andThen_ok, Sem.run_pure]
/-- the append of a slice of one element that has been built -/
theorem wpList_app1G {ops : Array Oper} {rest : List Oper} {o2 : Oper} {a : Act} {Q : Exit → Act → World → Prop} {w : World} {base : Nat} {G : Nat → Prop} {v : Value} {xs : List α} (t e : TypeId) (z : Value) (bytes : Nat) (s xo : Operand) (g : Nat)
    (hg2 : o2.guard = none)
    (ho2 : o2.op = .call { callee := .builtin .append, args := #[s, xo], argTypes := #[t, t] })
    (ht : P.underlying t = some (.slice e)) (hinfo : (P.info? e).map (fun i => (i.zero, i.size, i.bytes)) = some (some z, E.n, bytes)) (hzs : z.cells.size = E.n) (hsz : 0 < E.n)
    (hs : a.eval s = v) (hxo : a.eval xo = .slice (some ⟨g, 0, none⟩) 1 1) (hown : Own E e base G w v xs)
    (u : Value) (hgb : Blk w g e u.cells) (hgn : some g ≠ v.ownBlock) (x : α) (F : Nat → Prop) (hR : E.R F w u.cells.toList x)
    (hF : ∀ k, F k → G k ∧ k < w.heap.size ∧ some k ≠ v.ownBlock) (n : Nat) (hn : xs.length + 1 = n) (hlen : Room xs.length) (hb : bytes ≤ 131072) (hbase : base ≤ w.heap.size)
    (h : ∀ A' c' w', Hid (Own E e base G w' (.slice A' n c') (xs ++ [x])) → Hid (Grew base w w' v (.slice A' n c')) →
      wpList P ops Q rest (a.put o2.dst (.slice A' n c')) w') : wpList P ops Q (o2 :: rest) a w := by
  subst hn
  refine wpList_app (P := P) (E := E) (base := base) (G := G) (v := v) (xs := xs) t e z bytes hg2 s xo ho2 ht hinfo hzs hsz hs hown ⟨g, 0, none⟩ 1 1 hxo u.cells.toList [x] rfl F
    (CellsAre.one hR) (fun j c hc => ?_) (fun k hk => hF k hk) (by unfold Room at hlen; simp; omega) hb hbase (fun v' w' h1 h2 h3 => ?_)
  · rw [add_lit', Nat.zero_add, hgb.cell]; simpa using hc
  · obtain ⟨cells, ⟨hl, hv⟩, hc⟩ := h1
    have hform : ∃ A' c', v' = .slice A' (xs.length + 1) c' := by
      rcases hv with ⟨_, h0⟩ | ⟨g, cap, cur, hv, _⟩
      · simp at h0
      · rw [List.length_append] at hv; exact ⟨_, _, hv⟩
    obtain ⟨A', c', rfl⟩ := hform
    refine h A' c' w' ⟨cells, ⟨hl, hv⟩, hc⟩ ⟨?_, fun k hk hne => h2.block k hk hne, h3.imp id fun he => ⟨_, he, Nat.le_refl _⟩⟩
    exact below_app (Below.refl base w) h2 hown (Nat.le_refl _) hbase
end
end Go.Proofs.YtldccpmnboebmaaDoor
