/-
  A drawn region whose head reads, calls and allocates (an allocation may come at any time) and whose last operations wait for all others, in their order: one walk of the head, over whatever world, serves every order. No walk.
-/
import Derived.Test.YtldccpmnboebmaaDoorM2
import Derived.StillTail
namespace Go.Proofs.YtldccpmnboebmaaDoor
open Go.RowKit Go.Sort
set_option linter.unusedVariables false

/-- an allocation of the head: its place, its temporary, its type, its cells -/
structure Al where
  i : Nat
  d : Tmp
  ty : TypeId
  cs : Array Value
def fltO (o : Oper) : Oper := match o.op with
  | .alloc _ => nopT o
  | _ => o
def virtL (H T : List Oper) : List Oper := H.map fltO ++ T.map nopT
def alB (als : List Al) (ops : Array Oper) (i : Nat) (o : Oper) : Bool := match o.op with
  | .alloc ty => als.any fun x => x.i == i && o.dst == some x.d && o.guard == none && x.ty == ty
  | _ => als.all fun x => !(o.looksAt ops).contains x.d && o.dst != some x.d
def allB (als : List Al) (ops : Array Oper) : Nat → List Oper → Bool
  | _, [] => true
  | k, o :: r => alB als ops k o && allB als ops (k + 1) r
def ndT : List (Option Tmp) → Bool
  | [] => true
  | none :: r => ndT r
  | some d :: r => !r.contains (some d) && ndT r
theorem allB_at {als : List Al} {ops : Array Oper} : ∀ (l : List Oper) (k : Nat), allB als ops k l = true → ∀ j o, l[j]? = some o → alB als ops (k + j) o = true
  | [], _, _, j, o, h => by simp at h
  | q :: l, k, hg, j, o, h => by
    unfold allB at hg
    rw [Bool.and_eq_true] at hg
    cases j with
    | zero =>
      simp only [List.getElem?_cons_zero, Option.some.injEq] at h
      subst h
      exact hg.1
    | succ j =>
      simp only [List.getElem?_cons_succ] at h
      have := allB_at l (k + 1) hg.2 j o h
      rw [show k + (j + 1) = k + 1 + j from by omega]
      exact this
theorem ndT_at : ∀ (l : List (Option Tmp)), ndT l = true → ∀ (i j : Nat) d, l[i]? = some (some d) → l[j]? = some (some d) → i = j
  | [], _, i, j, d, h, _ => by simp at h
  | none :: l, hn, i, j, d, h, h' => by
    cases i with
    | zero => simp at h
    | succ i =>
      cases j with
      | zero => simp at h'
      | succ j =>
        simp only [List.getElem?_cons_succ] at h h'
        rw [ndT_at l hn i j d h h']
  | some e :: l, hn, i, j, d, h, h' => by
    unfold ndT at hn
    rw [Bool.and_eq_true] at hn
    obtain ⟨h1, h2⟩ := hn
    cases i with
    | zero =>
      cases j with
      | zero => rfl
      | succ j =>
        simp only [List.getElem?_cons_zero, Option.some.injEq] at h
        simp only [List.getElem?_cons_succ] at h'
        subst h
        have : l.contains (some e) = true := by rw [List.contains_iff_mem]; exact List.mem_of_getElem? h'
        rw [this] at h1
        cases h1
    | succ i =>
      cases j with
      | zero =>
        simp only [List.getElem?_cons_zero, Option.some.injEq] at h'
        simp only [List.getElem?_cons_succ] at h
        subst h'
        have : l.contains (some e) = true := by rw [List.contains_iff_mem]; exact List.mem_of_getElem? h
        rw [this] at h1
        cases h1
      | succ j =>
        simp only [List.getElem?_cons_succ] at h h'
        rw [ndT_at l h2 i j d h h']

/-! ### the frame: pointers put for the allocations that have come -/
def ptrV (g : Nat) : Value := .pointer (some ⟨g, 0, none⟩)
def putsF (p : Nat → Option Nat) : List Al → Act → Act
  | [], a => a
  | x :: r, a => putsF p r (match p x.i with | some g => a.put (some x.d) (ptrV g) | none => a)
theorem putsF_put (p : Nat → Option Nat) {e : Option Tmp} {v : Value} : ∀ (als : List Al) (a : Act), (∀ x ∈ als, e ≠ some x.d) → putsF p als (a.put e v) = (putsF p als a).put e v
  | [], a, _ => rfl
  | x :: r, a, h => by
    unfold putsF
    cases hp : p x.i with
    | none => exact putsF_put p r a fun y hy => h y (by simp [hy])
    | some g =>
      simp only
      rw [Act.put_comm a v (ptrV g) (fun d hd => by
        intro e'
        injection e' with e'
        subst e'
        exact h x (by simp) hd)]
      exact putsF_put p r _ fun y hy => h y (by simp [hy])
theorem putsF_upd (p : Nat → Option Nat) (k g : Nat) : ∀ (als : List Al) (a : Act), (∀ x ∈ als, x.i ≠ k) → putsF (fun j => if j = k then some g else p j) als a = putsF p als a
  | [], a, _ => rfl
  | x :: r, a, h => by
    unfold putsF
    rw [if_neg (h x (by simp))]
    exact putsF_upd p k g r _ fun y hy => h y (by simp [hy])
theorem putsF_new (p : Nat → Option Nat) (g : Nat) : ∀ (als : List Al) (a : Act) (x : Al), x ∈ als → (als.map (·.i)).Nodup → (als.map (·.d)).Nodup → p x.i = none →
    putsF (fun j => if j = x.i then some g else p j) als a = (putsF p als a).put (some x.d) (ptrV g)
  | [], a, x, h, _, _, _ => by simp at h
  | y :: r, a, x, h, hi, hd, hp => by
    simp only [List.map_cons, List.nodup_cons] at hi hd
    unfold putsF
    rcases List.mem_cons.1 h with e | e
    · subst e
      rw [if_pos rfl, hp]
      simp only
      rw [putsF_upd p x.i g r _ (fun z hz e => hi.1 (by rw [← e]; exact List.mem_map_of_mem (f := fun z : Al => z.i) hz))]
      exact putsF_put p r a fun z hz e => by
        injection e with e
        exact hd.1 (by rw [e]; exact List.mem_map_of_mem (f := fun z : Al => z.d) hz)
    · have hne : y.i ≠ x.i := fun e' => hi.1 (by rw [e']; exact List.mem_map_of_mem (f := fun z : Al => z.i) e)
      rw [if_neg hne]
      exact putsF_new p g r _ x e hi.2 hd.2 hp
theorem putsF_eval {ops : Array Oper} (p : Nat → Option Nat) (o : Oper) (hs : ∀ cs b, o.op ≠ .select cs b) : ∀ (als : List Al) (a : Act), (∀ x ∈ als, x.d ∉ o.looksAt ops) → execOp (putsF p als a).eval o = execOp a.eval o
  | [], a, _ => rfl
  | x :: r, a, h => by
    unfold putsF
    rw [putsF_eval (ops := ops) p o hs r _ fun y hy => h y (by simp [hy])]
    cases hp : p x.i with
    | none => rfl
    | some g => exact execOp_put (ops := ops) o hs a (some x.d) (ptrV g) fun d hd => by injection hd with hd; subst hd; exact h x (by simp)
theorem putsF_wanted {ops : Array Oper} (p : Nat → Option Nat) (o : Oper) : ∀ (als : List Al) (a : Act), (∀ x ∈ als, x.d ∉ o.looksAt ops) → Region.wanted o (yielded ops (putsF p als a).tmps) = Region.wanted o (yielded ops a.tmps)
  | [], a, _ => rfl
  | x :: r, a, h => by
    unfold putsF
    rw [putsF_wanted p o r _ fun y hy => h y (by simp [hy])]
    cases hp : p x.i with
    | none => rfl
    | some g => exact wanted_put o a (some x.d) (ptrV g) fun d hd => by injection hd with hd; subst hd; exact h x (by simp)

/-! ### what a walk pins -/
section
variable {P : Program} {ops : Array Oper} {C : World → Prop}
theorem pin_slot {afin : Act} {d : Nat} :
    ∀ (fuel : Nat) (listed : Array Bool) (a : Act), wpAnyQ P .any ops C (fun a' => a' = afin) fuel listed a → (∀ (j : Nat) o, ops[j]? = some o → listed.getD j true = false → o.dst ≠ some d) → a.tmps[d]? = afin.tmps[d]?
  | 0, listed, a, h, _ => by rw [h.2]
  | fuel + 1, listed, a, h, hd => by
    cases hr : Region.ready .any ops listed with
    | nil => rw [h.1 hr]
    | cons i r =>
      have hi : i ∈ Region.ready .any ops listed := by rw [hr]; simp
      have hq := h.2 i hi
      obtain ⟨hl, o, ho, _⟩ := mem_ready.1 hi
      obtain ⟨v, _, hK⟩ := yieldsIn_of_qOp ho hq
      have hne := hd i o ho hl
      have ih := pin_slot fuel _ _ hK (fun j o' ho' hl' => by
        by_cases hji : j = i
        · subst hji
          have hlt : j < (listed.setIfInBounds j true).size ∨ ¬ j < (listed.setIfInBounds j true).size := by omega
          rw [Array.getD_eq_getD_getElem?, Array.getElem?_setIfInBounds_self] at hl'
          by_cases hjl : j < listed.size
          · simp [hjl] at hl'
          · simp [hjl] at hl'
        · rw [getD_set_ne true (fun e => hji e.symm)] at hl'
          exact hd j o' ho' hl')
      rw [← ih]
      unfold Act.put
      cases hdst : o.dst with
      | none => rfl
      | some e =>
        simp only
        rw [Array.getElem?_setIfInBounds_ne]
        intro e'
        subst e'
        exact hne hdst
/-- where only operations that do nothing are left, the frame is the last one -/
theorem pin_end {afin : Act} : ∀ (fuel : Nat) (listed : Array Bool) (a : Act), wpAnyQ P .any ops C (fun a' => a' = afin) fuel listed a → (∀ (j : Nat) o, ops[j]? = some o → listed.getD j true = false → o.dst = none) → a = afin
  | 0, listed, a, h, _ => h.2
  | fuel + 1, listed, a, h, hd => by
    cases hr : Region.ready .any ops listed with
    | nil => exact h.1 hr
    | cons i r =>
      have hi : i ∈ Region.ready .any ops listed := by rw [hr]; simp
      have hq := h.2 i hi
      obtain ⟨hl, o, ho, _⟩ := mem_ready.1 hi
      obtain ⟨v, _, hK⟩ := yieldsIn_of_qOp ho hq
      rw [hd i o ho hl] at hK
      refine pin_end fuel _ _ hK (fun j o' ho' hl' => ?_)
      by_cases hji : j = i
      · subst hji
        rw [Array.getD_eq_getD_getElem?, Array.getElem?_setIfInBounds_self] at hl'
        by_cases hjl : j < listed.size
        · simp [hjl] at hl'
        · simp [hjl] at hl'
      · rw [getD_set_ne true (fun e => hji e.symm)] at hl'
        exact hd j o' ho' hl'
theorem put_one {a : Act} {d : Option Tmp} {v u : Value} (h : ∀ e, d = some e → (a.put d v).tmps[e]? = (a.put d u).tmps[e]?) : a.put d v = a.put d u := by
  cases d with
  | none => rfl
  | some e =>
    have h1 := h e rfl
    unfold Act.put at h1 ⊢
    simp only at h1 ⊢
    congr 1
    apply Array.ext_getElem?
    intro k
    by_cases hk : k = e
    · subst hk; exact h1
    · rw [Array.getElem?_setIfInBounds_ne (fun e' => hk e'.symm), Array.getElem?_setIfInBounds_ne (fun e' => hk e'.symm)]
end
def reachT : Nat → List Oper → Nat → Oper → Bool
  | 0, _, k, o => memT k (onsT o)
  | f + 1, l, k, o => memT k (onsT o) || (onsT o).any fun j => match l[j]? with
    | some q => reachT f l k q
    | none => false
theorem onsT_at {o : Oper} {k : Nat} (h : k ∈ onsT o) : ∃ e ∈ o.after, Region.binds .any e = true ∧ e.on = k := by
  unfold onsT at h
  obtain ⟨e, he, hek⟩ := List.mem_map.1 h
  have h2 := List.mem_filter.1 he
  exact ⟨e, Array.mem_toList_iff.1 h2.1, h2.2, hek⟩
theorem reachT_listed {l : List Oper} {listed : Array Bool} (hcl : ∀ (j : Nat) o, l[j]? = some o → listed.getD j false = true → ∀ e ∈ o.after, Region.binds .any e = true → listed.getD e.on false = true) {k : Nat} :
    ∀ (f : Nat) (o : Oper), (∀ e ∈ o.after, Region.binds .any e = true → listed.getD e.on false = true) → reachT f l k o = true → listed.getD k false = true
  | 0, o, ho, h => by
    obtain ⟨e, he, hb, hek⟩ := onsT_at (memT_iff.1 h)
    rw [← hek]
    exact ho e he hb
  | f + 1, o, ho, h => by
    unfold reachT at h
    rw [Bool.or_eq_true] at h
    rcases h with h | h
    · obtain ⟨e, he, hb, hek⟩ := onsT_at (memT_iff.1 h)
      rw [← hek]
      exact ho e he hb
    · obtain ⟨j, hj, hr⟩ := List.any_eq_true.1 h
      obtain ⟨e, he, hb, hek⟩ := onsT_at hj
      have hjl := ho e he hb
      rw [hek] at hjl
      cases hq : l[j]? with
      | none => rw [hq] at hr; cases hr
      | some q =>
        rw [hq] at hr
        exact reachT_listed hcl f q (hcl j q hq hjl) hr
def unl (listed : Array Bool) : Nat → Nat
  | 0 => 0
  | n + 1 => unl listed n + (if listed.getD n true = false then 1 else 0)
theorem unl_same {l l' : Array Bool} : ∀ n, (∀ j, j < n → l.getD j true = l'.getD j true) → unl l n = unl l' n
  | 0, _ => rfl
  | n + 1, h => by
    unfold unl
    rw [unl_same n fun j hj => h j (by omega), h n (by omega)]
theorem unl_set {l : Array Bool} {i : Nat} (hs : i < l.size) (hl : l.getD i true = false) : ∀ n, i < n → unl (l.setIfInBounds i true) n + 1 = unl l n
  | 0, h => by omega
  | n + 1, h => by
    unfold unl
    by_cases hn : n = i
    · subst hn
      have h1 : (l.setIfInBounds n true).getD n true = true := by
        rw [Array.getD_eq_getD_getElem?, Array.getElem?_setIfInBounds_self]; split <;> rfl
      rw [h1, hl, unl_same n fun j hj => getD_set_ne true (by omega)]
      simp
    · rw [getD_set_ne true (fun e => hn e.symm)]
      have := unl_set hs hl n (by omega)
      omega
theorem unl_zero {l : Array Bool} : ∀ {n : Nat}, unl l n = 0 → ∀ j, j < n → l.getD j true = true
  | 0, _, j, h => by omega
  | n + 1, h, j, hj => by
    unfold unl at h
    have h1 : unl l n = 0 := by omega
    by_cases hn : j = n
    · subst hn
      cases hl : l.getD j true
      · rw [hl] at h; simp at h
      · rfl
    · exact unl_zero h1 j (by omega)
theorem unl_pos {l : Array Bool} : ∀ {n : Nat}, unl l n ≠ 0 → ∃ j, j < n ∧ l.getD j true = false
  | 0, h => absurd rfl h
  | n + 1, h => by
    cases hl : l.getD n true
    · exact ⟨n, by omega, hl⟩
    · unfold unl at h
      rw [hl] at h
      obtain ⟨j, hj, h2⟩ := unl_pos (l := l) (n := n) (by simpa using h)
      exact ⟨j, by omega, h2⟩

/-! ### the real order beside the one without allocations -/
def CW (W : World) : World → Prop := fun w' => ∃ q : Regrown, w' = grow (redrawn W q.d) q.os
theorem cw_self (w : World) : CW w w := ⟨⟨w.drawn, #[]⟩, by rw [grow_empty]; rfl⟩
theorem fltO_after (o : Oper) : (fltO o).after = o.after := by unfold fltO; split <;> rfl
section
variable {P : Program} {H T : List Oper} {als : List Al}
theorem virt_after : (virtL H T).map (·.after) = (H ++ T).map (·.after) := by
  unfold virtL
  rw [List.map_append, List.map_append, List.map_map, List.map_map]
  congr 1
  exact List.map_congr_left fun o _ => fltO_after o
theorem virt_len : (virtL H T).length = H.length + T.length := by unfold virtL; simp
theorem virt_head {i : Nat} {o : Oper} (h : H[i]? = some o) : (virtL H T)[i]? = some (fltO o) := by
  have hi := (List.getElem?_eq_some_iff.1 h).1
  unfold virtL
  rw [List.getElem?_append_left (by simpa using hi), List.getElem?_map, h]
  rfl
theorem real_head {i : Nat} {o : Oper} (h : H[i]? = some o) : (H ++ T)[i]? = some o := by
  have hi := (List.getElem?_eq_some_iff.1 h).1
  rw [List.getElem?_append_left hi, h]
theorem ready_virt (listed : Array Bool) : Region.ready .any (H ++ T).toArray listed = Region.ready .any (virtL H T).toArray listed := by
  unfold Region.ready
  have hs : (H ++ T).toArray.size = (virtL H T).toArray.size := by simp [virt_len]
  rw [hs]
  refine List.filter_congr fun i _ => ?_
  have h1 : (H ++ T)[i]?.map (·.after) = (virtL H T)[i]?.map (·.after) := by
    rw [← List.getElem?_map, ← List.getElem?_map, virt_after]
  congr 1
  simp only [List.getElem?_toArray]
  cases e1 : (H ++ T)[i]? with
  | none =>
    cases e2 : (virtL H T)[i]? with
    | none => rfl
    | some b => rw [e1, e2] at h1; cases h1
  | some a =>
    cases e2 : (virtL H T)[i]? with
    | none => rw [e1, e2] at h1; cases h1
    | some b =>
      rw [e1, e2] at h1
      simp only [Option.map_some, Option.some.injEq] at h1
      simp only [Option.map_some, Option.getD_some]
      rw [h1]
theorem dst_virt (hT : ∀ o ∈ T, o.dst = none) (hall : allB als (H ++ T).toArray 0 H = true) (g : Nat) (hno : ∀ x ∈ als, ((H ++ T).toArray[g]?).bind (·.dst) ≠ some x.d) : ((H ++ T).toArray[g]?).bind (·.dst) = ((virtL H T).toArray[g]?).bind (·.dst) := by
  simp only [List.getElem?_toArray] at hno ⊢
  by_cases hg : g < H.length
  · obtain ⟨o, ho⟩ : ∃ o, H[g]? = some o := ⟨_, List.getElem?_eq_getElem hg⟩
    rw [real_head ho] at hno ⊢
    rw [virt_head ho]
    simp only [Option.bind_some] at hno ⊢
    have hb := allB_at H 0 hall g o ho
    unfold alB at hb
    unfold fltO
    split at hb
    · rename_i ty hop
      obtain ⟨x, hx, hb⟩ := List.any_eq_true.1 hb
      simp only [Bool.and_eq_true, beq_iff_eq] at hb
      exact absurd hb.1.1.2 (hno x hx)
    · rfl
  · by_cases hg2 : g < H.length + T.length
    · obtain ⟨o, ho⟩ : ∃ o, T[g - H.length]? = some o := ⟨_, List.getElem?_eq_getElem (by omega)⟩
      have h1 : (H ++ T)[g]? = some o := by rw [List.getElem?_append_right (by omega), ho]
      have h2 : (virtL H T)[g]? = some (nopT o) := by
        unfold virtL
        rw [List.getElem?_append_right (by simp; omega), List.length_map, List.getElem?_map, ho]
        rfl
      rw [h1, h2]
      simp only [Option.bind_some]
      rw [hT o (List.mem_of_getElem? ho)]
      rfl
    · rw [List.getElem?_eq_none (by simp; omega), List.getElem?_eq_none (by rw [virt_len]; omega)]
theorem wanted_virt (hT : ∀ o ∈ T, o.dst = none) (hall : allB als (H ++ T).toArray 0 H = true) (o : Oper) (hno : ∀ x ∈ als, x.d ∉ o.looksAt (H ++ T).toArray) (tmps : Array Value) : Region.wanted o (yielded (H ++ T).toArray tmps) = Region.wanted o (yielded (virtL H T).toArray tmps) := by
  unfold Region.wanted
  cases hg : o.guard with
  | none => rfl
  | some gb =>
    obtain ⟨g, b⟩ := gb
    simp only
    have h := dst_virt hT hall g fun x hx e => by
      refine hno x hx ?_
      unfold Oper.looksAt
      rw [hg]
      simp only [e]
      simp
    unfold yielded
    rw [h]
theorem putsF_congr {p q : Nat → Option Nat} : ∀ {als : List Al} {a : Act}, (∀ x ∈ als, p x.i = q x.i) → putsF p als a = putsF q als a
  | [], a, _ => rfl
  | x :: r, a, h => by
    unfold putsF
    rw [h x (by simp)]
    exact putsF_congr fun y hy => h y (by simp [hy])
theorem nodup_one : ∀ {als : List Al} {x y : Al}, (als.map (·.i)).Nodup → x ∈ als → y ∈ als → x.i = y.i → x = y
  | [], x, y, _, h, _, _ => by simp at h
  | z :: r, x, y, hn, hx, hy, e => by
    simp only [List.map_cons, List.nodup_cons] at hn
    rcases List.mem_cons.1 hx with h1 | h1
    · rcases List.mem_cons.1 hy with h2 | h2
      · rw [h1, h2]
      · subst h1
        exact absurd (by rw [e]; exact List.mem_map_of_mem (f := fun z : Al => z.i) h2) hn.1
    · rcases List.mem_cons.1 hy with h2 | h2
      · subst h2
        exact absurd (by rw [← e]; exact List.mem_map_of_mem (f := fun z : Al => z.i) h1) hn.1
      · exact nodup_one hn.2 h1 h2 e
theorem listed_is {listed : Array Bool} {n t : Nat} (hs : listed.size = n + t) (h1 : ∀ j, j < n → listed.getD j true = true) (h2 : ∀ j, n ≤ j → j < n + t → listed.getD j true = false) : listed = Array.replicate n true ++ Array.replicate t false := by
  apply Array.ext
  · simp [hs]
  · intro k hk hk2
    by_cases hkn : k < n
    · have := h1 k hkn
      rw [Array.getD_eq_getD_getElem?, Array.getElem?_eq_getElem hk] at this
      simp only [Option.getD_some] at this
      rw [this, Array.getElem_append_left (by simpa using hkn)]
      simp
    · have := h2 k (by omega) (by omega)
      rw [Array.getD_eq_getD_getElem?, Array.getElem?_eq_getElem hk] at this
      simp only [Option.getD_some] at this
      rw [this, Array.getElem_append_right (by simp; omega)]
      simp
/-- all that is asked of the region's shape -/
structure FltOk (als : List Al) (H T : List Oper) : Prop where
  tdst : ∀ o ∈ T, o.dst = none
  all : allB als (H ++ T).toArray 0 H = true
  ni : (als.map (·.i)).Nodup
  nd : (als.map (·.d)).Nodup
  lt : ∀ x ∈ als, x.i < H.length
  op : ∀ x ∈ als, ∃ o, H[x.i]? = some o ∧ o.op = .alloc x.ty
  one : ndT ((virtL H T).map (·.dst)) = true
  sel : Region.noSelect (virtL H T).toArray = true
  early : ∀ j o, (virtL H T).toArray[j]? = some o → ∀ e ∈ o.after, Region.binds .any e = true → e.on < j
  wait : ∀ o ∈ T, ∀ k, k < H.length → reachT 4 (virtL H T) k o = true
  seq : Region.seqB .any (H ++ T).toArray T.length H.length (Array.replicate H.length true ++ Array.replicate T.length false) = true
def FltRun (P : Program) (als : List Al) : Prop := ∀ x ∈ als, ∀ (ev : Operand → Value) (o : Oper), o.op = .alloc x.ty → ∀ w, (execOp ev o).run P w = .ok (.value (ptrV w.heap.size)) (w.alloc (.cells x.cs x.ty))
theorem wpAny_float {W : World} {afin : Act} {Q : Exit → Act → World → Prop} (hk : FltOk als H T) (hrun : FltRun P als)
    (htail : ∀ (p : Nat → Nat) w', RowKit.Below W.heap.size W w' → (∀ x ∈ als, Blk w' (p x.i) x.ty x.cs ∧ W.heap.size ≤ p x.i) → (∀ x ∈ als, ∀ y ∈ als, x.i ≠ y.i → p x.i ≠ p y.i) → wpList P (H ++ T).toArray Q T (putsF (fun i => some (p i)) als afin) w') :
    ∀ (fuel : Nat) (listed : Array Bool) (a : Act) (p : Nat → Option Nat) (w : World), listed.size = H.length + T.length → fuel = unl listed H.length + T.length → (∀ j, H.length ≤ j → j < H.length + T.length → listed.getD j true = false) →
      RowKit.Below W.heap.size W w → (∀ x ∈ als, ∀ g, p x.i = some g → Blk w g x.ty x.cs ∧ W.heap.size ≤ g) → (∀ x ∈ als, ∀ y ∈ als, x.i ≠ y.i → ∀ g, p x.i = some g → p y.i ≠ some g) → (∀ x ∈ als, listed.getD x.i true = false ↔ p x.i = none) → (∀ (j : Nat) o, (virtL H T)[j]? = some o → listed.getD j false = true → ∀ e ∈ o.after, Region.binds .any e = true → listed.getD e.on false = true) →
      (∀ W', RowKit.Below W.heap.size W W' → wpAnyQ P .any (virtL H T).toArray (CW W') (fun a' => a' = afin) fuel listed a) → wpAny P .any (H ++ T).toArray Q fuel listed (putsF p als a) w := by
  intro fuel
  induction fuel with
  | zero =>
    intro listed a p w hs hf hu hb hB hD hp hcl hfam
    have h0 : unl listed H.length = 0 := by omega
    have hT0 : T.length = 0 := by omega
    have hTn : T = [] := List.length_eq_zero_iff.1 hT0
    have hall := unl_zero h0
    have hea := pin_end 0 listed a (hfam W (RowKit.Below.refl _ _)) (fun j o ho hl => by
      have hj := (Array.getElem?_eq_some_iff.1 ho).1
      simp [virt_len] at hj
      have := hall j (by omega)
      rw [this] at hl
      cases hl)
    have hw := htail (fun i => (p i).getD 0) w hb (fun x hx => by
      have h1 := hall x.i (hk.lt x hx)
      cases hpx : p x.i with
      | none => have := (hp x hx).2 hpx; rw [h1] at this; cases this
      | some g => exact hB x hx g hpx) (fun x hx y hy hxy => by
      have h1 := hall x.i (hk.lt x hx)
      have h2 := hall y.i (hk.lt y hy)
      cases hpx : p x.i with
      | none => have := (hp x hx).2 hpx; rw [h1] at this; cases this
      | some g =>
        cases hpy : p y.i with
        | none => have := (hp y hy).2 hpy; rw [h2] at this; cases this
        | some g' =>
          simp only [Option.getD_some]
          intro e
          subst e
          exact hD x hx y hy hxy g hpx hpy)
    have hpe : putsF p als a = putsF (fun i => some ((p i).getD 0)) als afin := by
      rw [hea]
      exact putsF_congr fun x hx => by
        have h1 := hall x.i (hk.lt x hx)
        cases hpx : p x.i with
        | none => have := (hp x hx).2 hpx; rw [h1] at this; cases this
        | some g => rfl
    rw [hpe]
    have hseq := hk.seq
    have hle : listed = Array.replicate H.length true ++ Array.replicate T.length false := listed_is hs hall hu
    rw [← hle] at hseq
    have := wpAny_of_seq (P := P) (Q' := Q) T H.length listed _ w (fun j => by rw [List.getElem?_toArray, List.getElem?_append_right (by omega)]; congr 1; omega) hseq hw
    rw [hT0] at this
    exact this
  | succ fuel ih =>
    intro listed a p w hs hf hu hb hB hD hp hcl hfam
    by_cases h0 : unl listed H.length = 0
    · have hall := unl_zero h0
      have hea := pin_end (fuel + 1) listed a (hfam W (RowKit.Below.refl _ _)) (fun j o ho hl => by
        have hj := (Array.getElem?_eq_some_iff.1 ho).1
        simp [virt_len] at hj
        by_cases hjH : j < H.length
        · have := hall j hjH
          rw [this] at hl
          cases hl
        · have h2 : (virtL H T)[j]? = (T[j - H.length]?).map nopT := by
            unfold virtL
            rw [List.getElem?_append_right (by simp; omega), List.length_map, List.getElem?_map]
          rw [List.getElem?_toArray, h2] at ho
          obtain ⟨q, _, rfl⟩ := Option.map_eq_some_iff.1 ho
          rfl)
      have hw := htail (fun i => (p i).getD 0) w hb (fun x hx => by
        have h1 := hall x.i (hk.lt x hx)
        cases hpx : p x.i with
        | none => have := (hp x hx).2 hpx; rw [h1] at this; cases this
        | some g => exact hB x hx g hpx) (fun x hx y hy hxy => by
        have h1 := hall x.i (hk.lt x hx)
        have h2 := hall y.i (hk.lt y hy)
        cases hpx : p x.i with
        | none => have := (hp x hx).2 hpx; rw [h1] at this; cases this
        | some g =>
          cases hpy : p y.i with
          | none => have := (hp y hy).2 hpy; rw [h2] at this; cases this
          | some g' =>
            simp only [Option.getD_some]
            intro e
            subst e
            exact hD x hx y hy hxy g hpx hpy)
      have hpe : putsF p als a = putsF (fun i => some ((p i).getD 0)) als afin := by
        rw [hea]
        exact putsF_congr fun x hx => by
          have h1 := hall x.i (hk.lt x hx)
          cases hpx : p x.i with
          | none => have := (hp x hx).2 hpx; rw [h1] at this; cases this
          | some g => rfl
      rw [hpe]
      have hseq := hk.seq
      have hle : listed = Array.replicate H.length true ++ Array.replicate T.length false := listed_is hs hall hu
      rw [← hle] at hseq
      have := wpAny_of_seq (P := P) (Q' := Q) T H.length listed _ w (fun j => by rw [List.getElem?_toArray, List.getElem?_append_right (by omega)]; congr 1; omega) hseq hw
      rw [show T.length = fuel + 1 from by omega] at this
      exact this
    · obtain ⟨j0, hj0, hjl⟩ := unl_pos h0
      have hne : Region.ready .any (virtL H T).toArray listed ≠ [] := ready_some (n := j0) (by simp [virt_len]; omega) (by rw [hs]; simp [virt_len]) hk.early hjl
      refine ⟨fun e => absurd (by rw [← ready_virt]; exact e) hne, fun i hi => ?_⟩
      rw [ready_virt] at hi
      obtain ⟨hil, ov, hov, hiall⟩ := mem_ready.1 hi
      have hiS : i < H.length + T.length := by
        have := (Array.getElem?_eq_some_iff.1 hov).1
        simpa [virt_len] using this
      have hiH : i < H.length := by
        refine Classical.byContradiction fun hcon => ?_
        have h2 : (virtL H T)[i]? = (T[i - H.length]?).map nopT := by
          unfold virtL
          rw [List.getElem?_append_right (by simp; omega), List.length_map, List.getElem?_map]
        rw [List.getElem?_toArray, h2] at hov
        obtain ⟨q, hq, rfl⟩ := Option.map_eq_some_iff.1 hov
        have h3 := reachT_listed hcl 4 q (fun e he hbn => hiall e he hbn) (hk.wait q (List.mem_of_getElem? hq) j0 hj0)
        have hjs : j0 < listed.size := by omega
        rw [Array.getD_eq_getD_getElem?, Array.getElem?_eq_getElem hjs] at h3 hjl
        simp only [Option.getD_some] at h3 hjl
        rw [h3] at hjl
        cases hjl
      obtain ⟨o, ho⟩ : ∃ o, H[i]? = some o := ⟨_, List.getElem?_eq_getElem hiH⟩
      have hreal : (H ++ T).toArray[i]? = some o := by rw [List.getElem?_toArray]; exact real_head ho
      have hvirt : (virtL H T).toArray[i]? = some (fltO o) := by rw [List.getElem?_toArray]; exact virt_head ho
      have hilt : i < listed.size := by omega
      have hunl := unl_set hilt hil H.length hiH
      have hb' := allB_at H 0 hk.all i o ho
      rw [Nat.zero_add] at hb'
      -- invariants of the new list
      have hs' : (listed.setIfInBounds i true).size = H.length + T.length := by simpa using hs
      have hf' : fuel = unl (listed.setIfInBounds i true) H.length + T.length := by omega
      have hu' : ∀ j, H.length ≤ j → j < H.length + T.length → (listed.setIfInBounds i true).getD j true = false := fun j h1 h2 => by
        rw [getD_set_ne true (by omega)]
        exact hu j h1 h2
      have hcl' : ∀ (j : Nat) o, (virtL H T)[j]? = some o → (listed.setIfInBounds i true).getD j false = true → ∀ e ∈ o.after, Region.binds .any e = true → (listed.setIfInBounds i true).getD e.on false = true := fun j q hq hl e he hbn => by
        by_cases hji : j = i
        · subst hji
          rw [List.getElem?_toArray, hq] at hov
          injection hov with hov
          subst hov
          exact getD_set_true (hiall e he hbn)
        · rw [getD_set_ne false (fun e => hji e.symm)] at hl
          exact getD_set_true (hcl j q hq hl e he hbn)
      have hset : (listed.setIfInBounds i true).getD i true = true := by
        rw [Array.getD_eq_getD_getElem?, Array.getElem?_setIfInBounds_self]; split <;> rfl
      unfold alB at hb'
      split at hb'
      · rename_i ty hop
        obtain ⟨x, hx, hxb⟩ := List.any_eq_true.1 hb'
        simp only [Bool.and_eq_true, beq_iff_eq] at hxb
        obtain ⟨⟨⟨hxi, hxd⟩, hxg⟩, hxt⟩ := hxb
        have hpx : p x.i = none := (hp x hx).1 (by rw [hxi]; exact hil)
        have hr := hrun x hx (putsF p als a).eval o (by rw [hop, hxt]) w
        unfold wpOp
        rw [hreal]
        simp only
        rw [if_pos (by simp [Region.wanted, hxg])]
        refine .inl ?_
        unfold Oper.wp
        rw [hr]
        show wpAny P .any (H ++ T).toArray Q fuel _ ((putsF p als a).put o.dst (ptrV w.heap.size)) _
        rw [hxd, ← putsF_new p w.heap.size als a x hx hk.ni hk.nd hpx]
        refine ih _ a _ _ hs' hf' hu' (hb.alloc hb.size _) ?_ ?_ ?_ hcl' ?_
        · intro y hy g hg
          by_cases hyx : y.i = x.i
          · have : y = x := nodup_one hk.ni hy hx hyx
            subst this
            have hg' : w.heap.size = g := by simpa using hg
            subst hg'
            exact ⟨Blk.new w _ _, hb.size⟩
          · simp only [if_neg hyx] at hg
            obtain ⟨h1, h2⟩ := hB y hy g hg
            exact ⟨h1.alloc _, h2⟩
        · intro y hy z hz hyz g hg
          by_cases hyx : y.i = x.i
          · simp only [if_pos hyx, Option.some.injEq] at hg
            have hzx : ¬ z.i = x.i := fun e => hyz (hyx.trans e.symm)
            simp only [if_neg hzx]
            intro e
            have := (hB z hz g e).1.lt
            omega
          · simp only [if_neg hyx] at hg
            by_cases hzx : z.i = x.i
            · simp only [if_pos hzx]
              intro e
              injection e with e
              have := (hB y hy g hg).1.lt
              omega
            · simp only [if_neg hzx]
              exact hD y hy z hz hyz g hg
        · intro y hy
          by_cases hyx : y.i = x.i
          · simp only [if_pos hyx]
            rw [hyx, hxi, hset]
            simp
          · simp only [if_neg hyx]
            rw [getD_set_ne true (fun e => hyx (by rw [hxi]; exact e.symm))]
            exact hp y hy
        · intro W' hW'
          have hq := (hfam W' hW').2 i hi
          unfold qOp at hq
          rw [hvirt] at hq
          have hfl : fltO o = nopT o := by unfold fltO; rw [hop]
          rw [hfl] at hq
          simp only at hq
          rw [if_pos (by simp [Region.wanted, nopT])] at hq
          obtain ⟨v, _, hK⟩ := hq
          exact hK
      · rename_i hop
        have hno : ∀ x ∈ als, x.d ∉ o.looksAt (H ++ T).toArray ∧ o.dst ≠ some x.d := fun x hx => by
          have := List.all_eq_true.1 hb' x hx
          simp only [Bool.and_eq_true, Bool.not_eq_true', bne_iff_ne] at this
          refine ⟨fun hm => ?_, this.2⟩
          have h2 : (o.looksAt (H ++ T).toArray).contains x.d = true := by rw [List.contains_iff_mem]; exact hm
          rw [h2] at this
          cases this.1
        have hfl : fltO o = o := by unfold fltO; split <;> first | (rename_i ty h2; exact absurd h2 (hop ty)) | rfl
        have hsl : ∀ cs b, o.op ≠ .select cs b := by
          have := Region.noSelect_spec hk.sel i (fltO o)
          rw [hfl] at this
          exact fun cs b => this cs b (by rw [hvirt, hfl])
        obtain ⟨v, hy, hK⟩ := yieldsIn_of_qOp (by rw [hvirt, hfl]) ((hfam w hb).2 i hi)
        have hfam' : ∀ W', RowKit.Below W.heap.size W W' → wpAnyQ P .any (virtL H T).toArray (CW W') (fun a' => a' = afin) fuel (listed.setIfInBounds i true) (a.put o.dst v) := fun W' hW' => by
          obtain ⟨v', _, hK'⟩ := yieldsIn_of_qOp (by rw [hvirt, hfl]) ((hfam W' hW').2 i hi)
          have : a.put o.dst v' = a.put o.dst v := put_one fun e he => by
            have hone : ∀ (j : Nat) q, (virtL H T).toArray[j]? = some q → (listed.setIfInBounds i true).getD j true = false → q.dst ≠ some e := fun j q hq hl hqe => by
              have hji : j = i := ndT_at _ hk.one j i e (by rw [List.getElem?_map]; rw [List.getElem?_toArray] at hq; rw [hq]; simp [hqe]) (by rw [List.getElem?_map]; rw [List.getElem?_toArray] at hvirt; rw [hvirt, hfl]; simp [he])
              subst hji
              rw [hset] at hl
              cases hl
            rw [pin_slot fuel _ _ hK' hone, pin_slot fuel _ _ hK hone]
          rw [← this]
          exact hK'
        have hp' : ∀ x ∈ als, (listed.setIfInBounds i true).getD x.i true = false ↔ p x.i = none := fun x hx => by
          have hxi : x.i ≠ i := fun e => by
            obtain ⟨q, hq1, hq2⟩ := hk.op x hx
            rw [e, ho] at hq1
            injection hq1 with hq1
            subst hq1
            exact hop _ hq2
          rw [getD_set_ne true (fun e => hxi e.symm)]
          exact hp x hx
        have hgo : ∀ w'', RowKit.Below w.heap.size w w'' → wpAny P .any (H ++ T).toArray Q fuel (listed.setIfInBounds i true) ((putsF p als a).put o.dst v) w'' := fun w'' hw'' => by
          rw [← putsF_put p als a fun x hx => (hno x hx).2]
          exact ih _ _ p w'' hs' hf' hu' (hb.trans (hw''.mono hb.size)) (fun x hx g hg => by
            obtain ⟨h1, h2⟩ := hB x hx g hg
            exact ⟨h1.same (hw''.block _ h1.lt), h2⟩) hD hp' hcl' hfam'
        unfold wpOp
        rw [hreal]
        simp only
        rw [putsF_wanted p o als a fun x hx => (hno x hx).1, wanted_virt hk.tdst hk.all o (fun x hx => (hno x hx).1)]
        rcases hy with ⟨hw1, hw2⟩ | ⟨hw1, rfl⟩
        · rw [if_pos hw1]
          refine .inl ?_
          have h3 := hw2 w (cw_self w)
          unfold Oper.quietAt at h3
          unfold Oper.wp
          rw [putsF_eval (ops := (H ++ T).toArray) p o hsl als a fun x hx => (hno x hx).1]
          generalize (execOp a.eval o).run P w = r at h3 ⊢
          cases r with
          | ok n w' =>
            cases n <;> simp only [Oper.quietUpon] at h3 <;> simp only [Oper.upon]
            case value u =>
              obtain ⟨e1, e2⟩ := h3
              rw [e1, e2]
              exact hgo w (RowKit.Below.refl _ _)
            case skip =>
              obtain ⟨e1, e2⟩ := h3
              rw [e1, ← e2]
              exact hgo w (RowKit.Below.refl _ _)
            case enter f args =>
              obtain ⟨e1, hc⟩ := h3
              rw [e1]
              refine hc.mono fun e w'' ⟨he, q, hq⟩ => ?_
              subst he hq
              exact hgo _ (below_regrown w q.d q.os)
          | halt x w' => simp only [Oper.quietUpon] at h3
        · rw [if_neg (by rw [hw1]; simp)]
          exact hgo w (RowKit.Below.refl _ _)
def fltB (als : List Al) (H T : List Oper) : Bool :=
  (T.all fun o => o.dst == none) && allB als (H ++ T).toArray 0 H && decide (als.map (·.i)).Nodup && decide (als.map (·.d)).Nodup && (als.all fun x => decide (x.i < H.length)) &&
  (als.all fun x => match H[x.i]? with | some o => (match o.op with | .alloc ty => ty == x.ty | _ => false) | none => false) && ndT ((virtL H T).map (·.dst)) && Region.noSelect (virtL H T).toArray && goodT 0 ((virtL H T).map (rowT (virtL H T).toArray)) &&
  (T.all fun o => (List.range H.length).all fun k => reachT 4 (virtL H T) k o) && Region.seqB .any (H ++ T).toArray T.length H.length (Array.replicate H.length true ++ Array.replicate T.length false)
theorem flt_ok (h : fltB als H T = true) : FltOk als H T := by
  unfold fltB at h
  simp only [Bool.and_eq_true, decide_eq_true_eq] at h
  obtain ⟨⟨⟨⟨⟨⟨⟨⟨⟨⟨h1, h2⟩, h3⟩, h4⟩, h5⟩, h6⟩, h7⟩, h8⟩, h9⟩, h10⟩, h11⟩ := h
  refine ⟨fun o ho => by have := List.all_eq_true.1 h1 o ho; simpa using this, h2, h3, h4, fun x hx => by have := List.all_eq_true.1 h5 x hx; simpa using this, fun x hx => ?_, h7, h8, fun j o ho e he hb => ?_, fun o ho k hk => List.all_eq_true.1 (List.all_eq_true.1 h10 o ho) k (List.mem_range.2 hk), h11⟩
  · have := List.all_eq_true.1 h6 x hx
    cases ho : H[x.i]? with
    | none => rw [ho] at this; cases this
    | some o =>
      rw [ho] at this
      simp only at this
      refine ⟨o, rfl, ?_⟩
      split at this
      · rename_i ty hop
        rw [hop]
        congr 1
        simpa using this
      · cases this
  · have := good_early (virtL H T) 0 h9 j o (by simpa using ho) e he hb
    omega
theorem unl_fresh {m : Nat} : ∀ n, n ≤ m → unl (Array.replicate m false) n = n
  | 0, _ => rfl
  | n + 1, h => by
    unfold unl
    have h1 : (Array.replicate m false).getD n true = false := by
      rw [Array.getD_eq_getD_getElem?, Array.getElem?_replicate, if_pos (by omega)]; rfl
    rw [unl_fresh n (by omega), h1]
    simp
theorem putsF_none : ∀ (als : List Al) (a : Act), putsF (fun _ => none) als a = a
  | [], a => rfl
  | x :: r, a => by unfold putsF; exact putsF_none r a
theorem wp_region_float {id : Nat} {Q : Exit → Act → World → Prop} {a afin : Act} {w : World} {l : List Oper} (n : Nat) (als : List Al) (hm : P.follows .mixedOrders = true) (hok : fltB als (l.take n) (l.drop n) = true) (hrun : FltRun P als)
    (hwalk : ∀ W', RowKit.Below w.heap.size w W' → wpQuiet P (virtL (l.take n) (l.drop n)).toArray (fun w' => ∃ q : Regrown, w' = grow (redrawn W' q.d) q.os) (fun a' => a' = afin) (virtL (l.take n) (l.drop n)) a)
    (htail : ∀ (p : Nat → Nat) w', RowKit.Below w.heap.size w w' → (∀ x ∈ als, Blk w' (p x.i) x.ty x.cs ∧ w.heap.size ≤ p x.i) → (∀ x ∈ als, ∀ y ∈ als, x.i ≠ y.i → p x.i ≠ p y.i) → wpList P l.toArray Q (l.drop n) (putsF (fun i => some (p i)) als afin) w') : (Code.region id l.toArray true).wp P Q a w := by
  have hsplit : l = l.take n ++ l.drop n := (List.take_append_drop n l).symm
  obtain ⟨H, hH⟩ : ∃ H, l.take n = H := ⟨_, rfl⟩
  obtain ⟨T, hT⟩ : ∃ T, l.drop n = T := ⟨_, rfl⟩
  rw [hH, hT] at hok hwalk hsplit
  rw [hT] at htail
  rw [hsplit] at htail ⊢
  clear hH hT hsplit
  have hk := flt_ok hok
  have hg : goodT 0 ((virtL H T).map (rowT (virtL H T).toArray)) = true := by
    unfold fltB at hok
    simp only [Bool.and_eq_true, decide_eq_true_eq] at hok
    exact hok.1.1.2
  have hlex := lexB_of_good hk.sel hg
  unfold Region.lexB at hlex
  rw [Bool.and_eq_true] at hlex
  refine wp_region_any hm ?_
  have hsz : (H ++ T).toArray.size = H.length + T.length := by simp
  have hsz2 : (virtL H T).toArray.size = H.length + T.length := by simp [virt_len]
  have key := wpAny_float (P := P) (W := w) (afin := afin) (Q := Q) hk hrun htail (H.length + T.length) (Array.replicate (H.length + T.length) false) a (fun _ => none) { w with drawn := w.drawn + 1 } (by simp) (by rw [unl_fresh _ (by omega)]) (fun j h1 h2 => by
      rw [Array.getD_eq_getD_getElem?, Array.getElem?_replicate, if_pos h2]; rfl) ⟨rfl, rfl, rfl, Nat.le_refl _, fun k _ => rfl⟩ (fun x _ g hg => by cases hg) (fun x _ y _ _ g hg => by cases hg) (fun x hx => by
      have := hk.lt x hx
      rw [Array.getD_eq_getD_getElem?, Array.getElem?_replicate, if_pos (by omega)]
      simp) (fun j o _ hl => by
      rw [Array.getD_eq_getD_getElem?, Array.getElem?_replicate] at hl
      split at hl <;> simp at hl) (fun W' hW' => by
      have H1 := wpAnyQ_lex (P := P) (C := CW W') (md := .any) hk.sel (virtL H T) 0 (Array.replicate (virtL H T).toArray.size false) a (by simp) (by simpa using hlex.2) (hwalk W' hW')
      rw [hsz2, virt_len] at H1
      exact H1)
  rw [putsF_none] at key
  rw [hsz]
  exact key
theorem wp_region_floatE {id : Nat} {Q : Exit → Act → World → Prop} {a : Act} {w : World} {l : List Oper} (n : Nat) (als : List Al) (hm : P.follows .mixedOrders = true) (hok : fltB als (l.take n) (l.drop n) = true) (hrun : FltRun P als)
    (h : ∃ afin : Act, (∀ W', RowKit.Below w.heap.size w W' → wpQuiet P (virtL (l.take n) (l.drop n)).toArray (fun w' => ∃ q : Regrown, w' = grow (redrawn W' q.d) q.os) (fun a' => a' = afin) (virtL (l.take n) (l.drop n)) a) ∧
      (∀ (p : Nat → Nat) w', RowKit.Below w.heap.size w w' → (∀ x ∈ als, Blk w' (p x.i) x.ty x.cs ∧ w.heap.size ≤ p x.i) → (∀ x ∈ als, ∀ y ∈ als, x.i ≠ y.i → p x.i ≠ p y.i) → wpList P l.toArray Q (l.drop n) (putsF (fun i => some (p i)) als afin) w')) : (Code.region id l.toArray true).wp P Q a w := by
  obtain ⟨afin, h1, h2⟩ := h
  exact wp_region_float n als hm hok hrun h1 h2
end
end Go.Proofs.YtldccpmnboebmaaDoor
