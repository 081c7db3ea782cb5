/-
  A law for a region that draws its order, told by what each operation leaves behind (a ledger): each operation's result bears a fact and the blocks that the fact speaks of; an operation may use up the results of those that it waits for. No program is named here.
-/
import Derived.Test.YtlipmagkplbkdaaDoorBase
namespace Go.Proofs.YtlipmagkplbkdaaDoor
open Go.RowKit
set_option linter.unusedVariables false

def dstQ : List Oper → Bool
  | [] => true
  | o :: r => (match o.dst with | some d => r.all (fun p => p.dst != some d) | none => true) && dstQ r
theorem dstQ_at : ∀ {l : List Oper}, dstQ l = true → ∀ {i j : Nat} {o p : Oper} {d : Tmp}, l[i]? = some o → l[j]? = some p → o.dst = some d → p.dst = some d → i = j
  | [], _, i, j, o, p, d, h, _, _, _ => by simp at h
  | q :: r, hq, i, j, o, p, d, h1, h2, h3, h4 => by
    unfold dstQ at hq
    rw [Bool.and_eq_true] at hq
    have key : ∀ {k : Nat} {x : Oper}, r[k]? = some x → q.dst = some d → x.dst = some d → False := fun {k x} hx e1 e2 => by
      have h5 := hq.1
      rw [e1] at h5
      have := List.all_eq_true.1 h5 x (List.mem_of_getElem? hx)
      rw [e2] at this
      simp at this
    match i, j with
    | 0, 0 => rfl
    | 0, j + 1 => simp at h1; subst h1; exact (key (by simpa using h2) h3 h4).elim
    | i + 1, 0 => simp at h2; subst h2; exact (key (by simpa using h1) h4 h3).elim
    | i + 1, j + 1 => exact congrArg (· + 1) (dstQ_at hq.2 (by simpa using h1) (by simpa using h2) h3 h4)
def edgeQ (l : List Oper) (i j : Nat) : Bool := match l[i]? with | some o => o.after.any fun e => Region.binds .any e && e.on == j | none => false
/-- c: for each operation the one that uses its result up; D: those that it leans on -/
def ledQ (l : List Oper) (c : List (Option Nat)) (D : List (List Nat)) (sz : Nat) : Bool :=
  dstQ l && c.length == l.length && (List.range l.length).all fun i => match l[i]? with
    | some o => o.guard.isNone && (o.after.all fun e => !Region.binds .any e || decide (e.on < i)) && (match o.dst with | some d => decide (d < sz) | none => true) && (match c.getD i none with | some k => (D.getD k []).contains i | none => true) && ((D.getD i []).all fun k => edgeQ l i k)
    | none => true
def slotL (l : List Oper) (tm : Array Value) (j : Nat) : Value := match (l[j]?).bind (·.dst) with | some d => tm.getD d undef | none => undef
def liveL (c : List (Option Nat)) (listed : Array Bool) (j : Nat) : Prop := listed.getD j false = true ∧ ∀ k, c.getD j none = some k → listed.getD k false = false
def putsV (v : Nat → Value) : Nat → List Oper → Array Value → Array Value
  | _, [], T => T
  | k, o :: r, T => putsV v (k + 1) r (match o.dst with | some d => T.setIfInBounds d (v k) | none => T)
theorem putsV_eq (v : Nat → Value) (U : Array Value) : ∀ (r : List Oper) (k : Nat) (T : Array Value), T.size = U.size → (∀ s, (∀ o ∈ r, o.dst ≠ some s) → T[s]? = U[s]?) → (∀ i o d, r[i]? = some o → o.dst = some d → v (k + i) = U.getD d undef) → putsV v k r T = U
  | [], k, T, hs, ht, _ => by
    unfold putsV
    refine Array.ext_getElem? fun s => ht s fun o ho => by simp at ho
  | o :: r, k, T, hs, ht, hv => by
    unfold putsV
    refine putsV_eq v U r (k + 1) _ ?_ ?_ ?_
    · cases o.dst <;> simp [hs]
    · intro s h
      cases hd : o.dst with
      | none =>
        simp only
        refine ht s fun p hp => ?_
        rcases List.mem_cons.1 hp with e | e
        · subst e; rw [hd]; simp
        · exact h p e
      | some d =>
        simp only
        rw [Array.getElem?_setIfInBounds]
        by_cases hds : d = s
        · subst hds
          rw [if_pos rfl]
          have hvk := hv 0 o d rfl hd
          rw [Nat.add_zero] at hvk
          split
          · rename_i hlt
            rw [hvk, Array.getD_eq_getD_getElem?, Array.getElem?_eq_getElem (by omega)]; rfl
          · rename_i hlt
            exact (Array.getElem?_eq_none (by omega)).symm
        · rw [if_neg hds]
          refine ht s fun p hp => ?_
          rcases List.mem_cons.1 hp with e | e
          · subst e; rw [hd]; simpa using hds
          · exact h p e
    · intro i p d hp hd
      rw [show k + 1 + i = k + (i + 1) from by omega]
      exact hv (i + 1) p d (by simpa using hp) hd
theorem count_set : ∀ {bs : List Bool} {i : Nat}, bs[i]? = some false → (bs.set i true).count false + 1 = bs.count false
  | [], i, h => by simp at h
  | b :: bs, 0, h => by simp at h; subst h; simp
  | b :: bs, i + 1, h => by
    have := count_set (bs := bs) (i := i) (by simpa using h)
    simp only [List.set_cons_succ, List.count_cons]
    omega
section
variable {P : Program} {l : List Oper} {c : List (Option Nat)} {D : List (List Nat)} {tm : Array Value} {df : List Deferred} {w0 : World} {Q : Exit → Act → World → Prop}
/-- what a step leaves: its result, the fact, the blocks that it speaks of; what it wrote -/
structure LeftL (Φ : Nat → (Nat → Prop) → (Nat → Value) → World → Prop) (l : List Oper) (w0 : World) (c : List (Option Nat)) (D : List (List Nat)) (i : Nat) (o : Oper) (a : Act) (w : World) (X : Nat → Nat → Prop) (a' : Act) (w' : World) (v : Value) (Y : Nat → Prop) : Prop where
  act : a' = a.put o.dst v
  fact : ∀ s : Nat → Value, s i = v → (∀ k, k ∈ D.getD i [] → s k = slotL l a.tmps k) → Φ i Y s w'
  nov : o.dst = none → v = undef
  bel : RowKit.Below w0.heap.size w0 w'
  size : w.heap.size ≤ w'.heap.size
  own : ∀ b, Y b → (∃ j, c.getD j none = some i ∧ X j b) ∨ (w.heap.size ≤ b ∧ b < w'.heap.size)
  same : ∀ b, b < w.heap.size → (∀ j, c.getD j none = some i → ¬ X j b) → w'.heap[b]? = w.heap[b]?
structure AtL (Φ : Nat → (Nat → Prop) → (Nat → Value) → World → Prop) (l : List Oper) (c : List (Option Nat)) (D : List (List Nat)) (tm : Array Value) (df : List Deferred) (w0 : World) (i : Nat) (a : Act) (w : World) (X : Nat → Nat → Prop) : Prop where
  bel : RowKit.Below w0.heap.size w0 w
  df : a.defers = df
  sz : a.tmps.size = tm.size
  out : ∀ s, (∀ o ∈ l, o.dst ≠ some s) → a.tmps[s]? = tm[s]?
  get : ∀ j, j ∈ D.getD i [] → c.getD j none = none ∨ c.getD j none = some i → Φ j (X j) (slotL l a.tmps) w
  own : ∀ j b, j ∈ D.getD i [] → c.getD j none = none ∨ c.getD j none = some i → X j b → w0.heap.size ≤ b ∧ b < w.heap.size
  apart : ∀ j k b, j ∈ D.getD i [] → c.getD j none = none ∨ c.getD j none = some i → k ∈ D.getD i [] → c.getD k none = none ∨ c.getD k none = some i → j ≠ k → X j b → ¬ X k b
structure InvL (Φ : Nat → (Nat → Prop) → (Nat → Value) → World → Prop) (l : List Oper) (c : List (Option Nat)) (tm : Array Value) (df : List Deferred) (w0 : World) (listed : Array Bool) (a : Act) (w : World) (X : Nat → Nat → Prop) : Prop where
  ls : listed.size = l.length
  past : ∀ j k, j < l.length → listed.getD j false = true → edgeQ l j k = true → listed.getD k false = true
  bel : RowKit.Below w0.heap.size w0 w
  df : a.defers = df
  sz : a.tmps.size = tm.size
  out : ∀ s, (∀ j o, l[j]? = some o → listed.getD j false = true → o.dst ≠ some s) → a.tmps[s]? = tm[s]?
  get : ∀ j, liveL c listed j → Φ j (X j) (slotL l a.tmps) w
  own : ∀ j b, liveL c listed j → X j b → w0.heap.size ≤ b ∧ b < w.heap.size
  apart : ∀ j k b, liveL c listed j → liveL c listed k → j ≠ k → X j b → ¬ X k b
theorem any_led (Φ : Nat → (Nat → Prop) → (Nat → Value) → World → Prop) (hchk : ledQ l c D tm.size = true)
    (hstab : ∀ (i : Nat) (X : Nat → Prop) (s s' : Nat → Value) (w w' : World), Φ i X s w → s' i = s i → (∀ k, k ∈ D.getD i [] → s' k = s k) → RowKit.Below w0.heap.size w0 w → RowKit.Below w0.heap.size w0 w' → w.heap.size ≤ w'.heap.size → (∀ b, X b → b < w.heap.size) → (∀ b, X b → w'.heap[b]? = w.heap[b]?) → Φ i X s' w')
    (hstep : ∀ (i : Nat) (o : Oper), l[i]? = some o → ∀ (a : Act) (w : World) (X : Nat → Nat → Prop), AtL Φ l c D tm df w0 i a w X → Oper.wp P o a w (fun a' w' => ∃ v Y, LeftL Φ l w0 c D i o a w X a' w' v Y) Q)
    (hfin : ∀ (v : Nat → Value) (X : Nat → Nat → Prop) (w : World), RowKit.Below w0.heap.size w0 w → (∀ j, j < l.length → c.getD j none = none → Φ j (X j) v w ∧ ∀ b, X j b → w0.heap.size ≤ b ∧ b < w.heap.size) → (∀ j k b, j < l.length → k < l.length → c.getD j none = none → c.getD k none = none → j ≠ k → X j b → ¬ X k b) → Q .normal { tmps := putsV v 0 l tm, defers := df } w) :
    ∀ (fuel : Nat) (listed : Array Bool) (a : Act) (w : World), (∃ X, InvL Φ l c tm df w0 listed a w X) → fuel = listed.toList.count false → wpAny P .any l.toArray Q fuel listed a w := by
  unfold ledQ at hchk
  simp only [Bool.and_eq_true, beq_iff_eq] at hchk
  obtain ⟨⟨hd, hcl⟩, hall⟩ := hchk
  have hat : ∀ {i o}, l[i]? = some o → o.guard = none ∧ (∀ e ∈ o.after, Region.binds .any e = true → e.on < i) ∧ (∀ d, o.dst = some d → d < tm.size) ∧ (∀ k, c.getD i none = some k → i ∈ D.getD k []) ∧ (∀ k, k ∈ D.getD i [] → edgeQ l i k = true) := fun {i o} ho => by
    have hi := (List.getElem?_eq_some_iff.1 ho).1
    have h1 := List.all_eq_true.1 hall i (List.mem_range.2 hi)
    rw [ho] at h1
    simp only [Bool.and_eq_true] at h1
    obtain ⟨⟨⟨⟨g1, g2⟩, g3⟩, g4⟩, g5⟩ := h1
    refine ⟨by simpa using g1, fun e he hb => ?_, fun d hdd => ?_, fun k hk => ?_, fun k hk => List.all_eq_true.1 g5 k hk⟩
    · have := Array.all_eq_true_iff_forall_mem.1 g2 e he
      rw [hb] at this
      simpa using this
    · rw [hdd] at g3; simpa using g3
    · rw [hk] at g4; simpa using g4
  have hend : ∀ {listed a w X}, InvL Φ l c tm df w0 listed a w X → (∀ j, j < l.length → listed.getD j false = true) → Q .normal a w := fun {listed a w X} hI hA => by
    have hlive : ∀ j, j < l.length → c.getD j none = none → liveL c listed j := fun j hj hc => ⟨hA j hj, fun k hk => by rw [hc] at hk; cases hk⟩
    have h1 := hfin (slotL l a.tmps) X w hI.bel fun j hj hc => ⟨hI.get j (hlive j hj hc), fun b hb => hI.own j b (hlive j hj hc) hb⟩
    have h1 := h1 fun j k b hj hk cj ck => hI.apart j k b (hlive j hj cj) (hlive k hk ck)
    have h2 : putsV (slotL l a.tmps) 0 l tm = a.tmps := by
      refine putsV_eq _ a.tmps l 0 tm hI.sz.symm (fun s hs => ?_) fun i o d ho hdd => ?_
      · exact (hI.out s fun j o hj _ => hs o (List.mem_of_getElem? hj)).symm
      · rw [Nat.zero_add]; unfold slotL; rw [ho]; simp [hdd]
    rw [h2, ← hI.df] at h1
    exact h1
  have hready : ∀ {listed : Array Bool}, listed.size = l.length → Region.ready .any l.toArray listed = [] → ∀ j, j < l.length → listed.getD j false = true := fun {listed} hs hr => by
    intro j
    induction j using Nat.strongRecOn with
    | ind j ih =>
      intro hj
      by_cases hb : listed.getD j false = true
      · exact hb
      · exfalso
        have ho : l[j]? = some l[j] := List.getElem?_eq_getElem hj
        have : j ∈ Region.ready .any l.toArray listed := mem_ready.2 ⟨by
          rw [Array.getD_eq_getD_getElem?, Array.getElem?_eq_getElem (by omega)] at hb ⊢
          simpa using hb, l[j], by rw [List.getElem?_toArray]; exact ho, fun e he hbd => ih e.on ((hat ho).2.1 e he hbd) (by have := (hat ho).2.1 e he hbd; omega)⟩
        rw [hr] at this
        cases this
  intro fuel
  induction fuel with
  | zero =>
    rintro listed a w ⟨X, hI⟩ hc
    have hA : ∀ j, j < l.length → listed.getD j false = true := fun j hj => by
      have h3 := List.count_eq_zero.1 hc.symm
      have hj2 : j < listed.size := by rw [hI.ls]; exact hj
      rw [Array.getD_eq_getD_getElem?, Array.getElem?_eq_getElem hj2]
      cases hb : listed[j] with
      | true => rfl
      | false => exact (h3 (by rw [← hb]; simp)).elim
    refine ⟨List.eq_nil_iff_forall_not_mem.2 fun i hi => ?_, hend hI hA⟩
    obtain ⟨h1, o, ho, _⟩ := mem_ready.1 hi
    rw [List.getElem?_toArray] at ho
    have hil := (List.getElem?_eq_some_iff.1 ho).1
    have h2 := hA i hil
    have hi2 : i < listed.size := by rw [hI.ls]; exact hil
    rw [Array.getD_eq_getD_getElem?, Array.getElem?_eq_getElem hi2] at h1 h2
    simp only [Option.getD_some] at h1 h2
    rw [h1] at h2; cases h2
  | succ fuel ih =>
    rintro listed a w ⟨X, hI⟩ hc
    refine ⟨fun hr => hend hI (hready hI.ls hr), fun i hi => ?_⟩
    obtain ⟨h1, o, ho, hedge⟩ := mem_ready.1 hi
    have hol : l[i]? = some o := by rw [List.getElem?_toArray] at ho; exact ho
    have hil := (List.getElem?_eq_some_iff.1 hol).1
    have hi2 : i < listed.size := by rw [hI.ls]; exact hil
    have hif : listed.getD i false = false := by
      rw [Array.getD_eq_getD_getElem?, Array.getElem?_eq_getElem hi2] at h1 ⊢
      exact h1
    have hlst : ∀ j, edgeQ l i j = true → listed.getD j false = true := fun j hj => by
      unfold edgeQ at hj
      rw [hol] at hj
      simp only [Array.any_eq_true', Bool.and_eq_true, beq_iff_eq] at hj
      obtain ⟨e, he, hb, rfl⟩ := hj
      exact hedge e he hb
    have hlv : ∀ j, j ∈ D.getD i [] → c.getD j none = none ∨ c.getD j none = some i → liveL c listed j := fun j hj hcj => ⟨hlst j ((hat hol).2.2.2.2 j hj), fun k hk => by
      rcases hcj with e | e
      · rw [e] at hk; cases hk
      · rw [e] at hk; injection hk with hk; rw [← hk]; exact hif⟩
    have hcj : ∀ j, c.getD j none = some i → j ∈ D.getD i [] ∧ liveL c listed j := fun j hj => by
      have hjl : j < l.length := by
        by_cases hjl : j < l.length
        · exact hjl
        · rw [List.getD_eq_getElem?_getD, List.getElem?_eq_none (by omega)] at hj; cases hj
      have he := (hat (List.getElem?_eq_getElem hjl)).2.2.2.1 i hj
      exact ⟨he, hlv j he (.inr hj)⟩
    unfold wpOp
    rw [ho]
    simp only
    rw [if_pos (by simp [Region.wanted, (hat hol).1])]
    refine .inl (Oper.wp_mono ?_ (hstep i o hol a w X ⟨hI.bel, hI.df, hI.sz, fun s hs => hI.out s fun j p hp _ => hs p (List.mem_of_getElem? hp), fun j hj hcj => hI.get j (hlv j hj hcj), fun j b hj hcj => hI.own j b (hlv j hj hcj), fun j k b h1 h2 h3 h4 => hI.apart j k b (hlv j h1 h2) (hlv k h3 h4)⟩))
    rintro a' w' ⟨v, Y, hL⟩
    have hpast := hI.past
    have hset : ∀ j, (listed.setIfInBounds i true).getD j false = if j = i then true else listed.getD j false := fun j => by
      rw [Array.getD_eq_getD_getElem?, Array.getElem?_setIfInBounds]
      by_cases hji : j = i
      · subst hji; rw [if_pos rfl, if_pos rfl, if_pos hi2]; rfl
      · rw [if_neg (fun e => hji e.symm), if_neg hji, ← Array.getD_eq_getD_getElem?]
    -- the live ones behind the step: the new one, or live ahead and not used up
    have hnl : ∀ j, liveL c (listed.setIfInBounds i true) j → j = i ∨ (j ≠ i ∧ liveL c listed j ∧ c.getD j none ≠ some i) := fun j hj => by
      by_cases hji : j = i
      · exact .inl hji
      · refine .inr ⟨hji, ⟨?_, fun k hk => ?_⟩, fun e => ?_⟩
        · have := hj.1; rw [hset, if_neg hji] at this; exact this
        · have := hj.2 k hk
          rw [hset] at this
          by_cases hki : k = i
          · rw [if_pos hki] at this; cases this
          · rw [if_neg hki] at this; exact this
        · have := hj.2 i e
          rw [hset, if_pos rfl] at this; cases this
    have hslot : ∀ j, j ≠ i → slotL l a'.tmps j = slotL l a.tmps j := fun j hji => by
      unfold slotL
      cases hj : (l[j]?).bind (·.dst) with
      | none => rfl
      | some d =>
        obtain ⟨p, hp, hpd⟩ := Option.bind_eq_some_iff.1 hj
        simp only
        rw [hL.act]
        cases hod : o.dst with
        | none => rfl
        | some d' =>
          have hne : d' ≠ d := fun e => hji (dstQ_at hd hp hol hpd (by rw [hod, e]))
          show (a.tmps.setIfInBounds d' v).getD d undef = _
          rw [Array.getD_eq_getD_getElem?, Array.getElem?_setIfInBounds_ne hne, ← Array.getD_eq_getD_getElem?]
    have hput : a'.tmps.size = a.tmps.size := by rw [hL.act]; cases o.dst <;> simp [Act.put]
    have hown_new : ∀ b, Y b → w0.heap.size ≤ b ∧ b < w'.heap.size := fun b hb => by
      rcases hL.own b hb with ⟨j, hj, hx⟩ | ⟨h3, h4⟩
      · have := hI.own j b (hcj j hj).2 hx
        have := hL.size
        omega
      · have := hI.bel.size
        omega
    have hapart_new : ∀ k b, liveL c listed k → c.getD k none ≠ some i → Y b → ¬ X k b := fun k b hk hck hb hx => by
      rcases hL.own b hb with ⟨j, hj, hxj⟩ | ⟨h3, h4⟩
      · exact hI.apart j k b (hcj j hj).2 hk (fun e => hck (by rw [← e]; exact hj)) hxj hx
      · have := (hI.own k b hk hx).2
        omega
    have hkeep : ∀ k b, liveL c listed k → c.getD k none ≠ some i → X k b → w'.heap[b]? = w.heap[b]? := fun k b hk hck hx =>
      hL.same b (hI.own k b hk hx).2 fun j hj hxj => hI.apart j k b (hcj j hj).2 hk (fun e => hck (by rw [← e]; exact hj)) hxj hx
    refine ih _ a' w' ⟨fun j => if j = i then Y else X j, ⟨by simpa using hI.ls, fun j k hj hlj he => ?_, hL.bel, ?_, by rw [hput]; exact hI.sz, ?_, ?_, ?_, ?_⟩⟩ ?_
    · rw [hset] at hlj ⊢
      split
      · rfl
      · by_cases hji : j = i
        · subst hji; exact hlst k he
        · rw [if_neg hji] at hlj
          exact hI.past j k hj hlj he
    · rw [hL.act]; cases o.dst <;> exact hI.df
    · intro s hs
      have h5 : a'.tmps[s]? = a.tmps[s]? := by
        have h6 := hs i o hol (by rw [hset, if_pos rfl])
        rw [hL.act]
        cases hod : o.dst with
        | none => rfl
        | some d =>
          show (a.tmps.setIfInBounds d v)[s]? = _
          rw [Array.getElem?_setIfInBounds_ne (fun e => h6 (by rw [hod, e]))]
      rw [h5]
      refine hI.out s fun j p hp hlj => hs j p hp ?_
      rw [hset]
      split
      · rfl
      · exact hlj
    · intro j hj
      have hdl : ∀ k j, k ∈ D.getD j [] → liveL c (listed.setIfInBounds i true) j → j ≠ i → k ≠ i := fun k j hk hj hji e => by
        rcases hnl j hj with e2 | ⟨_, hl2, _⟩
        · exact hji e2
        · subst e
          have hjl : j < l.length := by
            by_cases hjl : j < l.length
            · exact hjl
            · have h3 := hl2.1
              rw [Array.getD_eq_getD_getElem?, Array.getElem?_eq_none (by rw [hI.ls]; omega)] at h3; cases h3
          -- j waits for k, so k is listed
          have h4 := hpast j k hjl hl2.1 ((hat (List.getElem?_eq_getElem hjl)).2.2.2.2 k hk)
          rw [h4] at hif; cases hif
      rcases hnl j hj with rfl | ⟨hji, hl2, hcn⟩
      · simp only [if_true]
        have hv : slotL l a'.tmps j = v := by
          unfold slotL
          rw [hol]
          simp only [Option.bind_some]
          cases hod : o.dst with
          | some d =>
            simp only
            rw [hL.act, hod]
            show (a.tmps.setIfInBounds d v).getD d undef = v
            rw [Array.getD_eq_getD_getElem?, Array.getElem?_setIfInBounds_self, if_pos (by have := (hat hol).2.2.1 d hod; have := hI.sz; omega)]
            rfl
          | none => simp only; exact (hL.nov hod).symm
        exact hL.fact _ hv fun k hk => hslot k fun e => by
          have h7 := hlst k ((hat hol).2.2.2.2 k hk)
          rw [e, hif] at h7; cases h7
      · simp only [if_neg hji]
        exact hstab j _ _ _ w w' (hI.get j hl2) (hslot j hji) (fun k hk => hslot k (hdl k j hk hj hji)) hI.bel hL.bel hL.size (fun b hb => (hI.own j b hl2 hb).2) fun b hb => hkeep j b hl2 hcn hb
    · intro j b hj hb
      rcases hnl j hj with rfl | ⟨hji, hl2, hcn⟩
      · simp only [if_true] at hb; exact hown_new b hb
      · simp only [if_neg hji] at hb
        have := hI.own j b hl2 hb
        have := hL.size
        omega
    · intro j k b hj hk hjk hb hb2
      rcases hnl j hj with e1 | ⟨hji, hl2, hcn⟩
      · rcases hnl k hk with e2 | ⟨hki, hl3, hcn3⟩
        · exact hjk (by rw [e1, e2])
        · simp only [if_pos e1] at hb
          simp only [if_neg hki] at hb2
          exact hapart_new k b hl3 hcn3 hb hb2
      · rcases hnl k hk with e2 | ⟨hki, hl3, hcn3⟩
        · simp only [if_neg hji] at hb
          simp only [if_pos e2] at hb2
          exact hapart_new j b hl2 hcn hb2 hb
        · simp only [if_neg hji] at hb
          simp only [if_neg hki] at hb2
          exact hI.apart j k b hl2 hl3 hjk hb hb2
    · have hlf : listed.toList[i]? = some false := by
        rw [Array.getElem?_toList]
        rw [Array.getD_eq_getD_getElem?, Array.getElem?_eq_getElem hi2] at hif
        rw [Array.getElem?_eq_getElem hi2]
        exact congrArg some hif
      have := count_set hlf
      simp only [Array.toList_setIfInBounds]
      omega
theorem wp_region_led2 {id : Nat} (Φ : Nat → (Nat → Prop) → (Nat → Value) → World → Prop) (c : List (Option Nat)) (D : List (List Nat)) (hm : P.follows .mixedOrders = true) (hchk : ledQ l c D tm.size = true)
    (hstab : ∀ (i : Nat) (X : Nat → Prop) (s s' : Nat → Value) (w w' : World), Φ i X s w → s' i = s i → (∀ k, k ∈ D.getD i [] → s' k = s k) → RowKit.Below w0.heap.size w0 w → RowKit.Below w0.heap.size w0 w' → w.heap.size ≤ w'.heap.size → (∀ b, X b → b < w.heap.size) → (∀ b, X b → w'.heap[b]? = w.heap[b]?) → Φ i X s' w')
    (hstep : ∀ (i : Nat) (o : Oper), l[i]? = some o → ∀ (a : Act) (w : World) (X : Nat → Nat → Prop), AtL Φ l c D tm df w0 i a w X → Oper.wp P o a w (fun a' w' => ∃ v Y, LeftL Φ l w0 c D i o a w X a' w' v Y) Q)
    (hfin : ∀ (v : Nat → Value) (X : Nat → Nat → Prop) (w : World), RowKit.Below w0.heap.size w0 w → (∀ j, j < l.length → c.getD j none = none → Φ j (X j) v w ∧ ∀ b, X j b → w0.heap.size ≤ b ∧ b < w.heap.size) → (∀ j k b, j < l.length → k < l.length → c.getD j none = none → c.getD k none = none → j ≠ k → X j b → ¬ X k b) → Q .normal { tmps := putsV v 0 l tm, defers := df } w) :
    (Code.region id l.toArray true).wp P Q { tmps := tm, defers := df } w0 := by
  have hf : ∀ j, (Array.replicate l.toArray.size false).getD j false = true → False := fun j h => by
    rw [Array.getD_eq_getD_getElem?, Array.getElem?_replicate] at h
    split at h <;> cases h
  refine wp_region_any hm (any_led Φ hchk hstab hstep hfin _ _ _ _ ⟨fun _ _ => False, ⟨by simp, fun j k _ h => (hf j h).elim, ⟨rfl, rfl, rfl, Nat.le_refl _, fun _ _ => rfl⟩, rfl, rfl, fun s hs => rfl, fun j hj => (hf j hj.1).elim, fun j b hj => (hf j hj.1).elim, fun j k b hj => (hf j hj.1).elim⟩⟩ ?_)
  simp
theorem wp_region_led {id : Nat} (Φ : Nat → (Nat → Prop) → (Nat → Value) → World → Prop) (c : List (Option Nat)) (D : List (List Nat)) (hm : P.follows .mixedOrders = true) (hchk : ledQ l c D tm.size = true)
    (hstab : ∀ (i : Nat) (X : Nat → Prop) (s s' : Nat → Value) (w w' : World), Φ i X s w → s' i = s i → (∀ k, k ∈ D.getD i [] → s' k = s k) → RowKit.Below w0.heap.size w0 w → RowKit.Below w0.heap.size w0 w' → w.heap.size ≤ w'.heap.size → (∀ b, X b → b < w.heap.size) → (∀ b, X b → w'.heap[b]? = w.heap[b]?) → Φ i X s' w')
    (hstep : ∀ (i : Nat) (o : Oper), l[i]? = some o → ∀ (a : Act) (w : World) (X : Nat → Nat → Prop), AtL Φ l c D tm df w0 i a w X → Oper.wp P o a w (fun a' w' => ∃ v Y, LeftL Φ l w0 c D i o a w X a' w' v Y) Q)
    (hfin : ∀ (v : Nat → Value) (X : Nat → Nat → Prop) (w : World), RowKit.Below w0.heap.size w0 w → (∀ j, j < l.length → c.getD j none = none → Φ j (X j) v w ∧ ∀ b, X j b → w0.heap.size ≤ b ∧ b < w.heap.size) → Q .normal { tmps := putsV v 0 l tm, defers := df } w) :
    (Code.region id l.toArray true).wp P Q { tmps := tm, defers := df } w0 :=
  wp_region_led2 Φ c D hm hchk hstab hstep fun v X w h1 h2 _ => hfin v X w h1 h2
/-! ### steps -/
section
variable {Φ : Nat → (Nat → Prop) → (Nat → Value) → World → Prop} {i : Nat} {o : Oper} {a : Act} {w : World} {X : Nat → Nat → Prop}
theorem AtL.val (h : AtL Φ l c D tm df w0 i a w X) {j : Nat} {d : Tmp} (hj : (l[j]?).bind (·.dst) = some d) : a.eval (.tmp d) = slotL l a.tmps j := by
  unfold slotL
  rw [hj]
  rfl
theorem AtL.old (h : AtL Φ l c D tm df w0 i a w X) {d : Tmp} {v : Value} (hd : (l.all fun o => o.dst != some d) = true) (hv : tm[d]? = some v) : a.eval (.tmp d) = v := by
  have := h.out d fun o ho e => by
    have := List.all_eq_true.1 hd o ho
    rw [e] at this
    simp at this
  show a.tmps.getD d undef = v
  rw [Array.getD_eq_getD_getElem?, this, hv]
  rfl
theorem led_quiet (h : AtL Φ l c D tm df w0 i a w X) (v : Value) (hr : (execOp a.eval o).run P w = .ok (.value v) w) (hd : o.dst = none → v = undef) (hf : ∀ s : Nat → Value, s i = v → (∀ k, k ∈ D.getD i [] → s k = slotL l a.tmps k) → Φ i (fun _ => False) s w) :
    Oper.wp P o a w (fun a' w' => ∃ v Y, LeftL Φ l w0 c D i o a w X a' w' v Y) Q := by
  unfold Oper.wp
  rw [hr, Oper.upon_value]
  exact ⟨v, _, rfl, hf, hd, h.bel, Nat.le_refl _, fun b hb => hb.elim, fun _ _ _ => rfl⟩
/-- a step that hands a used one's blocks on -/
theorem led_pass (h : AtL Φ l c D tm df w0 i a w X) (j : Nat) (hj : c.getD j none = some i) (v : Value) (hr : (execOp a.eval o).run P w = .ok (.value v) w) (hd : o.dst = none → v = undef) (hf : ∀ s : Nat → Value, s i = v → (∀ k, k ∈ D.getD i [] → s k = slotL l a.tmps k) → Φ i (X j) s w) :
    Oper.wp P o a w (fun a' w' => ∃ v Y, LeftL Φ l w0 c D i o a w X a' w' v Y) Q := by
  unfold Oper.wp
  rw [hr, Oper.upon_value]
  exact ⟨v, _, rfl, hf, hd, h.bel, Nat.le_refl _, fun b hb => .inl ⟨j, hj, hb⟩, fun _ _ _ => rfl⟩
theorem led_new (h : AtL Φ l c D tm df w0 i a w X) (v : Value) (ob : Obj) (hr : (execOp a.eval o).run P w = .ok (.value v) (w.alloc ob)) (hd : o.dst = none → v = undef) (hf : ∀ s : Nat → Value, s i = v → (∀ k, k ∈ D.getD i [] → s k = slotL l a.tmps k) → Φ i (fun b => b = w.heap.size) s (w.alloc ob)) :
    Oper.wp P o a w (fun a' w' => ∃ v Y, LeftL Φ l w0 c D i o a w X a' w' v Y) Q := by
  unfold Oper.wp
  rw [hr, Oper.upon_value]
  exact ⟨v, _, rfl, hf, hd, h.bel.alloc h.bel.size _, by simp, fun b hb => .inr (by subst hb; simp), fun b hb _ => Below.heap_alloc _ _ _ hb⟩
/-- a new block; the used ones' blocks pass to it -/
theorem led_new2 (h : AtL Φ l c D tm df w0 i a w X) (j : Nat) (hj : c.getD j none = some i) (v : Value) (ob : Obj) (hr : (execOp a.eval o).run P w = .ok (.value v) (w.alloc ob)) (hd : o.dst = none → v = undef) (hf : ∀ s : Nat → Value, s i = v → (∀ k, k ∈ D.getD i [] → s k = slotL l a.tmps k) → Φ i (fun b => b = w.heap.size ∨ X j b) s (w.alloc ob)) :
    Oper.wp P o a w (fun a' w' => ∃ v Y, LeftL Φ l w0 c D i o a w X a' w' v Y) Q := by
  unfold Oper.wp
  rw [hr, Oper.upon_value]
  exact ⟨v, _, rfl, hf, hd, h.bel.alloc h.bel.size _, by simp, fun b hb => hb.elim (fun hb => .inr (by subst hb; simp)) (fun hb => .inl ⟨j, hj, hb⟩), fun b hb _ => Below.heap_alloc _ _ _ hb⟩
theorem led_call (h : AtL Φ l c D tm df w0 i a w X) (f : FuncId) (args : Array Value) (R : Value → World → Prop) (hr : (execOp a.eval o).run P w = .ok (.enter f args) w) (hd : o.dst ≠ none) (hc : Calls P f args w fun e w' => ∃ v, e = .returned v ∧ R v w' ∧ RowKit.Below w.heap.size w w')
    (hf : ∀ (v : Value) (w' : World), R v w' → RowKit.Below w.heap.size w w' → ∀ s : Nat → Value, s i = v → (∀ k, k ∈ D.getD i [] → s k = slotL l a.tmps k) → Φ i (fun b => w.heap.size ≤ b ∧ b < w'.heap.size) s w') :
    Oper.wp P o a w (fun a' w' => ∃ v Y, LeftL Φ l w0 c D i o a w X a' w' v Y) Q := by
  unfold Oper.wp
  rw [hr, Oper.upon_enter]
  refine hc.mono ?_
  rintro e w' ⟨v, rfl, hR, hb⟩
  exact ⟨v, _, rfl, hf v w' hR hb, fun e => (hd e).elim, h.bel.trans (hb.mono h.bel.size), hb.size, fun b hb => .inr hb, fun b hb2 _ => hb.block b hb2⟩
end
end
end Go.Proofs.YtlipmagkplbkdaaDoor
