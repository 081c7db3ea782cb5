/- Texts of the proof that the statement of ChanceAlone holds, several in one. -/
import Derived.Conc.Beside
import Derived.Conc.Events
import Derived.Laws.Sem
import Derived.Conc.Crowd
import Derived.Conc.Own4
set_option linter.unusedVariables false
set_option linter.unusedSimpArgs false
set_option linter.unusedSectionVars false
set_option maxRecDepth 100000
set_option maxHeartbeats 8000000
namespace Go.Proofs.YtlipmagkplbkdaaDoor
section
open Go Go.Conc
abbrev Ren := Nat -> Nat -> Prop
def Ext (ρ ρ' : Ren) : Prop := ∀ b c, ρ b c -> ρ' b c
theorem Ext.refl (ρ : Ren) : Ext ρ ρ := fun _ _ h => h
theorem Ext.trans {ρ₁ ρ₂ ρ₃ : Ren} (h : Ext ρ₁ ρ₂) (k : Ext ρ₂ ρ₃) : Ext ρ₁ ρ₃ := fun b c x => k b c (h b c x)
def isCell : Value -> Bool
 | .agg _ | .tuple _ => false
 | _ => true
def isJunk : Value -> Bool
 | .agg _ | .tuple _ | .bool _ => false
 | _ => true
theorem isJunk.cell {y : Value} (h : isJunk y = true) : isCell y = true := by cases y <;> first | rfl | (cases h)
inductive VRel (S : FuncId -> Prop) (ρ : Ren) : Value -> Value -> Prop
 | bool (b : Bool) : VRel S ρ (.bool b) (.bool b)
 | int (k : IntKind) (n : Int) : VRel S ρ (.int k n) (.int k n)
 | string (s : ByteArray) : VRel S ρ (.string s) (.string s)
 | nilp : VRel S ρ (.pointer none) (.pointer none)
 | ptr (b c off : Nat) (sp : Option Nat) : ρ b c -> VRel S ρ (.pointer (some ⟨b, off, sp⟩)) (.pointer (some ⟨c, off, sp⟩))
 | nils (n k : Nat) : VRel S ρ (.slice none n k) (.slice none n k)
 | sl (b c off : Nat) (sp : Option Nat) (n k : Nat) : ρ b c -> VRel S ρ (.slice (some ⟨b, off, sp⟩) n k) (.slice (some ⟨c, off, sp⟩) n k)
 | sl0 (a : Addr) : VRel S ρ (.slice (some a) 0 0) (.slice (some a) 0 0)
 | chan (r : Option Nat) : VRel S ρ (.chan r) (.chan r)
 | nilMap : VRel S ρ (.map none) (.map none)
 | nilFunc (y : Value) : isJunk y = true -> VRel S ρ .nilFunc y
 | yield (l : Nat) : VRel S ρ (.func (.yield l) #[] #[]) (.func (.yield l) #[] #[])
 | iface (t : TypeId) (x y : Value) : VRel S ρ x y -> VRel S ρ (.iface t x) (.iface t y)
 | nilIface : VRel S ρ .nilIface .nilIface
 | func (f : FuncId) (as bs cs ds : Array Value) : S f -> as.size = bs.size -> (∀ (i : Nat) (h : i < as.size) (h' : i < bs.size), VRel S ρ as[i] bs[i]) ->
   cs.size = ds.size -> (∀ (i : Nat) (h : i < cs.size) (h' : i < ds.size), VRel S ρ cs[i] ds[i]) -> VRel S ρ (.func (.func f) as cs) (.func (.func f) bs ds)
 | agg (as bs : Array Value) : as.size = bs.size -> (∀ (i : Nat) (h : i < as.size) (h' : i < bs.size), VRel S ρ as[i] bs[i]) -> VRel S ρ (.agg as) (.agg bs)
 | tuple (as bs : Array Value) : as.size = bs.size -> (∀ (i : Nat) (h : i < as.size) (h' : i < bs.size), VRel S ρ as[i] bs[i]) -> VRel S ρ (.tuple as) (.tuple bs)
section
variable {S : FuncId -> Prop}
theorem VRel.mono {ρ ρ' : Ren} {x y : Value} (h : VRel S ρ x y) (e : Ext ρ ρ') : VRel S ρ' x y := by
 induction h with
 | bool b => exact .bool b
 | int k n => exact .int k n
 | string s => exact .string s
 | nilp => exact .nilp
 | ptr b c off sp h => exact .ptr b c off sp (e _ _ h)
 | nils n k => exact .nils n k
 | sl b c off sp n k h => exact .sl b c off sp n k (e _ _ h)
 | sl0 a => exact .sl0 a
 | chan r => exact .chan r
 | nilMap => exact .nilMap
 | nilFunc y h => exact .nilFunc y h
 | yield l => exact .yield l
 | iface t x y _ ih => exact .iface t x y ih
 | nilIface => exact .nilIface
 | func f as bs cs ds h0 h1 _ h2 _ ih1 ih2 => exact .func f as bs cs ds h0 h1 ih1 h2 ih2
 | agg as bs h _ ih => exact .agg as bs h ih
 | tuple as bs h _ ih => exact .tuple as bs h ih
def AsRel (S : FuncId -> Prop) (ρ : Ren) (as bs : Array Value) : Prop := as.size = bs.size /\ ∀ (i : Nat) (h : i < as.size) (h' : i < bs.size), VRel S ρ as[i] bs[i]
theorem AsRel.mono {ρ ρ' : Ren} {as bs : Array Value} (h : AsRel S ρ as bs) (e : Ext ρ ρ') : AsRel S ρ' as bs := ⟨h.1, fun i h1 h2 => (h.2 i h1 h2).mono e⟩
theorem AsRel.get {ρ : Ren} {as bs : Array Value} (h : AsRel S ρ as bs) {i : Nat} {x : Value} (hx : as[i]? = some x) : ∃ y, bs[i]? = some y /\ VRel S ρ x y := by
 obtain ⟨hi, rfl⟩ := Array.getElem?_eq_some_iff.1 hx
 have hi' : i < bs.size := by rw [<- h.1]; exact hi
 exact ⟨bs[i], Array.getElem?_eq_getElem hi', h.2 i hi hi'⟩
theorem AsRel.none {ρ : Ren} {as bs : Array Value} (h : AsRel S ρ as bs) {i : Nat} (hx : as[i]? = none) : bs[i]? = none := by
 rw [Array.getElem?_eq_none_iff] at hx ⊢
 rw [<- h.1]; exact hx
theorem AsRel.of {ρ : Ren} {as bs : Array Value} (h : as.size = bs.size) (k : ∀ (i : Nat) (x y : Value), as[i]? = some x -> bs[i]? = some y -> VRel S ρ x y) : AsRel S ρ as bs :=
 ⟨h, fun i h1 h2 => k i _ _ (Array.getElem?_eq_getElem h1) (Array.getElem?_eq_getElem h2)⟩
theorem AsRel.empty {ρ : Ren} : AsRel S ρ #[] #[] := ⟨rfl, fun i h => by simp at h⟩
theorem AsRel.push {ρ : Ren} {as bs : Array Value} {x y : Value} (h : AsRel S ρ as bs) (k : VRel S ρ x y) : AsRel S ρ (as.push x) (bs.push y) := by
 refine ⟨by simp [h.1], fun i h1 h2 => ?_⟩
 rw [Array.getElem_push, Array.getElem_push]
 split
 ·rename_i hi
  rw [dif_pos (by rw [<- h.1]; exact hi)]
  exact h.2 i hi _
 ·rename_i hi
  rw [dif_neg (by rw [<- h.1]; exact hi)]
  exact k
theorem AsRel.append {ρ : Ren} {as bs cs ds : Array Value} (h : AsRel S ρ as bs) (k : AsRel S ρ cs ds) : AsRel S ρ (as ++ cs) (bs ++ ds) := by
 refine ⟨by simp [h.1, k.1], fun i h1 h2 => ?_⟩
 rw [Array.getElem_append, Array.getElem_append]
 split
 ·rename_i hi
  rw [dif_pos (by rw [<- h.1]; exact hi)]
  exact h.2 i hi _
 ·rename_i hi
  rw [dif_neg (by rw [<- h.1]; exact hi)]
  have h3 := h.1
  have : i - as.size = i - bs.size := by rw [h3]
  simp only [h3]
  exact k.2 _ _ _
theorem AsRel.set {ρ : Ren} {as bs : Array Value} {x y : Value} (h : AsRel S ρ as bs) (i : Nat) (k : VRel S ρ x y) : AsRel S ρ (as.setIfInBounds i x) (bs.setIfInBounds i y) := by
 refine .of (by simp [h.1]) fun j u v hu hv => ?_
 rw [Array.getElem?_setIfInBounds] at hu hv
 by_cases hij : i = j
 ·subst hij
  rw [if_pos rfl] at hu hv
  split at hu
  ·rw [if_pos (by rw [<- h.1]; assumption)] at hv
   injection hu with hu; injection hv with hv
   rw [<- hu, <- hv]; exact k
  ·cases hu
 ·rw [if_neg hij] at hu hv
  obtain ⟨y', h1, h2⟩ := h.get hu
  rw [h1] at hv; injection hv with hv
  rw [<- hv]; exact h2
theorem AsRel.extract {ρ : Ren} {as bs : Array Value} (h : AsRel S ρ as bs) (i j : Nat) : AsRel S ρ (as.extract i j) (bs.extract i j) := by
 refine .of (by simp [h.1]) fun k u v hu hv => ?_
 rw [Array.getElem?_extract] at hu hv
 split at hu
 ·split at hv
  ·obtain ⟨y', h1, h2⟩ := h.get hu
   rw [h1] at hv; injection hv with hv
   rw [<- hv]; exact h2
  ·cases hv
 ·cases hu
theorem AsRel.replicate {ρ : Ren} {x y : Value} (n : Nat) (h : VRel S ρ x y) : AsRel S ρ (Array.replicate n x) (Array.replicate n y) :=
 ⟨by simp, fun i h1 h2 => by simpa using h⟩
theorem AsRel.single {ρ : Ren} {x y : Value} (h : VRel S ρ x y) : AsRel S ρ #[x] #[y] := by simpa using AsRel.empty.push h
theorem AsRel.getD {ρ : Ren} {as bs : Array Value} (h : AsRel S ρ as bs) (i : Nat) : VRel S ρ (as.getD i undef) (bs.getD i undef) := by
 rw [Array.getD_eq_getD_getElem?, Array.getD_eq_getD_getElem?]
 cases hx : as[i]? with
 | none => rw [h.none hx]; exact .tuple _ _ rfl fun i h => by simp at h
 | some x => obtain ⟨y, h1, h2⟩ := h.get hx; rw [h1]; exact h2
theorem VRel.cells {ρ : Ren} {x y : Value} (h : VRel S ρ x y) : AsRel S ρ x.cells y.cells := by
 cases h with
 | agg as bs h1 h2 => exact ⟨h1, h2⟩
 | bool b => exact .single (.bool b)
 | int k n => exact .single (.int k n)
 | string s => exact .single (.string s)
 | nilp => exact .single .nilp
 | ptr b c off sp h => exact .single (.ptr b c off sp h)
 | nils n k => exact .single (.nils n k)
 | sl b c off sp n k h => exact .single (.sl b c off sp n k h)
 | sl0 a => exact .single (.sl0 a)
 | chan r => exact .single (.chan r)
 | nilMap => exact .single .nilMap
 | nilFunc y h =>
  have hy : y.cells = #[y] := by cases y <;> first | rfl | (cases h)
  rw [hy]
  exact .single (.nilFunc y h)
 | yield l => exact .single (.yield l)
 | iface t x y h => exact .single (.iface t x y h)
 | nilIface => exact .single .nilIface
 | func f as bs cs ds h0 h1 h2 h3 h4 => exact .single (.func f as bs cs ds h0 h1 h2 h3 h4)
 | tuple as bs h1 h2 => exact .single (.tuple as bs h1 h2)
theorem VRel.isCell {ρ : Ren} {x y : Value} (h : VRel S ρ x y) : isCell y = isCell x := by cases h <;> first | rfl | exact isJunk.cell (by assumption)
end
def AdR (ρ : Ren) (a b : Addr) : Prop := ρ a.block b.block /\ a.off = b.off /\ a.spot = b.spot
theorem AdR.mono {ρ ρ' : Ren} {a b : Addr} (h : AdR ρ a b) (e : Ext ρ ρ') : AdR ρ' a b := ⟨e _ _ h.1, h.2⟩
theorem AdR.add {ρ : Ren} {a b : Addr} (h : AdR ρ a b) (n : Nat) : AdR ρ (a.add n) (b.add n) := by
 unfold Addr.add
 split
 ·exact h
 ·exact ⟨h.1, by simp [h.2.1], rfl⟩
theorem AdR.ptr {S : FuncId -> Prop} {ρ : Ren} {a b : Addr} (h : AdR ρ a b) : VRel S ρ (.pointer (some a)) (.pointer (some b)) := by
 obtain ⟨b1, o1, s1⟩ := a
 obtain ⟨b2, o2, s2⟩ := b
 obtain ⟨h1, h2, h3⟩ := h
 simp only at h1 h2 h3
 subst h2 h3
 exact .ptr _ _ _ _ h1
theorem AdR.sl {S : FuncId -> Prop} {ρ : Ren} {a b : Addr} (h : AdR ρ a b) (n k : Nat) : VRel S ρ (.slice (some a) n k) (.slice (some b) n k) := by
 obtain ⟨b1, o1, s1⟩ := a
 obtain ⟨b2, o2, s2⟩ := b
 obtain ⟨h1, h2, h3⟩ := h
 simp only at h1 h2 h3
 subst h2 h3
 exact .sl _ _ _ _ _ _ h1
def isLoop : Obj -> Bool
 | .loop _ => true
 | _ => false
def NoLp (v : World) : Prop := ∀ (b : Nat) (o : Obj), v.heap[b]? = some o -> isLoop o = false
theorem NoLp.set {v : World} (h : NoLp v) {b : Nat} {o : Obj} (ho : isLoop o = false) : NoLp { v with heap := v.heap.setIfInBounds b o } := fun c x hx => by
 have hx : (v.heap.setIfInBounds b o)[c]? = some x := hx
 rw [Array.getElem?_setIfInBounds] at hx
 split at hx
 ·split at hx
  ·injection hx with hx; rw [<- hx]; exact ho
  ·cases hx
 ·exact h c x hx
theorem NoLp.push {v : World} (h : NoLp v) {o : Obj} (ho : isLoop o = false) : NoLp { v with heap := v.heap.push o } := fun c x hx => by
 have hx : (v.heap.push o)[c]? = some x := hx
 rw [Array.getElem?_push] at hx
 split at hx
 ·injection hx with hx; rw [<- hx]; exact ho
 ·exact h c x hx
theorem NoLp.setCell {v : World} (h : NoLp v) (a : Addr) (x : Value) : NoLp (v.setCell a x) := fun c y hy => by
 unfold World.setCell at hy
 simp only [Array.getElem?_modify] at hy
 split at hy
 ·obtain ⟨o, h1, h2⟩ := Option.map_eq_some_iff.1 hy
  have := h c o h1
  rw [<- h2]
  cases o <;> first | rfl | (cases this)
 ·exact h c y hy
theorem NoLp.freeze {v : World} (h : NoLp v) (a : Addr) (n : Nat) : NoLp (v.freeze a n) := fun c y hy => by
 unfold World.freeze at hy
 split at hy
 ·exact h c y hy
 simp only [Array.getElem?_modify] at hy
 split at hy
 ·obtain ⟨o, h1, h2⟩ := Option.map_eq_some_iff.1 hy
  have := h c o h1
  rw [<- h2]
  cases o <;> first | rfl | (cases this)
 ·exact h c y hy
structure WRel (P : Program) (S : FuncId -> Prop) (N0 : Nat) (ρ : Ren) (v w : World) : Prop where
 inj : ∀ b b' c, ρ b c -> ρ b' c -> b = b'
 func : ∀ b c c', ρ b c -> ρ b c' -> c = c'
 dom : ∀ b c, ρ b c -> b < v.heap.size /\ c < w.heap.size
 cell : ∀ b c, ρ b c -> (∃ cs ds t fr fr', v.heap[b]? = some (.cells cs t fr) /\ w.heap[c]? = some (.cells ds t fr') /\ AsRel S ρ cs ds /\ (N0 <= b -> fr' = fr) /\ (b < N0 -> ∀ off, off < cs.size -> fr.1 <= off /\ off < fr.2)) ∨
  (∃ x y l, v.heap[b]? = some (.number x l) /\ w.heap[c]? = some (.number y l) /\ AdR ρ x y) ∨
  (∃ o o' s p, v.heap[b]? = some o /\ w.heap[c]? = some o' /\ (o' = .stringIter s p ∨ o' = .coro none) /\ (o = .coro none ∨ (o = .stringIter s p /\ o' = .stringIter s p /\ N0 <= b)))
 tape : v.tape = w.tape
 drawn : v.drawn = w.drawn
 low : N0 <= v.heap.size
 glob : P.globals.size <= N0
 lowW : P.globals.size <= w.heap.size
 same : ∀ b c, ρ b c -> (b < P.globals.size ∨ c < P.globals.size) -> c = b
 nl : NoLp v
def EvC (N0 : Nat) (ρ : Ren) (e : Event) : Prop :=
 (∃ b c l wr, e = ⟨l, wr, false⟩ /\ (l = .obj c ∨ ∃ a : Addr, l = .cell a /\ a.block = c) /\ ρ b c /\ (wr = true -> N0 <= b)) ∨ e = ⟨.mark .noRoom, false, true⟩ ∨ ∃ f, e = ⟨.mark (.extern f), false, true⟩
theorem EvC.rd {N0 : Nat} {ρ : Ren} {b : Nat} {a : Addr} (h : ρ b a.block) : EvC N0 ρ ⟨.cell a, false, false⟩ := .inl ⟨b, _, _, _, rfl, .inr ⟨a, rfl, rfl⟩, h, fun e => by cases e⟩
theorem EvC.wr {N0 : Nat} {ρ : Ren} {b : Nat} {a : Addr} (hN : N0 <= b) (h : ρ b a.block) : EvC N0 ρ ⟨.cell a, true, false⟩ := .inl ⟨b, _, _, _, rfl, .inr ⟨a, rfl, rfl⟩, h, fun _ => hN⟩
theorem EvC.rdo {N0 : Nat} {ρ : Ren} {b c : Nat} (h : ρ b c) : EvC N0 ρ ⟨.obj c, false, false⟩ := .inl ⟨b, _, _, _, rfl, .inl rfl, h, fun e => by cases e⟩
theorem EvC.wro {N0 : Nat} {ρ : Ren} {b c : Nat} (hN : N0 <= b) (h : ρ b c) : EvC N0 ρ ⟨.obj c, true, false⟩ := .inl ⟨b, _, _, _, rfl, .inl rfl, h, fun _ => hN⟩
structure Guar (N0 : Nat) (ρ ρ' : Ren) (w w' : World) (es : Array Event) : Prop where
 size : w.heap.size <= w'.heap.size
 os : w'.os = w.os
 tape : w'.tape = w.tape
 output : w'.output = w.output
 drawn : w.drawn <= w'.drawn
 keep : ∀ c, c < w.heap.size -> (∀ b, N0 <= b -> ¬ ρ b c) -> w'.heap[c]? = w.heap[c]?
 fresh : ∀ b c, ρ' b c -> ¬ ρ b c -> N0 <= b /\ w.heap.size <= c
 evs : ∀ e ∈ es, EvC N0 ρ' e
theorem EvC.mono {N0 : Nat} {ρ ρ' : Ren} {e : Event} (h : EvC N0 ρ e) (x : Ext ρ ρ') : EvC N0 ρ' e := by
 rcases h with ⟨b, c, l, wr, h1, h2, h3, h4⟩ | h
 ·exact .inl ⟨b, c, l, wr, h1, h2, x _ _ h3, h4⟩
 ·exact .inr h
theorem Guar.refl (N0 : Nat) (ρ : Ren) (w : World) : Guar N0 ρ ρ w w #[] := ⟨Nat.le_refl _, rfl, rfl, rfl, Nat.le_refl _, fun _ _ _ => rfl, fun b c h1 h2 => absurd h1 h2, fun e he => by simp at he⟩
theorem Guar.trans {N0 : Nat} {ρ₁ ρ₂ ρ₃ : Ren} {w₁ w₂ w₃ : World} {es es' : Array Event} (h : Guar N0 ρ₁ ρ₂ w₁ w₂ es) (k : Guar N0 ρ₂ ρ₃ w₂ w₃ es') (e1 : Ext ρ₁ ρ₂) (e2 : Ext ρ₂ ρ₃) : Guar N0 ρ₁ ρ₃ w₁ w₃ (es ++ es') where
 size := Nat.le_trans h.size k.size
 os := k.os.trans h.os
 tape := k.tape.trans h.tape
 output := k.output.trans h.output
 drawn := Nat.le_trans h.drawn k.drawn
 keep c hc hn := by
  rw [k.keep c (Nat.lt_of_lt_of_le hc h.size) fun b hb hr => ?_, h.keep c hc hn]
  by_cases hr1 : ρ₁ b c
  ·exact hn b hb hr1
  ·have := (h.fresh b c hr hr1).2; omega
 fresh b c h1 h2 := by
  by_cases hr : ρ₂ b c
  ·exact h.fresh b c hr h2
  ·exact ⟨(k.fresh b c h1 hr).1, Nat.le_trans h.size (k.fresh b c h1 hr).2⟩
 evs e he := by
  rcases Array.mem_append.1 he with he | he
  ·exact (h.evs e he).mono e2
  ·exact k.evs e he
section
variable {P : Program} {S : FuncId -> Prop} {N0 : Nat} {α β γ δ : Type}
def Sim (P : Program) (S : FuncId -> Prop) (N0 : Nat) (ρ : Ren) (A : Ren -> α -> β -> Prop) (t : Sem α) (t' : Sem β) : Prop :=
 ∀ ρ₁ v w, Ext ρ ρ₁ -> WRel P S N0 ρ₁ v w -> ∀ a v', t.run P v = .ok a v' -> ∃ ρ₂ b w' evs, Ext ρ₁ ρ₂ /\ (∀ es, t'.runT P w es = (.ok b w', es ++ evs)) /\ A ρ₂ a b /\ WRel P S N0 ρ₂ v' w' /\ Guar N0 ρ₁ ρ₂ w w' evs
theorem Sim.mono {ρ ρ' : Ren} {A : Ren -> α -> β -> Prop} {t : Sem α} {t' : Sem β} (h : Sim P S N0 ρ A t t') (e : Ext ρ ρ') : Sim P S N0 ρ' A t t' := fun ρ₁ v w e1 => h ρ₁ v w (e.trans e1)
theorem Sim.weak {ρ : Ren} {A B : Ren -> α -> β -> Prop} {t : Sem α} {t' : Sem β} (h : Sim P S N0 ρ A t t') (k : ∀ ρ' a b, Ext ρ ρ' -> A ρ' a b -> B ρ' a b) : Sim P S N0 ρ B t t' := fun ρ₁ v w e1 hw a v' hr => by
 obtain ⟨ρ₂, b, w', evs, h1, h2, h3, h4, h5⟩ := h ρ₁ v w e1 hw a v' hr
 exact ⟨ρ₂, b, w', evs, h1, h2, k ρ₂ a b (e1.trans h1) h3, h4, h5⟩
theorem Sim.pure {ρ : Ren} {A : Ren -> α -> β -> Prop} {a : α} {b : β} (h : ∀ ρ', Ext ρ ρ' -> A ρ' a b) : Sim P S N0 ρ A (Pure.pure a) (Pure.pure b) := fun ρ₁ v w e1 hw a' v' hr => by
 have hr : Result.ok a v = .ok a' v' := hr
 injection hr with h1 h2
 subst h1 h2
 exact ⟨ρ₁, b, w, #[], Ext.refl _, fun es => by show (_, _) = _; simp, h _ e1, hw, Guar.refl _ _ _⟩
theorem Sim.halt {ρ : Ren} {A : Ren -> α -> β -> Prop} {h : Halt} {t' : Sem β} : Sim P S N0 ρ A (.halt h) t' := fun ρ₁ v w e1 hw a' v' hr => by
 have hr : Result.halt h v = .ok a' v' := hr
 cases hr
theorem Sim.bind {ρ : Ren} {A : Ren -> α -> β -> Prop} {B : Ren -> γ -> δ -> Prop} {t : Sem α} {t' : Sem β} {f : α -> Sem γ} {f' : β -> Sem δ} (h : Sim P S N0 ρ A t t') (k : ∀ ρ' a b, Ext ρ ρ' -> A ρ' a b -> Sim P S N0 ρ' B (f a) (f' b)) : Sim P S N0 ρ B (t >>= f) (t' >>= f') := fun ρ₁ v w e1 hw c v' hr => by
 have hr : (t.bind f).run P v = .ok c v' := hr
 rw [Sem.run_bind'] at hr
 cases ht : t.run P v with
 | halt x y => rw [ht] at hr; cases hr
 | ok a v1 =>
  rw [ht] at hr
  obtain ⟨ρ₂, b, w1, evs, h1, h2, h3, h4, h5⟩ := h ρ₁ v w e1 hw a v1 ht
  obtain ⟨ρ₃, d, w2, evs2, k1, k2, k3, k4, k5⟩ := k ρ₂ a b (e1.trans h1) h3 ρ₂ v1 w1 (Ext.refl _) h4 c v' hr
  refine ⟨ρ₃, d, w2, evs ++ evs2, h1.trans k1, fun es => ?_, k3, k4, h5.trans k5 h1 k1⟩
  show (t'.bind f').runT P w es = _
  rw [Sem.runT_bind', h2 es]
  simp only
  rw [k2, Array.append_assoc]
def EqR (_ : Ren) (a b : α) : Prop := a = b
theorem WRel.cell? {ρ : Ren} {v w : World} (h : WRel P S N0 ρ v w) {a b : Addr} (hab : AdR ρ a b) {x : Value} (hx : v.cell? a = some x) : ∃ y, w.cell? b = some y /\ VRel S ρ x y := by
 rcases h.cell _ _ hab.1 with ⟨cs, ds, t, fr, fr', h1, h2, h3, _⟩ | ⟨_, _, _, h1, _⟩ | ⟨o, _, _, _, h1, _, _, h3⟩
 case inr.inl => unfold World.cell? at hx; rw [h1] at hx; cases hx
 case inr.inr => unfold World.cell? at hx; rw [h1] at hx; rcases h3 with rfl | ⟨rfl, _⟩ <;> cases hx
 unfold World.cell? at hx ⊢
 rw [h1] at hx
 rw [h2]
 simp only at hx ⊢
 rw [<- hab.2.2, <- hab.2.1]
 split at hx
 ·cases hx
 ·rename_i hsp
  rw [if_neg hsp]
  exact h3.get hx
theorem Sim.load {ρ : Ren} {a b : Addr} (h : AdR ρ a b) : Sim P S N0 ρ (VRel S) (Go.load a) (Go.load b) := fun ρ₁ v w e1 hw x v' hr => by
 unfold Go.load at hr
 simp only [Sem.run] at hr
 cases hc : v.cell? a with
 | none =>
  rw [hc] at hr
  rcases hw.cell _ _ (e1 _ _ h.1) with ⟨cs, ds, t, fr, fr', h1, h2, _⟩ | ⟨_, _, _, h1, _⟩ | ⟨o, _, _, _, h1, _, _, rfl | ⟨rfl, _⟩⟩
  all_goals
   simp only [World.farLoad, h1] at hr
   cases hr
 | some y =>
  rw [hc] at hr
  simp only [Result.ok.injEq] at hr
  obtain ⟨rfl, rfl⟩ := hr
  obtain ⟨z, hz1, hz2⟩ := hw.cell? (h.mono e1) hc
  refine ⟨ρ₁, z, w, #[⟨.cell b, false, false⟩], Ext.refl _, fun es => ?_, hz2, hw, { Guar.refl N0 ρ₁ w with evs := fun e he => ?_ }⟩
  ·unfold Go.load
   simp only [Sem.runT, hz1]
   rfl
  ·simp only [List.mem_toArray, List.mem_cons, List.not_mem_nil, or_false] at he
   rw [he]; exact .rd (e1 _ _ h.1)
end
end
section
open Go Go.Conc
section
variable {P : Program} {S : FuncId -> Prop} {N0 : Nat} {α β γ δ : Type}
def TrueR (_ : Ren) (_ : α) (_ : β) : Prop := True
theorem heap_set_same {w : World} {a : Addr} {x : Value} {cs : Array Value} {t : TypeId} {fr : Nat × Nat} (h : w.heap[a.block]? = some (.cells cs t fr)) :
  (w.setCell a x).heap[a.block]? = some (.cells (if a.spot.isSome then cs else cs.setIfInBounds a.off x) t fr) := by
 unfold World.setCell
 simp only [Array.getElem?_modify, if_pos, h, Option.map_some]
theorem heap_set_other {w : World} {a : Addr} {x : Value} {k : Nat} (h : k ≠ a.block) : (w.setCell a x).heap[k]? = w.heap[k]? := by
 unfold World.setCell
 simp only [Array.getElem?_modify]
 rw [if_neg (fun e => h e.symm)]
theorem Sim.store {ρ : Ren} {a b : Addr} {x y : Value} (h : AdR ρ a b) (hxy : VRel S ρ x y) : Sim P S N0 ρ TrueR (Go.store a x) (Go.store b y) := fun ρ₁ v w e1 hw u v' hr => by
 by_cases ho : isCell x = true
 ·have hr : (match v.cell? a with
    | some _ => if v.frozen? a then Result.halt (.unsupported (.unsafePointer "a write to bytes that a string shares")) v else .ok () (v.setCell a x)
    | none => match v.farStore P a x false with | .ok (w, _) => .ok () w | .error h => .halt h v) = .ok u v' := by
   cases x <;> first | exact hr | (simp [isCell] at ho)
  cases hc : v.cell? a with
  | none =>
   rw [hc] at hr
   rcases hw.cell _ _ (e1 _ _ h.1) with ⟨cs, ds, t, fr, fr', h1, h2, _⟩ | ⟨_, _, _, h1, _⟩ | ⟨o, _, _, _, h1, _, _, rfl | ⟨rfl, _⟩⟩
   all_goals
    simp only [World.farStore, h1] at hr
    cases hr
  | some z =>
   rcases hw.cell _ _ (e1 _ _ h.1) with ⟨cs, ds, t, fr, fr', h1, h2, h3, h4, h5⟩ | ⟨_, _, _, h1, _⟩ | ⟨o, _, _, _, h1, _, _, h3⟩
   case inr.inl => unfold World.cell? at hc; rw [h1] at hc; cases hc
   case inr.inr => unfold World.cell? at hc; rw [h1] at hc; rcases h3 with rfl | ⟨rfl, _⟩ <;> cases hc
   rw [hc] at hr
   simp only at hr
   split at hr
   ·cases hr
   ·rename_i hfz
    injection hr with hr1 hr2
    subst hr2
    obtain ⟨z', hz1, hz2⟩ := hw.cell? (h.mono e1) hc
    have hoff : a.off < cs.size := by
     unfold World.cell? at hc
     rw [h1] at hc
     simp only at hc
     split at hc
     ·cases hc
     ·exact (Array.getElem?_eq_some_iff.1 hc).1
    have hN : N0 <= a.block := by
     refine Nat.le_of_not_lt fun hlt => hfz ?_
     unfold World.frozen?
     rw [h1]
     have := h5 hlt _ hoff
     simp only [Bool.and_eq_true, decide_eq_true_eq]
     exact this
    have hfr := h4 hN
    have hfz' : w.frozen? b = false := by
     unfold World.frozen? at hfz ⊢
     rw [h1] at hfz
     rw [h2, hfr, <- h.2.1]
     simpa using hfz
    refine ⟨ρ₁, (), w.setCell b y, #[⟨.cell b, true, false⟩], Ext.refl _, fun es => ?_, trivial, ⟨hw.inj, hw.func, fun b1 c1 h6 => ?_, fun b1 c1 h6 => ?_, hw.tape, hw.drawn, ?_, hw.glob, ?_, hw.same, hw.nl.setCell a x⟩, ⟨by simp [World.setCell], rfl, rfl, rfl, Nat.le_refl _, fun c hc hn => ?_, fun b1 c1 k1 k2 => absurd k1 k2, fun e he => ?_⟩⟩
    ·have hy : isCell y = true := by rw [hxy.isCell]; exact ho
     have hs : ∀ y : Value, isCell y = true -> (Go.store b y).runT P w es = (match w.cell? b with
       | some _ => if w.frozen? b then (.halt (.unsupported (.unsafePointer "a write to bytes that a string shares")) w, es) else (Sem.pure ()).runT P (w.setCell b y) (es.push ⟨.cell b, true, false⟩)
       | none => match w.farStore P b y false with | .ok (w, touched) => (Sem.pure ()).runT P w (es ++ touched.toArray.map (⟨.cell ·, true, false⟩)) | .error h => (.halt h w, es)) := fun y hy => by
      cases y <;> first | rfl | (simp [isCell] at hy)
     rw [hs y hy, hz1]
     simp only [hfz', Bool.false_eq_true, if_false]
     show (_, _) = _
     simp
    ·have := hw.dom b1 c1 h6
     simp [World.setCell]; exact this
    ·by_cases hb : b1 = a.block
     ·subst hb
      obtain rfl := hw.func _ _ _ h6 (e1 _ _ h.1)
      refine .inl ⟨_, _, t, fr, fr', heap_set_same h1, heap_set_same h2, ?_, h4, fun hlt => absurd hN (Nat.not_le.2 hlt)⟩
      rw [<- h.2.2, <- h.2.1]
      split
      ·exact h3
      ·exact h3.set _ (hxy.mono e1)
     ·have hc1 : c1 ≠ b.block := fun e => hb (hw.inj _ _ _ (e ▸ h6) (e1 _ _ h.1))
      rcases hw.cell b1 c1 h6 with ⟨cs2, ds2, t2, fr2, fr2', k1, k2, k3⟩ | ⟨x2, y2, l2, k1, k2, k3⟩ | ⟨o2, o3, s2, p2, k1, k2, k3⟩
      ·exact .inl ⟨cs2, ds2, t2, fr2, fr2', (heap_set_other hb).trans k1, (heap_set_other hc1).trans k2, k3⟩
      ·exact .inr (.inl ⟨x2, y2, l2, (heap_set_other hb).trans k1, (heap_set_other hc1).trans k2, k3⟩)
      ·exact .inr (.inr ⟨o2, o3, s2, p2, (heap_set_other hb).trans k1, (heap_set_other hc1).trans k2, k3⟩)
    ·have := hw.low
     simp [World.setCell]; exact this
    ·have := hw.lowW
     simp [World.setCell]; exact this
    ·exact heap_set_other fun e => hn a.block hN (e ▸ e1 _ _ h.1)
    ·simp only [List.mem_toArray, List.mem_cons, List.not_mem_nil, or_false] at he
     rw [he]; exact .wr hN (e1 _ _ h.1)
 ·exfalso
  cases x <;> first | (exact ho rfl) | (cases hr)
def Ren.add (ρ : Ren) (b c : Nat) : Ren := fun b' c' => ρ b' c' ∨ (b' = b /\ c' = c)
def ObR (S : FuncId -> Prop) (ρ : Ren) (o o' : Obj) : Prop := (∃ cs ds t, o = .cells cs t /\ o' = .cells ds t /\ AsRel S ρ cs ds) ∨ (∃ x y l, o = .number x l /\ o' = .number y l /\ AdR ρ x y) ∨ ∃ s p, o = .stringIter s p /\ o' = .stringIter s p
theorem ObR.mono {ρ ρ' : Ren} {o o' : Obj} (h : ObR S ρ o o') (e : Ext ρ ρ') : ObR S ρ' o o' := by
 rcases h with ⟨cs, ds, t, h1, h2, h3⟩ | ⟨x, y, l, h1, h2, h3⟩ | h
 ·exact .inl ⟨cs, ds, t, h1, h2, h3.mono e⟩
 ·exact .inr (.inl ⟨x, y, l, h1, h2, h3.mono e⟩)
 ·exact .inr (.inr h)
theorem Sim.newObj {ρ : Ren} {o o' : Obj} (h : ObR S ρ o o') : Sim P S N0 ρ (fun ρ' b c => ρ' b c /\ N0 <= b) (Go.newObj o) (Go.newObj o') := fun ρ₁ v w e1 hw u v' hr => by
 have hr : Result.ok v.heap.size { v with heap := v.heap.push o } = .ok u v' := hr
 injection hr with hr1 hr2
 subst hr1 hr2
 have hd1 : ∀ b c, ρ₁ b c -> b ≠ v.heap.size := fun b c x e => by have := (hw.dom b c x).1; omega
 have hd2 : ∀ b c, ρ₁ b c -> c ≠ w.heap.size := fun b c x e => by have := (hw.dom b c x).2; omega
 have hx : Ext ρ₁ (Ren.add ρ₁ v.heap.size w.heap.size) := fun b c x => .inl x
 refine ⟨Ren.add ρ₁ v.heap.size w.heap.size, w.heap.size, { w with heap := w.heap.push o' }, #[], hx, fun es => ?_, ⟨.inr ⟨rfl, rfl⟩, hw.low⟩, ⟨?_, ?_, ?_, ?_, hw.tape, hw.drawn, ?_, hw.glob, ?_, ?_, hw.nl.push (by rcases h with ⟨_, _, _, rfl, _⟩ | ⟨_, _, _, rfl, _⟩ | ⟨_, _, rfl, _⟩ <;> rfl)⟩, ⟨by simp, rfl, rfl, rfl, Nat.le_refl _, fun c hc hn => ?_, ?_, fun e he => by simp at he⟩⟩
 ·show (_, _) = _
  simp
 ·rintro b b' c (x | ⟨rfl, rfl⟩) (y | ⟨rfl, e⟩)
  ·exact hw.inj _ _ _ x y
  ·exact absurd e (hd2 _ _ x)
  ·exact absurd rfl (hd2 _ _ y)
  ·rfl
 ·rintro b c c' (x | ⟨rfl, rfl⟩) (y | ⟨e, rfl⟩)
  ·exact hw.func _ _ _ x y
  ·exact absurd e (hd1 _ _ x)
  ·exact absurd rfl (hd1 _ _ y)
  ·rfl
 ·rintro b c (x | ⟨rfl, rfl⟩)
  ·have := hw.dom b c x; simp; omega
  ·simp
 ·rintro b c (x | ⟨rfl, rfl⟩)
  ·have := hw.dom b c x
   rcases hw.cell b c x with ⟨cs2, ds2, t2, fr2, fr2', k1, k2, k3, k4⟩ | ⟨x2, y2, l2, k1, k2, k3⟩ | ⟨o2, o3, s2, p2, k1, k2, k3⟩
   ·exact .inl ⟨cs2, ds2, t2, fr2, fr2', by simp only [Array.getElem?_push, if_neg (hd1 b c x), k1], by simp only [Array.getElem?_push, if_neg (hd2 b c x), k2], k3.mono hx, k4⟩
   ·exact .inr (.inl ⟨x2, y2, l2, by simp only [Array.getElem?_push, if_neg (hd1 b c x), k1], by simp only [Array.getElem?_push, if_neg (hd2 b c x), k2], k3.mono hx⟩)
   ·exact .inr (.inr ⟨o2, o3, s2, p2, by simp only [Array.getElem?_push, if_neg (hd1 b c x), k1], by simp only [Array.getElem?_push, if_neg (hd2 b c x), k2], k3⟩)
  ·rcases (h.mono e1).mono hx with ⟨cs, ds, t, rfl, rfl, h3⟩ | ⟨x, y, l, rfl, rfl, h3⟩ | ⟨s, p, rfl, rfl⟩
   ·exact .inl ⟨cs, ds, t, (0, 0), (0, 0), by simp, by simp, h3, fun _ => rfl, fun hlt => absurd hw.low (Nat.not_le.2 hlt)⟩
   ·exact .inr (.inl ⟨x, y, l, by simp, by simp, h3⟩)
   ·exact .inr (.inr ⟨_, _, s, p, by simp, by simp, .inl rfl, .inr ⟨rfl, rfl, hw.low⟩⟩)
 ·have := hw.low
  simp; omega
 ·have := hw.lowW
  simp; omega
 ·rintro b c (x | ⟨rfl, rfl⟩) hn
  ·exact hw.same b c x hn
  ·have := hw.low
   have := hw.glob
   have := hw.lowW
   omega
 ·simp only [Array.getElem?_push]
  rw [if_neg (by omega)]
 ·rintro b c (x | ⟨rfl, rfl⟩) hn
  ·exact absurd x hn
  ·exact ⟨hw.low, Nat.le_refl _⟩
def AdN (N0 : Nat) (ρ : Ren) (a b : Addr) : Prop := AdR ρ a b /\ N0 <= a.block
theorem Sim.newRow {ρ : Ren} {t : TypeId} {cs ds : Array Value} (h : AsRel S ρ cs ds) : Sim P S N0 ρ (AdN N0) (Go.newRow t cs) (Go.newRow t ds) := by
 unfold Go.newRow
 exact Sim.bind (Sim.newObj (.inl ⟨cs, ds, t, rfl, rfl, h⟩)) fun ρ' b c _ hbc => Sim.pure fun ρ'' e => ⟨⟨e _ _ hbc.1, rfl, rfl⟩, hbc.2⟩
theorem Sim.choose {ρ : Ren} (q : Question) : Sim P S N0 ρ EqR (Go.choose q) (Go.choose q) := fun ρ₁ v w e1 hw u v' hr => by
 by_cases hf : q.forced = true
 ·have hr : (if q.forced then Result.ok 0 v else .ok (q.cut (v.tape v.drawn q)) { v with drawn := v.drawn + 1 }) = .ok u v' := hr
  rw [if_pos hf] at hr
  injection hr with hr1 hr2
  subst hr1 hr2
  refine ⟨ρ₁, 0, w, #[], Ext.refl _, fun es => ?_, rfl, hw, Guar.refl _ _ _⟩
  show (if q.forced then (Result.ok 0 w, es) else _) = _
  rw [if_pos hf]; simp
 ·have hr : (if q.forced then Result.ok 0 v else .ok (q.cut (v.tape v.drawn q)) { v with drawn := v.drawn + 1 }) = .ok u v' := hr
  rw [if_neg hf] at hr
  injection hr with hr1 hr2
  subst hr1 hr2
  refine ⟨ρ₁, q.cut (w.tape w.drawn q), { w with drawn := w.drawn + 1 }, #[], Ext.refl _, fun es => ?_, by show _ = _; rw [hw.tape, hw.drawn], ⟨hw.inj, hw.func, hw.dom, hw.cell, hw.tape, by simp [hw.drawn], hw.low, hw.glob, hw.lowW, hw.same, hw.nl⟩, ⟨Nat.le_refl _, rfl, rfl, rfl, by simp, fun _ _ _ => rfl, fun b c x y => absurd x y, fun e he => by simp at he⟩⟩
  show (if q.forced then _ else (Result.ok (q.cut (w.tape w.drawn q)) { w with drawn := w.drawn + 1 }, es)) = _
  rw [if_neg hf]; simp
theorem Sim.ite {ρ : Ren} {A : Ren -> α -> β -> Prop} {c : Prop} [Decidable c] {t1 t2 : Sem α} {t1' t2' : Sem β} (h1 : c -> Sim P S N0 ρ A t1 t1') (h2 : ¬ c -> Sim P S N0 ρ A t2 t2') : Sim P S N0 ρ A (if c then t1 else t2) (if c then t1' else t2') := by
 by_cases h : c
 ·rw [if_pos h, if_pos h]; exact h1 h
 ·rw [if_neg h, if_neg h]; exact h2 h
theorem Sim.program {ρ : Ren} : Sim P S N0 ρ (fun _ p q => p = P /\ q = P) Go.program Go.program := fun ρ₁ v w e1 hw u v' hr => by
 have hr : Result.ok P v = .ok u v' := hr
 injection hr with hr1 hr2
 subst hr1 hr2
 exact ⟨ρ₁, P, w, #[], Ext.refl _, fun es => by show (_, _) = _; simp, ⟨rfl, rfl⟩, hw, Guar.refl _ _ _⟩
theorem Sim.mark {ρ : Ren} {m : Mark} (hm : m = .noRoom ∨ ∃ f, m = .extern f) : Sim P S N0 ρ TrueR (Go.mark m) (Go.mark m) := fun ρ₁ v w e1 hw u v' hr => by
 have hr : Result.ok () v = .ok u v' := hr
 injection hr with hr1 hr2
 subst hr2
 refine ⟨ρ₁, (), w, #[⟨.mark m, false, true⟩], Ext.refl _, fun es => by show (_, _) = _; simp, trivial, hw, { Guar.refl N0 ρ₁ w with evs := fun e he => ?_ }⟩
 simp only [List.mem_toArray, List.mem_cons, List.not_mem_nil, or_false] at he
 rcases hm with rfl | ⟨f, rfl⟩
 ·exact .inr (.inl he)
 ·exact .inr (.inr ⟨f, he⟩)
theorem Sim.shape {ρ : Ren} {b c : Nat} (h : ρ b c) : Sim P S N0 ρ EqR (Go.shape b) (Go.shape c) := fun ρ₁ v w e1 hw u v' hr => by
 have hr : Result.ok (v.shape? b) v = .ok u v' := hr
 injection hr with hr1 hr2
 subst hr1 hr2
 refine ⟨ρ₁, w.shape? c, w, #[], Ext.refl _, fun es => by show (_, _) = _; simp, ?_, hw, Guar.refl _ _ _⟩
 show v.shape? b = w.shape? c
 rcases hw.cell _ _ (e1 _ _ h) with ⟨cs, ds, t, fr, fr', h1, h2, h3, _⟩ | ⟨_, _, _, h1, h2, _⟩ | ⟨o, _, _, _, h1, h2, rfl | rfl, rfl | ⟨rfl, _⟩⟩
 ·unfold World.shape?; rw [h1, h2]; simp only [h3.1]
 all_goals unfold World.shape?; rw [h1, h2]
theorem Sim.getObj {ρ : Ren} {b c : Nat} (h : ρ b c) {A : Ren -> α -> β -> Prop} {f : Obj -> Sem α} {f' : Obj -> Sem β}
  (hf : ∀ ρ' a a' l, Ext ρ ρ' -> AdR ρ' a a' -> Sim P S N0 ρ' A (f (.number a l)) (f' (.number a' l)))
  (hi : ∀ ρ' s p, Ext ρ ρ' -> N0 <= b -> Sim P S N0 ρ' A (f (.stringIter s p)) (f' (.stringIter s p)))
  (hd : ∀ ρ' s p o, Ext ρ ρ' -> (o = .stringIter s p ∨ o = .coro none) -> Sim P S N0 ρ' A (f (.coro none)) (f' o)) :
  Sim P S N0 ρ A (Go.getObj b >>= f) (Go.getObj c >>= f') := fun ρ₁ v w e1 hw u v' hr => by
 have hr : ((Go.getObj b).bind f).run P v = .ok u v' := hr
 have key : ∀ (o o' : Obj), v.heap[b]? = some o -> w.heap[c]? = some o' -> (∀ cs t fr, o ≠ .cells cs t fr) -> (∀ cs t fr, o' ≠ .cells cs t fr) -> o'.isChan = false -> Sim P S N0 ρ₁ A (f o) (f' o') ->
   ∃ ρ₂ q w' evs, Ext ρ₁ ρ₂ /\ (∀ es, (Go.getObj c >>= f').runT P w es = (.ok q w', es ++ evs)) /\ A ρ₂ u q /\ WRel P S N0 ρ₂ v' w' /\ Guar N0 ρ₁ ρ₂ w w' evs := fun o o' h1 h2 n1 n2 hc hs => by
  have hr2 : (f o).run P v = .ok u v' := by
   rw [<- hr]
   simp only [Go.getObj, Sem.bind, Sem.run, h1]
  obtain ⟨ρ₂, q, w', evs, k1, k2, k3, k4, k5⟩ := hs ρ₁ v w (Ext.refl _) hw u v' hr2
  have hev : ∀ e ∈ (#[⟨.obj c, false, false⟩] ++ evs : Array Event), EvC N0 ρ₂ e := fun e he => by
   rcases Array.mem_append.1 he with he | he
   ·simp only [List.mem_toArray, List.mem_cons, List.not_mem_nil, or_false] at he
    rw [he]; exact .rdo (k1 _ _ (e1 _ _ h))
   ·exact k5.evs e he
  refine ⟨ρ₂, q, w', #[⟨.obj c, false, false⟩] ++ evs, k1, fun es => ?_, k3, k4, ⟨k5.size, k5.os, k5.tape, k5.output, k5.drawn, k5.keep, k5.fresh, hev⟩⟩
  show ((Go.getObj c).bind f').runT P w es = _
  simp only [Go.getObj, Sem.bind, Sem.runT, h2]
  rw [hc, k2]
  simp
 rcases hw.cell _ _ (e1 _ _ h) with ⟨cs, ds, t, fr, fr', h1, h2, h3, _⟩ | ⟨y, z, l, h1, h2, h3⟩ | ⟨o, o', s, p, h1, h2, h4, rfl | ⟨rfl, rfl, h3⟩⟩
 ·exfalso
  simp only [Go.getObj, Sem.bind, Sem.run, h1] at hr
  cases hr
 ·exact key _ _ h1 h2 (fun _ _ _ e => by cases e) (fun _ _ _ e => by cases e) rfl (hf ρ₁ y z l e1 h3)
 ·exact key _ _ h1 h2 (fun _ _ _ e => by cases e) (fun _ _ _ e => by rcases h4 with h4 | h4 <;> rw [h4] at e <;> cases e) (by rcases h4 with rfl | rfl <;> rfl) (hd ρ₁ s p o' e1 h4)
 ·exact key _ _ h1 h2 (fun _ _ _ e => by cases e) (fun _ _ _ e => by cases e) rfl (hi ρ₁ s p e1 h3)
theorem Sim.behind {ρ : Ren} {b c : Nat} (h : ρ b c) {A : Ren -> α -> β -> Prop} {f : Obj -> Sem α} {f' : Obj -> Sem β} {x : Sem α} {x' : Sem β}
  (hx : Sim P S N0 ρ A x x') (hf : ∀ ρ' a a' l, Ext ρ ρ' -> AdR ρ' a a' -> Sim P S N0 ρ' A (f (.number a l)) (f' (.number a' l)))
  (hi : ∀ ρ' s p, Ext ρ ρ' -> Sim P S N0 ρ' A (f (.stringIter s p)) (f' (.stringIter s p)))
  (hd : ∀ ρ' s p o, Ext ρ ρ' -> (o = .stringIter s p ∨ o = .coro none) -> Sim P S N0 ρ' A (f (.coro none)) (f' o)) :
  Sim P S N0 ρ A (Go.shape b >>= fun s => if s.isSome then x else Go.getObj b >>= f) (Go.shape c >>= fun s => if s.isSome then x' else Go.getObj c >>= f') := by
 refine Sim.bind (Sim.shape h) fun ρ1 s s' e1 hs => ?_
 obtain rfl : s = s' := hs
 refine Sim.ite (fun _ => hx.mono e1) fun _ => Sim.getObj (e1 _ _ h) (fun ρ' a a' l e => hf ρ' a a' l (e1.trans e)) (fun ρ' s p e _ => hi ρ' s p (e1.trans e)) fun ρ' s p o e ho => hd ρ' s p o (e1.trans e) ho
theorem Sim.numberAt {ρ : Ren} {b c : Nat} (h : ρ b c) : Sim P S N0 ρ (fun ρ' x y => (x = none /\ y = none) ∨ ∃ a a' l, x = some (a, l) /\ y = some (a', l) /\ AdR ρ' a a') (Go.numberAt b) (Go.numberAt c) :=
 Sim.behind h (Sim.pure fun _ _ => .inl ⟨rfl, rfl⟩) (fun ρ' a a' l _ haa => Sim.pure fun ρ'' e => .inr ⟨a, a', l, rfl, rfl, haa.mono e⟩) (fun ρ' s p _ => Sim.pure fun _ _ => .inl ⟨rfl, rfl⟩) fun ρ' s p o _ ho => by rcases ho with rfl | rfl <;> exact Sim.pure fun _ _ => .inl ⟨rfl, rfl⟩
theorem Sim.viewAt {ρ : Ren} {b c : Nat} (h : ρ b c) : Sim P S N0 ρ (fun ρ' x y => x = none /\ y = none) (Go.viewAt b) (Go.viewAt c) :=
 Sim.behind h (Sim.pure fun _ _ => ⟨rfl, rfl⟩) (fun ρ' a a' l _ haa => Sim.pure fun ρ'' e => ⟨rfl, rfl⟩) (fun ρ' s p _ => Sim.pure fun _ _ => ⟨rfl, rfl⟩) fun ρ' s p o _ ho => by rcases ho with rfl | rfl <;> exact Sim.pure fun _ _ => ⟨rfl, rfl⟩
theorem Sim.typeInfo {ρ : Ren} (t : TypeId) : Sim P S N0 ρ (fun _ i j => P.info? t = some i /\ j = i) (Go.typeInfo t) (Go.typeInfo t) := by
 unfold Go.typeInfo
 refine Sim.bind Sim.program fun ρ' p q _ h => ?_
 obtain ⟨rfl, rfl⟩ := h
 cases hi : q.info? t with
 | none => exact Sim.halt
 | some i => exact Sim.pure fun _ _ => ⟨rfl, rfl⟩
theorem Sim.underlying {ρ : Ren} (t : TypeId) : Sim P S N0 ρ (fun _ i j => P.underlying t = some i /\ j = i) (Go.underlying t) (Go.underlying t) := by
 unfold Go.underlying
 refine Sim.bind Sim.program fun ρ' p q _ h => ?_
 obtain ⟨rfl, rfl⟩ := h
 cases hi : q.underlying t with
 | none => exact Sim.halt
 | some i => exact Sim.pure fun _ _ => ⟨rfl, rfl⟩
theorem Sim.sizeOf {ρ : Ren} (t : TypeId) : Sim P S N0 ρ EqR (Go.sizeOf t) (Go.sizeOf t) := by
 unfold Go.sizeOf
 refine Sim.bind (Sim.typeInfo t) fun ρ' i j _ h => ?_
 obtain ⟨_, rfl⟩ := h
 exact Sim.pure fun _ _ => rfl
theorem Sim.isAgg {ρ : Ren} (t : TypeId) : Sim P S N0 ρ EqR (Go.isAgg t) (Go.isAgg t) := by
 unfold Go.isAgg
 refine Sim.bind (Sim.underlying t) fun ρ' i j _ h => ?_
 obtain ⟨_, rfl⟩ := h
 split <;> exact Sim.pure fun _ _ => rfl
def ZeroOk (P : Program) (S : FuncId -> Prop) : Prop := ∀ t i z, P.info? t = some i -> i.zero = some z -> ∀ ρ : Ren, VRel S ρ z z
theorem Sim.zeroValue {ρ : Ren} (hZ : ZeroOk P S) (t : TypeId) : Sim P S N0 ρ (fun ρ' x y => x = y /\ ∀ ρ'', VRel S ρ'' x y) (Go.zeroValue t) (Go.zeroValue t) := by
 unfold Go.zeroValue
 refine Sim.bind (Sim.typeInfo t) fun ρ' i j _ h => ?_
 obtain ⟨h, rfl⟩ := h
 cases hz : j.zero with
 | none => exact Sim.halt
 | some z => exact Sim.pure fun _ _ => ⟨rfl, fun ρ'' => hZ t j z h hz ρ''⟩
theorem Sim.loadCellsFrom : ∀ (n : Nat) {ρ : Ren} {a b : Addr} (i : Nat) {as bs : Array Value}, AdR ρ a b -> AsRel S ρ as bs -> Sim P S N0 ρ (AsRel S) (Go.loadCellsFrom a i n as) (Go.loadCellsFrom b i n bs)
 | 0, ρ, a, b, i, as, bs, h, k => by unfold Go.loadCellsFrom; exact Sim.pure fun _ e => k.mono e
 | n + 1, ρ, a, b, i, as, bs, h, k => by
  unfold Go.loadCellsFrom
  exact Sim.bind (Sim.load (h.add i)) fun ρ' x y e hxy => Sim.loadCellsFrom n (i + 1) (h.mono e) ((k.mono e).push hxy)
theorem Sim.loadCells {ρ : Ren} {a b : Addr} (h : AdR ρ a b) (n : Nat) : Sim P S N0 ρ (AsRel S) (Go.loadCells a n) (Go.loadCells b n) := Sim.loadCellsFrom n 0 h .empty
inductive LsRel (S : FuncId -> Prop) (ρ : Ren) : List Value -> List Value -> Prop
 | nil : LsRel S ρ [] []
 | cons {x y : Value} {xs ys : List Value} : VRel S ρ x y -> LsRel S ρ xs ys -> LsRel S ρ (x :: xs) (y :: ys)
theorem LsRel.mono {ρ ρ' : Ren} {xs ys : List Value} (h : LsRel S ρ xs ys) (e : Ext ρ ρ') : LsRel S ρ' xs ys := by
 induction h with
 | nil => exact .nil
 | cons h _ ih => exact .cons (h.mono e) ih
theorem LsRel.of : ∀ {ρ : Ren} {xs ys : List Value}, xs.length = ys.length -> (∀ (i : Nat) (h : i < xs.length) (h' : i < ys.length), VRel S ρ xs[i] ys[i]) -> LsRel S ρ xs ys
 | ρ, [], [], _, _ => .nil
 | ρ, [], y :: ys, h, _ => by simp at h
 | ρ, x :: xs, [], h, _ => by simp at h
 | ρ, x :: xs, y :: ys, h, k => .cons (k 0 (by simp) (by simp)) (LsRel.of (by simpa using h) fun i h1 h2 => k (i + 1) (by simpa using h1) (by simpa using h2))
theorem AsRel.list {ρ : Ren} {as bs : Array Value} (h : AsRel S ρ as bs) : LsRel S ρ as.toList bs.toList := LsRel.of (by simpa using h.1) fun i h1 h2 => by
 have := h.2 i (by simpa using h1) (by simpa using h2)
 simpa using this
theorem LsRel.arr {ρ : Ren} {xs ys : List Value} (h : LsRel S ρ xs ys) : AsRel S ρ xs.toArray ys.toArray := by
 have key : xs.length = ys.length /\ ∀ (i : Nat) (h1 : i < xs.length) (h2 : i < ys.length), VRel S ρ xs[i] ys[i] := by
  induction h with
  | nil => exact ⟨rfl, fun i h => by simp at h⟩
  | cons h _ ih =>
   refine ⟨by simp [ih.1], fun i h1 h2 => ?_⟩
   cases i with
   | zero => exact h
   | succ i => exact ih.2 i (by simpa using h1) (by simpa using h2)
 exact ⟨by simpa using key.1, fun i h1 h2 => by simpa using key.2 i (by simpa using h1) (by simpa using h2)⟩
theorem Sim.storeCells {a b : Addr} : ∀ {xs ys : List Value} {ρ : Ren} (i : Nat), AdR ρ a b -> LsRel S ρ xs ys -> Sim P S N0 ρ TrueR (Go.storeCells a xs i) (Go.storeCells b ys i)
 | [], _, ρ, i, h, .nil => by unfold Go.storeCells; exact Sim.pure fun _ _ => trivial
 | x :: xs, _, ρ, i, h, .cons hx hs => by
  unfold Go.storeCells
  exact Sim.bind (Sim.store (h.add i) hx) fun ρ' _ _ e _ => Sim.storeCells (i + 1) (h.mono e) (hs.mono e)
theorem Sim.loadVar {ρ : Ren} {a b : Addr} (t : TypeId) (h : AdR ρ a b) : Sim P S N0 ρ (VRel S) (Go.loadVar t a) (Go.loadVar t b) := by
 unfold Go.loadVar
 refine Sim.bind (Sim.isAgg t) fun ρ1 x y e1 hxy => ?_
 obtain rfl : x = y := hxy
 cases x with
 | false => exact Sim.load (h.mono e1)
 | true =>
  refine Sim.bind (Sim.sizeOf t) fun ρ2 m n e2 hmn => ?_
  obtain rfl : m = n := hmn
  exact Sim.bind (Sim.loadCells ((h.mono e1).mono e2) m) fun ρ3 as bs e3 hab => Sim.pure fun _ e4 => .agg _ _ hab.1 (hab.mono e4).2
theorem Sim.storeVar {ρ : Ren} {a b : Addr} {x y : Value} (t : TypeId) (h : AdR ρ a b) (hxy : VRel S ρ x y) : Sim P S N0 ρ TrueR (Go.storeVar t a x) (Go.storeVar t b y) := by
 unfold Go.storeVar
 refine Sim.bind (Sim.sizeOf t) fun ρ1 m n e1 hmn => ?_
 obtain rfl : m = n := hmn
 rw [hxy.cells.1]
 split
 ·exact Sim.halt
 ·exact Sim.storeCells 0 (h.mono e1) (hxy.mono e1).cells.list
theorem Sim.newVar {ρ : Ren} {x y : Value} (t : TypeId) (hxy : VRel S ρ x y) : Sim P S N0 ρ (AdN N0) (Go.newVar t x) (Go.newVar t y) := Sim.newRow hxy.cells
theorem Sim.part {ρ : Ren} {as bs : Array Value} (t : TypeId) (h : AsRel S ρ as bs) (off : Nat) : Sim P S N0 ρ (VRel S) (Go.part t as off) (Go.part t bs off) := by
 unfold Go.part
 refine Sim.bind (Sim.isAgg t) fun ρ1 x y e1 hxy => ?_
 obtain rfl : x = y := hxy
 cases x with
 | true =>
  refine Sim.bind (Sim.sizeOf t) fun ρ2 m n e2 hmn => ?_
  obtain rfl : m = n := hmn
  exact Sim.pure fun _ e3 => by
   have := ((((h.mono e1).mono e2).mono e3).extract off (off + m))
   exact .agg _ _ this.1 this.2
 | false =>
  cases hx : as[off]? with
  | none => exact Sim.halt
  | some u =>
   obtain ⟨u', h1, h2⟩ := h.get hx
   simp only [h1]
   exact Sim.pure fun _ e3 => (h2.mono e1).mono e3
theorem Sim.asIntOf {ρ : Ren} {x y : Value} (h : VRel S ρ x y) : Sim P S N0 ρ EqR (Go.asIntOf x) (Go.asIntOf y) := by
 cases h <;> first | exact Sim.halt | exact Sim.pure fun _ _ => rfl
theorem Sim.asInt {ρ : Ren} {x y : Value} (h : VRel S ρ x y) : Sim P S N0 ρ EqR (Go.asInt x) (Go.asInt y) := by
 unfold Go.asInt
 exact Sim.bind (Sim.asIntOf h) fun ρ1 x y e1 hxy => by obtain rfl : x = y := hxy; exact Sim.pure fun _ _ => rfl
theorem Sim.asBool {ρ : Ren} {x y : Value} (h : VRel S ρ x y) : Sim P S N0 ρ EqR (Go.asBool x) (Go.asBool y) := by
 cases h <;> first | exact Sim.halt | exact Sim.pure fun _ _ => rfl
theorem Sim.asAgg {ρ : Ren} {x y : Value} (h : VRel S ρ x y) : Sim P S N0 ρ (AsRel S) (Go.asAgg x) (Go.asAgg y) := by
 cases h <;> first | exact Sim.halt | skip
 rename_i as bs h1 h2
 exact Sim.pure fun _ e => (show AsRel S ρ as bs from ⟨h1, h2⟩).mono e
def NoOk (P : Program) (t : Sem α) : Prop := ∀ v a v', t.run P v ≠ .ok a v'
theorem NoOk.halt (h : Halt) : NoOk P (.halt h : Sem α) := fun v a v' hr => by
 have hr : Result.halt h v = .ok a v' := hr
 cases hr
theorem NoOk.bind {t : Sem α} {f : α -> Sem β} (h : ∀ a, NoOk P (f a)) : NoOk P (t >>= f) := fun v c v' hr => by
 have hr : (t.bind f).run P v = .ok c v' := hr
 rw [Sem.run_bind'] at hr
 cases ht : t.run P v with
 | halt x y => rw [ht] at hr; cases hr
 | ok a v1 => rw [ht] at hr; exact h a v1 c v' hr
theorem NoOk.first {t : Sem α} {f : α -> Sem β} (h : NoOk P t) : NoOk P (t >>= f) := fun v c v' hr => by
 have hr : (t.bind f).run P v = .ok c v' := hr
 rw [Sem.run_bind'] at hr
 cases ht : t.run P v with
 | halt x y => rw [ht] at hr; cases hr
 | ok a v1 => exact h v a v1 ht
theorem Sim.noOk {ρ : Ren} {A : Ren -> α -> β -> Prop} {t : Sem α} {t' : Sem β} (h : NoOk P t) : Sim P S N0 ρ A t t' := fun ρ₁ v w e1 hw u v' hr => absurd hr (h v u v')
theorem NoOk.runtimePanic (e : RuntimeError) : NoOk P (Go.runtimePanic e : Sem α) := by
 unfold Go.runtimePanic
 refine NoOk.bind fun p => ?_
 cases e with
 | typeAssertion => exact NoOk.bind fun _ => NoOk.bind fun _ => NoOk.halt _
 | panicNil => exact NoOk.bind fun _ => NoOk.bind fun _ => NoOk.halt _
 | _ => exact NoOk.halt _
theorem NoOk.boundsPanic (k : IntKind) (x y : Int) (c : BoundsCode) : NoOk P (Go.boundsPanic k x y c : Sem α) := by
 unfold Go.boundsPanic
 simp only
 split <;> exact NoOk.bind fun _ => NoOk.runtimePanic _
end
end
section
open Go Go.Conc
def fineH : Halt -> Bool
 | .panic _ | .stuck _ => true
 | .unsupported (.initOrder _) => false
 | .unsupported _ => true
 | _ => false
def plainO : Obj -> Bool
 | .cells .. | .number .. | .stringIter .. | .coro .. => true
 | _ => false
def Plain (v : World) : Prop := ∀ (b : Nat) (o : Obj), v.heap[b]? = some o -> plainO o = true
def Fin (P : Program) {α : Type} : Sem α -> Prop
 | .pure _ => True
 | .load _ _ k => ∀ v, Fin P (k v)
 | .store _ _ _ k => Fin P k
 | .new o k => plainO o = true /\ ∀ n, Fin P (k n)
 | .shape _ k => ∀ s, Fin P (k s)
 | .freeze _ _ k => Fin P k
 | .frozen _ k => ∀ b, Fin P (k b)
 | .getObj _ k => ∀ o, plainO o = true -> Fin P (k o)
 | .setObj _ o k => plainO o = true /\ Fin P k
 | .choose _ k => ∀ n, Fin P (k n)
 | .sys _ k => ∀ r, Fin P (k r) /\ NoOk P (k r)
 | .program k => Fin P (k P)
 | .mark _ k => Fin P k
 | .halt h => fineH h = true
section
variable {α β : Type} {P : Program}
theorem Fin.bind : ∀ {t : Sem α} {f : α -> Sem β}, Fin P t -> (∀ a, Fin P (f a)) -> Fin P (t >>= f) := by
 intro t
 induction t with
 | pure a => intro f _ k; exact k a
 | load m a c ih => intro f h k; exact fun v => ih v (h v) k
 | store m a v c ih => intro f h k; exact ih h k
 | new o c ih => intro f h k; exact ⟨h.1, fun n => ih n (h.2 n) k⟩
 | shape r c ih => intro f h k; exact fun s => ih s (h s) k
 | freeze a n c ih => intro f h k; exact ih h k
 | frozen a c ih => intro f h k; exact fun s => ih s (h s) k
 | getObj r c ih => intro f h k; exact fun o ho => ih o (h o ho) k
 | setObj r o c ih => intro f h k; exact ⟨h.1, ih h.2 k⟩
 | choose q c ih => intro f h k; exact fun s => ih s (h s) k
 | sys c _ ih => intro f h k; exact fun r => ⟨ih r (h r).1 k, NoOk.first (h r).2⟩
 | program c ih => intro f h k; exact ih P h k
 | mark m c ih => intro f h k; exact ih h k
 | halt x => intro f h k; exact h
theorem Plain.set {v : World} (h : Plain v) {b : Nat} {o : Obj} (ho : plainO o = true) : Plain { v with heap := v.heap.setIfInBounds b o } := fun c x hx => by
 rw [Array.getElem?_setIfInBounds] at hx
 split at hx
 ·split at hx
  ·cases hx; exact ho
  ·cases hx
 ·exact h c x hx
theorem Plain.push {v : World} (h : Plain v) {o : Obj} (ho : plainO o = true) : Plain { v with heap := v.heap.push o } := fun c x hx => by
 have hx : (v.heap.push o)[c]? = some x := hx
 rw [Array.getElem?_push] at hx
 split at hx
 ·cases hx; exact ho
 ·exact h c x hx
theorem Plain.setCell {v : World} (h : Plain v) (a : Addr) (x : Value) : Plain (v.setCell a x) := fun c y hy => by
 unfold World.setCell at hy
 simp only [Array.getElem?_modify] at hy
 split at hy
 ·obtain ⟨o, h1, h2⟩ := Option.map_eq_some_iff.1 hy
  have := h c o h1
  rw [<- h2]
  cases o <;> first | rfl | (cases this)
 ·exact h c y hy
theorem Plain.freeze {v : World} (h : Plain v) (a : Addr) (n : Nat) : Plain (v.freeze a n) := fun c y hy => by
 unfold World.freeze at hy
 split at hy
 ·exact h c y hy
 simp only [Array.getElem?_modify] at hy
 split at hy
 ·obtain ⟨o, h1, h2⟩ := Option.map_eq_some_iff.1 hy
  have := h c o h1
  rw [<- h2]
  cases o <;> first | rfl | (cases this)
 ·exact h c y hy
theorem Plain.noCell {v : World} (h : Plain v) (a : Addr) (s : String) : fineH (v.noCell a s) = true := by
 unfold World.noCell
 cases hb : v.heap[a.block]? with
 | none => rfl
 | some o =>
  have := h _ _ hb
  cases o <;> first | rfl | (cases this)
theorem Plain.farLoad {v : World} (h : Plain v) (a : Addr) (m : Bool) : ∃ s, v.farLoad P a m = .error (v.noCell a s) := by
 unfold World.farLoad
 cases hb : v.heap[a.block]? with
 | none => exact ⟨_, rfl⟩
 | some o =>
  have := h _ _ hb
  cases o <;> first | exact ⟨_, rfl⟩ | (cases this)
theorem Plain.farStore {v : World} (h : Plain v) (a : Addr) (x : Value) (m : Bool) : ∃ s, v.farStore P a x m = .error (v.noCell a s) := by
 unfold World.farStore
 cases hb : v.heap[a.block]? with
 | none => exact ⟨_, rfl⟩
 | some o =>
  have := h _ _ hb
  cases o <;> first | exact ⟨_, rfl⟩ | (cases this)
theorem ask_heap {γ : Type} (a : Ask γ) : ∀ w : World, (w.ask a).2.heap = w.heap := by
 induction a with
 | done x => intro w; rfl
 | ask what range k ih =>
  intro w
  unfold World.ask
  simp only
  split
  ·exact ih _ w
  ·exact ih _ _
theorem sys_heap (w : World) (c : Sys) : (w.sys c).2.heap = w.heap := by
 unfold World.sys
 have := ask_heap (Kernel.perform c w.os) w
 split
 ·rfl
 ·rename_i heq
  rw [heq] at this
  exact this
theorem Plain.sys {v : World} (h : Plain v) (c : Sys) : Plain (v.sys c).2 := fun b o ho => h b o (by rw [sys_heap] at ho; exact ho)
def FinR {α : Type} : Result α -> Prop
 | .ok _ v => Plain v
 | .halt h _ => fineH h = true
theorem fin_run : ∀ {t : Sem α} {v : World}, Fin P t -> Plain v -> FinR (t.run P v) := by
 intro t
 induction t with
 | pure a => intro v _ h; exact h
 | load m a c ih =>
  intro v hf h
  unfold Sem.run
  cases hc : v.cell? a with
  | some x => exact ih x (hf x) h
  | none =>
   obtain ⟨s, hs⟩ := h.farLoad (P := P) a (m == .atomic)
   simp only [hs]
   exact h.noCell a s
 | store m a x c ih =>
  intro v hf h
  have key : FinR (match v.cell? a with
    | some _ => if v.frozen? a then .halt (.unsupported (.unsafePointer "a write to bytes that a string shares")) v else c.run P (v.setCell a x)
    | none => match v.farStore P a x (m == .atomic) with
     | .ok (w, _) => c.run P w
     | .error h => .halt h v) := by
   cases hc : v.cell? a with
   | some y =>
    simp only
    split
    ·rfl
    ·exact ih hf (h.setCell a x)
   | none =>
    obtain ⟨s, hs⟩ := h.farStore (P := P) a x (m == .atomic)
    simp only [hs]
    exact h.noCell a s
  cases x <;> first | exact key | rfl
 | new o c ih => intro v hf h; exact ih _ (hf.2 _) (h.push hf.1)
 | shape r c ih => intro v hf h; exact ih _ (hf _) h
 | freeze a n c ih => intro v hf h; exact ih hf (h.freeze a n)
 | frozen a c ih => intro v hf h; exact ih _ (hf _) h
 | getObj r c ih =>
  intro v hf h
  unfold Sem.run
  split
  ·rfl
  ·rename_i o ho _
   exact ih _ (hf _ (h _ _ ‹_›)) h
  ·rfl
 | setObj r o c ih =>
  intro v hf h
  unfold Sem.run
  split
  ·rfl
  ·exact ih hf.2 (h.set hf.1)
  ·rfl
 | choose q c ih =>
  intro v hf h
  unfold Sem.run
  split
  ·exact ih _ (hf _) h
  ·exact ih _ (hf _) h
 | sys c _ ih => intro v hf h; exact ih _ (hf _).1 (h.sys c)
 | program c ih => intro v hf h; exact ih _ hf h
 | mark m c ih => intro v hf h; exact ih hf h
 | halt x => intro v hf h; exact hf
end
end
section
open Go Go.Conc
section
variable {P : Program} {S : FuncId -> Prop} {N0 : Nat} {α β γ δ : Type}
theorem Sim.behindNumber {ρ : Ren} {a b : Addr} (h : AdR ρ a b) : Sim P S N0 ρ (fun ρ' x y => AdR ρ' x.1 y.1 /\ x.2 = y.2) (Go.behindNumber a) (Go.behindNumber b) := by
 unfold Go.behindNumber
 refine Sim.bind (Sim.numberAt h.1) fun ρ1 x y e1 hxy => Sim.pure fun ρ2 e2 => ?_
 rcases hxy with ⟨rfl, rfl⟩ | ⟨u, v, l, rfl, rfl, huv⟩
 ·exact ⟨(h.mono e1).mono e2, rfl⟩
 ·exact ⟨huv.mono e2, rfl⟩
theorem Sim.asNumber {ρ : Ren} {a b : Addr} (l : Bool) (h : AdR ρ a b) : Sim P S N0 ρ (VRel S) (Go.asNumber a l) (Go.asNumber b l) := by
 unfold Go.asNumber
 exact Sim.bind (Sim.newObj (.inr (.inl ⟨a, b, l, rfl, rfl, h⟩))) fun ρ1 x y e1 hxy => Sim.pure fun ρ2 e2 => .ptr _ _ _ _ (e2 _ _ hxy.1)
theorem Sim.noView {ρ : Ren} {a b : Addr} (h : AdR ρ a b) : Sim P S N0 ρ TrueR (Go.noView a) (Go.noView b) := by
 unfold Go.noView
 refine Sim.bind (Sim.viewAt h.1) fun ρ1 x y e1 hxy => ?_
 obtain ⟨rfl, rfl⟩ := hxy
 exact Sim.pure fun _ _ => trivial
theorem Sim.byteOf {ρ : Ren} {a b : Addr} (h : AdR ρ a b) : Sim P S N0 ρ EqR (Go.byteOf a) (Go.byteOf b) := by
 unfold Go.byteOf
 rw [<- h.2.2, <- h.2.1]
 cases a.spot with
 | some s => exact Sim.pure fun _ _ => rfl
 | none =>
  refine Sim.bind Sim.program fun ρ1 p q e1 hp => ?_
  obtain ⟨rfl, rfl⟩ := hp
  refine Sim.bind (Sim.noView (h.mono e1)) fun ρ2 _ _ e2 _ => ?_
  refine Sim.bind (Sim.shape ((h.mono e1).mono e2).1) fun ρ3 x y e3 hxy => ?_
  obtain rfl : x = y := hxy
  cases x with
  | none => exact Sim.halt
  | some z =>
   simp only
   split
   ·exact Sim.pure fun _ _ => rfl
   ·cases byteOfCell q q.depth z.1 (a.off % q.cellsOf z.1) with
    | none => exact Sim.halt
    | some n => exact Sim.pure fun _ _ => rfl
def PtR (ρ : Ren) (x y : Value) : Prop := ∃ a b, x = .pointer (some a) /\ y = .pointer (some b) /\ AdR ρ a b
theorem PtR.vrel {ρ : Ren} {x y : Value} (h : PtR ρ x y) : VRel S ρ x y := by
 obtain ⟨a, b, rfl, rfl, h⟩ := h
 exact h.ptr
theorem Sim.unsafeAdd {ρ : Ren} {x y z z' : Value} (t : TypeId) (h : VRel S ρ x y) (hz : VRel S ρ z z') : Sim P S N0 ρ PtR (Builtin.unsafeAdd_ #[] t #[x, z]) (Builtin.unsafeAdd_ #[] t #[y, z']) := by
 unfold Builtin.unsafeAdd_
 cases h <;> first | exact Sim.halt | skip
 ·refine Sim.bind (Sim.asInt hz) fun ρ1 m n e1 hmn => ?_
  obtain rfl : m = n := hmn
  refine Sim.ite (fun _ => Sim.halt) fun _ => Sim.ite (fun _ => Sim.halt) fun _ => Sim.halt
 ·rename_i b c off sp hbc
  have had : AdR ρ ⟨b, off, sp⟩ ⟨c, off, sp⟩ := ⟨hbc, rfl, rfl⟩
  refine Sim.bind (Sim.asInt hz) fun ρ1 m n e1 hmn => ?_
  obtain rfl : m = n := hmn
  have had1 := had.mono e1
  refine Sim.ite (fun _ => ?_) fun _ => Sim.ite (fun _ => Sim.halt) fun _ => ?_
  ·refine Sim.bind (Sim.viewAt had1.1) fun ρ2 u v e2 huv => ?_
   obtain ⟨rfl, rfl⟩ := huv
   exact Sim.pure fun ρ3 e3 => ⟨_, _, rfl, rfl, (had1.mono e2).mono e3⟩
  ·refine Sim.bind (Sim.shape had1.1) fun ρ2 u v e2 huv => ?_
   obtain rfl : u = v := huv
   cases u with
   | none => exact Sim.halt
   | some s =>
    refine Sim.bind Sim.program fun ρ3 p q e3 hp => ?_
    obtain ⟨rfl, rfl⟩ := hp
    cases cellAtBytes q q.depth s.1 (s.2 / q.cellsOf s.1) off m with
    | none => exact Sim.halt
    | some o => exact Sim.pure fun ρ4 e4 => ⟨_, _, rfl, rfl, e4 _ _ (e3 _ _ (e2 _ _ had1.1)), rfl, rfl⟩
theorem Sim.sureAddr {ρ : Ren} {x y : Value} (h : VRel S ρ x y) : Sim P S N0 ρ AdR (Instr.sureAddr x) (Instr.sureAddr y) := by
 cases h <;> first | exact Sim.halt | skip
 rename_i b c off sp hbc
 exact Sim.pure fun ρ' e => ⟨e _ _ hbc, rfl, rfl⟩
theorem Sim.asAddr {ρ : Ren} {x y : Value} (h : VRel S ρ x y) : Sim P S N0 ρ AdR (Go.asAddr x) (Go.asAddr y) := by
 cases h <;> first | exact Sim.halt | exact Sim.noOk (NoOk.runtimePanic _) | skip
 rename_i b c off sp hbc
 exact Sim.pure fun ρ' e => ⟨e _ _ hbc, rfl, rfl⟩
theorem Sim.loadAt {ρ : Ren} {x y : Value} (t : TypeId) (h : VRel S ρ x y) : Sim P S N0 ρ (VRel S) (Instr.loadAt t x) (Instr.loadAt t y) :=
 Sim.bind (Sim.sureAddr h) fun _ _ _ _ hab => Sim.loadVar t hab
theorem Sim.storeAt {ρ : Ren} {x y z z' : Value} (t : TypeId) (h : VRel S ρ x y) (hz : VRel S ρ z z') : Sim P S N0 ρ TrueR (Instr.storeAt t x z) (Instr.storeAt t y z') :=
 Sim.bind (Sim.sureAddr h) fun _ _ _ e hab => Sim.storeVar t hab (hz.mono e)
theorem Sim.partAt {ρ : Ren} {a b : Addr} (h : AdR ρ a b) (cells bytes : Nat) : Sim P S N0 ρ AdR (Go.partAt a cells bytes) (Go.partAt b cells bytes) := by
 unfold Go.partAt
 refine Sim.bind (Sim.byteOf h) fun ρ1 m n e1 hmn => ?_
 obtain rfl : m = n := hmn
 have hp : AdR ρ1 { block := a.block, off := a.off + cells } { block := b.block, off := b.off + cells } := ⟨e1 _ _ h.1, by simp [h.2.1], rfl⟩
 refine Sim.bind (Sim.byteOf hp) fun ρ2 k l e2 hkl => ?_
 obtain rfl : k = l := hkl
 refine Sim.pure fun ρ3 e3 => ?_
 split
 ·exact (hp.mono e2).mono e3
 ·exact ⟨e3 _ _ (e2 _ _ hp.1), hp.2.1, rfl⟩
theorem Sim.fieldPlace {ρ : Ren} {a b : Addr} (h : AdR ρ a b) (f : Field) : Sim P S N0 ρ AdR (Go.fieldPlace a f) (Go.fieldPlace b f) := by
 unfold Go.fieldPlace
 refine Sim.bind (Sim.sizeOf f.type) fun ρ1 m n e1 hmn => ?_
 obtain rfl : m = n := hmn
 split
 ·exact Sim.partAt (h.mono e1) _ _
 ·exact Sim.pure fun ρ2 e2 => ((h.mono e1).mono e2).add _
theorem Sim.fieldAt {ρ : Ren} {x y : Value} (s : TypeId) (h : VRel S ρ x y) (f : Nat) : Sim P S N0 ρ (VRel S) (Instr.fieldAt s x f) (Instr.fieldAt s y f) := by
 unfold Instr.fieldAt
 refine Sim.bind (Sim.underlying s) fun ρ1 d d' e1 hd => ?_
 obtain ⟨_, rfl⟩ := hd
 cases d' with
 | struct fields =>
  simp only
  cases fields[f]? with
  | none => exact Sim.halt
  | some fd => exact Sim.bind (Sim.sureAddr (h.mono e1)) fun ρ2 a b e2 hab => Sim.bind (Sim.fieldPlace hab fd) fun ρ3 a b e3 hab => Sim.pure fun ρ4 e4 => (hab.mono e4).ptr
 | _ => exact Sim.halt
theorem Sim.field {ρ : Ren} {x y : Value} (s : TypeId) (h : VRel S ρ x y) (f : Nat) : Sim P S N0 ρ (VRel S) (Instr.field s x f) (Instr.field s y f) := by
 unfold Instr.field
 refine Sim.bind (Sim.underlying s) fun ρ1 d d' e1 hd => ?_
 obtain ⟨_, rfl⟩ := hd
 cases d' with
 | struct fields =>
  simp only
  cases fields[f]? with
  | none => exact Sim.halt
  | some fd => exact Sim.bind (Sim.asAgg (h.mono e1)) fun ρ2 as bs e2 hab => Sim.part _ hab _
 | _ => exact Sim.halt
theorem Sim.extract {ρ : Ren} {x y : Value} (h : VRel S ρ x y) (i : Nat) : Sim P S N0 ρ (VRel S) (Instr.extract x i) (Instr.extract y i) := by
 cases h <;> first | exact Sim.halt | skip
 rename_i as bs h1 h2
 unfold Instr.extract
 simp only
 cases hx : as[i]? with
 | none => exact Sim.halt
 | some u =>
  obtain ⟨u', k1, k2⟩ := (show AsRel S ρ as bs from ⟨h1, h2⟩).get hx
  simp only [k1]
  exact Sim.pure fun _ e => k2.mono e
theorem Sim.index {ρ : Ren} {x y i j : Value} (t : TypeId) (h : VRel S ρ x y) (hi : VRel S ρ i j) : Sim P S N0 ρ (VRel S) (Instr.index t x i) (Instr.index t y j) := by
 unfold Instr.index
 refine Sim.bind (Sim.asIntOf hi) fun ρ1 m n e1 hmn => ?_
 obtain rfl : m = n := hmn
 refine Sim.bind (Sim.underlying t) fun ρ2 d d' e2 hd => ?_
 obtain ⟨_, rfl⟩ := hd
 have h := (h.mono e1).mono e2
 cases d' <;> cases h <;> first | exact Sim.halt | skip
 ·simp only
  split
  ·exact Sim.pure fun _ _ => .int _ _
  ·exact Sim.noOk (NoOk.boundsPanic _ _ _ _)
 ·rename_i as bs h1 h2
  simp only
  split
  ·refine Sim.bind (Sim.sizeOf _) fun ρ3 k l e3 hkl => ?_
   obtain rfl : k = l := hkl
   exact Sim.part _ ((show AsRel S ρ2 as bs from ⟨h1, h2⟩).mono e3) _
  ·exact Sim.noOk (NoOk.boundsPanic _ _ _ _)
theorem Sim.indexAt {ρ : Ren} {x y i j : Value} (t : TypeId) (h : VRel S ρ x y) (hi : VRel S ρ i j) : Sim P S N0 ρ (VRel S) (Instr.indexAt t x i) (Instr.indexAt t y j) := by
 unfold Instr.indexAt
 refine Sim.bind (Sim.asIntOf hi) fun ρ1 m n e1 hmn => ?_
 obtain rfl : m = n := hmn
 refine Sim.bind (Sim.underlying t) fun ρ2 d d' e2 hd => ?_
 obtain ⟨_, rfl⟩ := hd
 have h := (h.mono e1).mono e2
 have key : ∀ ρ3 (u v : Option Addr) (len : Nat) (elem : TypeId), ((u = none /\ v = none) ∨ (∃ a b, u = some a /\ v = some b /\ AdR ρ3 a b) ∨ ∃ a, u = some a /\ v = some a /\ len = 0) -> Sim P S N0 ρ3 (VRel S)
   (Go.underlying t >>= fun d => match u with
    | some a => if 0 <= m.snd /\ m.snd < ↑len then (Go.sizeOf elem >>= fun s => Pure.pure (Value.pointer (some (a.add (m.snd.toNat * s))))) else
      if (decide (len <= 1) && match d with | .array len elem => true | x => false) = true then unsupported (.noEntry "op/indexAddr.an index out of range at an array of length 0 or 1 (ledger 616)") else boundsPanic m.fst m.snd (↑len) .index
    | none => boundsPanic m.fst m.snd 0 .index)
   (Go.underlying t >>= fun d => match v with
    | some a => if 0 <= m.snd /\ m.snd < ↑len then (Go.sizeOf elem >>= fun s => Pure.pure (Value.pointer (some (a.add (m.snd.toNat * s))))) else
      if (decide (len <= 1) && match d with | .array len elem => true | x => false) = true then unsupported (.noEntry "op/indexAddr.an index out of range at an array of length 0 or 1 (ledger 616)") else boundsPanic m.fst m.snd (↑len) .index
    | none => boundsPanic m.fst m.snd 0 .index) := fun ρ3 u v len elem huv => by
  refine Sim.bind (Sim.underlying t) fun ρ4 d d' e4 hd => ?_
  obtain ⟨_, rfl⟩ := hd
  rcases huv with ⟨rfl, rfl⟩ | ⟨a, b, rfl, rfl, hab⟩ | ⟨a, rfl, rfl, rfl⟩
  rotate_left 2
  ·refine Sim.ite (fun hc => absurd hc (by omega)) fun _ => Sim.ite (fun _ => Sim.halt) fun _ => Sim.noOk (NoOk.boundsPanic _ _ _ _)
  ·exact Sim.noOk (NoOk.boundsPanic _ _ _ _)
  ·refine Sim.ite (fun _ => ?_) fun _ => Sim.ite (fun _ => Sim.halt) fun _ => Sim.noOk (NoOk.boundsPanic _ _ _ _)
   refine Sim.bind (Sim.sizeOf elem) fun ρ5 k l e5 hkl => ?_
   obtain rfl : k = l := hkl
   exact Sim.pure fun ρ6 e6 => ((((hab.mono e4).mono e5).mono e6).add _).ptr
 cases d' with
 | array len elem => exact Sim.bind (Sim.sureAddr h) fun ρ3 a b e3 hab => key ρ3 (some a) (some b) len elem (.inr (.inl ⟨a, b, rfl, rfl, hab⟩))
 | slice elem =>
  cases h <;> first | exact Sim.halt | skip
  ·rename_i n k
   exact key ρ2 none none n elem (.inl ⟨rfl, rfl⟩)
  ·rename_i b c off sp n k hbc
   exact key ρ2 (some ⟨b, off, sp⟩) (some ⟨c, off, sp⟩) n elem (.inr (.inl ⟨_, _, rfl, rfl, hbc, rfl, rfl⟩))
  ·rename_i a
   exact key ρ2 (some a) (some a) 0 elem (.inr (.inr ⟨_, rfl, rfl, rfl⟩))
 | _ => cases h <;> exact Sim.halt
theorem Sim.sliceBound {ρ : Ren} {x y : Value} (h : VRel S ρ x y) (n : Nat) (c : BoundsCode) : Sim P S N0 ρ EqR (Instr.sliceBound x n c) (Instr.sliceBound y n c) := by
 unfold Instr.sliceBound
 refine Sim.bind (Sim.asIntOf h) fun ρ1 k l e1 hkl => ?_
 obtain rfl : k = l := hkl
 exact Sim.ite (fun _ => Sim.pure fun _ _ => rfl) fun _ => Sim.noOk (NoOk.boundsPanic _ _ _ _)
def OpR (S : FuncId -> Prop) (ρ : Ren) (x y : Option Value) : Prop := (x = none /\ y = none) ∨ ∃ a b, x = some a /\ y = some b /\ VRel S ρ a b
theorem OpR.mono {ρ ρ' : Ren} {x y : Option Value} (h : OpR S ρ x y) (e : Ext ρ ρ') : OpR S ρ' x y := by
 rcases h with h | ⟨a, b, h1, h2, h3⟩
 ·exact .inl h
 ·exact .inr ⟨a, b, h1, h2, h3.mono e⟩
theorem Sim.sliceBounds {ρ : Ren} {lo lo' hi hi' mx mx' : Option Value} (s : Bool) (len cap : Nat) (h1 : OpR S ρ lo lo') (h2 : OpR S ρ hi hi') (h3 : OpR S ρ mx mx') : Sim P S N0 ρ EqR (Instr.sliceBounds s len cap lo hi mx) (Instr.sliceBounds s len cap lo' hi' mx') := by
 unfold Instr.sliceBounds
 rcases h3 with ⟨rfl, rfl⟩ | ⟨a, b, rfl, rfl, hab⟩ <;> rcases h2 with ⟨rfl, rfl⟩ | ⟨c, d, rfl, rfl, hcd⟩ <;> rcases h1 with ⟨rfl, rfl⟩ | ⟨x, y, rfl, rfl, hx⟩
 ·refine Sim.bind (A := EqR) (Sim.pure fun _ _ => rfl) fun ρ1 m1 n1 e1 h1 => ?_
  obtain rfl : m1 = n1 := h1
  refine Sim.bind (A := EqR) (Sim.pure fun _ _ => rfl) fun ρ2 m2 n2 e2 h2 => ?_
  obtain rfl : m2 = n2 := h2
  refine Sim.bind (A := EqR) (Sim.pure fun _ _ => rfl) fun ρ3 m3 n3 e3 h3 => ?_
  obtain rfl : m3 = n3 := h3
  exact Sim.pure fun _ _ => rfl
 ·refine Sim.bind (A := EqR) (Sim.pure fun _ _ => rfl) fun ρ1 m1 n1 e1 h1 => ?_
  obtain rfl : m1 = n1 := h1
  refine Sim.bind (A := EqR) (Sim.pure fun _ _ => rfl) fun ρ2 m2 n2 e2 h2 => ?_
  obtain rfl : m2 = n2 := h2
  refine Sim.bind (Sim.sliceBound (hx.mono (e1.trans e2)) _ _) fun ρ3 m3 n3 e3 h3 => ?_
  obtain rfl : m3 = n3 := h3
  exact Sim.pure fun _ _ => rfl
 ·refine Sim.bind (A := EqR) (Sim.pure fun _ _ => rfl) fun ρ1 m1 n1 e1 h1 => ?_
  obtain rfl : m1 = n1 := h1
  refine Sim.bind (Sim.sliceBound (hcd.mono (e1)) _ _) fun ρ2 m2 n2 e2 h2 => ?_
  obtain rfl : m2 = n2 := h2
  refine Sim.bind (A := EqR) (Sim.pure fun _ _ => rfl) fun ρ3 m3 n3 e3 h3 => ?_
  obtain rfl : m3 = n3 := h3
  exact Sim.pure fun _ _ => rfl
 ·refine Sim.bind (A := EqR) (Sim.pure fun _ _ => rfl) fun ρ1 m1 n1 e1 h1 => ?_
  obtain rfl : m1 = n1 := h1
  refine Sim.bind (Sim.sliceBound (hcd.mono (e1)) _ _) fun ρ2 m2 n2 e2 h2 => ?_
  obtain rfl : m2 = n2 := h2
  refine Sim.bind (Sim.sliceBound (hx.mono (e1.trans e2)) _ _) fun ρ3 m3 n3 e3 h3 => ?_
  obtain rfl : m3 = n3 := h3
  exact Sim.pure fun _ _ => rfl
 ·refine Sim.bind (Sim.sliceBound hab _ _) fun ρ1 m n e1 hmn => ?_
  exact Sim.halt
 ·refine Sim.bind (Sim.sliceBound hab _ _) fun ρ1 m n e1 hmn => ?_
  exact Sim.halt
 ·refine Sim.bind (Sim.sliceBound (hab) _ _) fun ρ1 m1 n1 e1 h1 => ?_
  obtain rfl : m1 = n1 := h1
  refine Sim.bind (Sim.sliceBound (hcd.mono (e1)) _ _) fun ρ2 m2 n2 e2 h2 => ?_
  obtain rfl : m2 = n2 := h2
  refine Sim.bind (A := EqR) (Sim.pure fun _ _ => rfl) fun ρ3 m3 n3 e3 h3 => ?_
  obtain rfl : m3 = n3 := h3
  exact Sim.pure fun _ _ => rfl
 ·refine Sim.bind (Sim.sliceBound (hab) _ _) fun ρ1 m1 n1 e1 h1 => ?_
  obtain rfl : m1 = n1 := h1
  refine Sim.bind (Sim.sliceBound (hcd.mono (e1)) _ _) fun ρ2 m2 n2 e2 h2 => ?_
  obtain rfl : m2 = n2 := h2
  refine Sim.bind (Sim.sliceBound (hx.mono (e1.trans e2)) _ _) fun ρ3 m3 n3 e3 h3 => ?_
  obtain rfl : m3 = n3 := h3
  exact Sim.pure fun _ _ => rfl
theorem Sim.sliceBound0 {ρ : Ren} {x y : Value} (h : VRel S ρ x y) {n : Nat} (hn : n = 0) (c : BoundsCode) : Sim P S N0 ρ (fun _ (a b : Nat) => a = b /\ a = 0) (Instr.sliceBound x n c) (Instr.sliceBound y n c) := by
 unfold Instr.sliceBound
 refine Sim.bind (Sim.asIntOf h) fun ρ1 k l e1 hkl => ?_
 obtain rfl : k = l := hkl
 exact Sim.ite (fun hc => Sim.pure fun _ _ => ⟨rfl, by subst hn; omega⟩) fun _ => Sim.noOk (NoOk.boundsPanic _ _ _ _)
theorem Sim.sliceBounds0 {ρ : Ren} {lo lo' hi hi' mx mx' : Option Value} (s : Bool) (h1 : OpR S ρ lo lo') (h2 : OpR S ρ hi hi') (h3 : OpR S ρ mx mx') : Sim P S N0 ρ (fun _ p q => p = q /\ p.2.1 = 0 /\ p.2.2 = 0) (Instr.sliceBounds s 0 0 lo hi mx) (Instr.sliceBounds s 0 0 lo' hi' mx') := by
 unfold Instr.sliceBounds
 rcases h3 with ⟨rfl, rfl⟩ | ⟨a, b, rfl, rfl, hab⟩ <;> rcases h2 with ⟨rfl, rfl⟩ | ⟨c, d, rfl, rfl, hcd⟩ <;> rcases h1 with ⟨rfl, rfl⟩ | ⟨x, y, rfl, rfl, hx⟩
 ·refine Sim.bind (A := fun _ (a b : Nat) => a = b /\ a = 0) (Sim.pure fun _ _ => ⟨rfl, rfl⟩) fun ρ1 m1 n1 e1 h1 => ?_
  obtain ⟨rfl, z1⟩ := h1
  refine Sim.bind (A := fun _ (a b : Nat) => a = b /\ a = 0) (Sim.pure fun _ _ => ⟨rfl, rfl⟩) fun ρ2 m2 n2 e2 h2 => ?_
  obtain ⟨rfl, z2⟩ := h2
  refine Sim.bind (A := fun _ (a b : Nat) => a = b /\ a = 0) (Sim.pure fun _ _ => ⟨rfl, rfl⟩) fun ρ3 m3 n3 e3 h3 => ?_
  obtain ⟨rfl, z3⟩ := h3
  exact Sim.pure fun _ _ => ⟨rfl, z2, z1⟩
 ·refine Sim.bind (A := fun _ (a b : Nat) => a = b /\ a = 0) (Sim.pure fun _ _ => ⟨rfl, rfl⟩) fun ρ1 m1 n1 e1 h1 => ?_
  obtain ⟨rfl, z1⟩ := h1
  refine Sim.bind (A := fun _ (a b : Nat) => a = b /\ a = 0) (Sim.pure fun _ _ => ⟨rfl, rfl⟩) fun ρ2 m2 n2 e2 h2 => ?_
  obtain ⟨rfl, z2⟩ := h2
  refine Sim.bind (Sim.sliceBound0 (hx.mono (e1.trans e2)) z2 _) fun ρ3 m3 n3 e3 h3 => ?_
  obtain ⟨rfl, z3⟩ := h3
  exact Sim.pure fun _ _ => ⟨rfl, z2, z1⟩
 ·refine Sim.bind (A := fun _ (a b : Nat) => a = b /\ a = 0) (Sim.pure fun _ _ => ⟨rfl, rfl⟩) fun ρ1 m1 n1 e1 h1 => ?_
  obtain ⟨rfl, z1⟩ := h1
  refine Sim.bind (Sim.sliceBound0 (hcd.mono e1) z1 _) fun ρ2 m2 n2 e2 h2 => ?_
  obtain ⟨rfl, z2⟩ := h2
  refine Sim.bind (A := fun _ (a b : Nat) => a = b /\ a = 0) (Sim.pure fun _ _ => ⟨rfl, rfl⟩) fun ρ3 m3 n3 e3 h3 => ?_
  obtain ⟨rfl, z3⟩ := h3
  exact Sim.pure fun _ _ => ⟨rfl, z2, z1⟩
 ·refine Sim.bind (A := fun _ (a b : Nat) => a = b /\ a = 0) (Sim.pure fun _ _ => ⟨rfl, rfl⟩) fun ρ1 m1 n1 e1 h1 => ?_
  obtain ⟨rfl, z1⟩ := h1
  refine Sim.bind (Sim.sliceBound0 (hcd.mono e1) z1 _) fun ρ2 m2 n2 e2 h2 => ?_
  obtain ⟨rfl, z2⟩ := h2
  refine Sim.bind (Sim.sliceBound0 (hx.mono (e1.trans e2)) z2 _) fun ρ3 m3 n3 e3 h3 => ?_
  obtain ⟨rfl, z3⟩ := h3
  exact Sim.pure fun _ _ => ⟨rfl, z2, z1⟩
 ·refine Sim.bind (Sim.sliceBound hab _ _) fun ρ1 m n e1 hmn => ?_
  exact Sim.halt
 ·refine Sim.bind (Sim.sliceBound hab _ _) fun ρ1 m n e1 hmn => ?_
  exact Sim.halt
 ·refine Sim.bind (Sim.sliceBound0 hab rfl _) fun ρ1 m1 n1 e1 h1 => ?_
  obtain ⟨rfl, z1⟩ := h1
  refine Sim.bind (Sim.sliceBound0 (hcd.mono e1) z1 _) fun ρ2 m2 n2 e2 h2 => ?_
  obtain ⟨rfl, z2⟩ := h2
  refine Sim.bind (A := fun _ (a b : Nat) => a = b /\ a = 0) (Sim.pure fun _ _ => ⟨rfl, rfl⟩) fun ρ3 m3 n3 e3 h3 => ?_
  obtain ⟨rfl, z3⟩ := h3
  exact Sim.pure fun _ _ => ⟨rfl, z2, z1⟩
 ·refine Sim.bind (Sim.sliceBound0 hab rfl _) fun ρ1 m1 n1 e1 h1 => ?_
  obtain ⟨rfl, z1⟩ := h1
  refine Sim.bind (Sim.sliceBound0 (hcd.mono e1) z1 _) fun ρ2 m2 n2 e2 h2 => ?_
  obtain ⟨rfl, z2⟩ := h2
  refine Sim.bind (Sim.sliceBound0 (hx.mono (e1.trans e2)) z2 _) fun ρ3 m3 n3 e3 h3 => ?_
  obtain ⟨rfl, z3⟩ := h3
  exact Sim.pure fun _ _ => ⟨rfl, z2, z1⟩
theorem AdR.slice {ρ : Ren} {a b : Addr} (h : AdR ρ a b) (c : Prop) [Decidable c] (k n m : Nat) : VRel S ρ (.slice (some (if c then a else a.add k)) n m) (.slice (some (if c then b else b.add k)) n m) := by
 split
 ·exact h.sl n m
 ·exact (h.add k).sl n m
theorem Sim.slice {ρ : Ren} {x y : Value} {lo lo' hi hi' mx mx' : Option Value} (t : TypeId) (h : VRel S ρ x y) (h1 : OpR S ρ lo lo') (h2 : OpR S ρ hi hi') (h3 : OpR S ρ mx mx') : Sim P S N0 ρ (VRel S) (Instr.slice t x lo hi mx) (Instr.slice t y lo' hi' mx') := by
 unfold Instr.slice
 refine Sim.bind (Sim.underlying t) fun ρ1 d d' e1 hd => ?_
 obtain ⟨_, rfl⟩ := hd
 have h := h.mono e1
 have h1 := h1.mono e1
 have h2 := h2.mono e1
 have h3 := h3.mono e1
 have arr : ∀ n elem, (h : VRel S ρ1 x y) -> Sim P S N0 ρ1 (VRel S) (Go.asAddr x >>= fun a => Instr.sliceBounds false n n lo hi mx >>= fun p => match p with | (l, h, m) => Go.sizeOf elem >>= fun s => Pure.pure (.slice (some (if m = l then a else a.add (l * s))) (h - l) (m - l)))
   (Go.asAddr y >>= fun a => Instr.sliceBounds false n n lo' hi' mx' >>= fun p => match p with | (l, h, m) => Go.sizeOf elem >>= fun s => Pure.pure (.slice (some (if m = l then a else a.add (l * s))) (h - l) (m - l))) := fun n elem h => by
  refine Sim.bind (Sim.asAddr h) fun ρ2 a b e2 hab => ?_
  refine Sim.bind (Sim.sliceBounds false n n (h1.mono e2) (h2.mono e2) (h3.mono e2)) fun ρ3 p q e3 hpq => ?_
  obtain rfl : p = q := hpq
  refine Sim.bind (Sim.sizeOf elem) fun ρ4 k l e4 hkl => ?_
  obtain rfl : k = l := hkl
  exact Sim.pure fun ρ5 e5 => (((hab.mono e3).mono e4).mono e5).slice _ _ _ _
 cases d' with
 | string =>
  cases h <;> first | exact Sim.halt | skip
  have hmx : mx.isSome = mx'.isSome := by rcases h3 with ⟨rfl, rfl⟩ | ⟨a, b, rfl, rfl, _⟩ <;> rfl
  simp only [hmx]
  refine Sim.ite (fun _ => Sim.halt) fun _ => ?_
  refine Sim.bind (Sim.sliceBounds false _ _ h1 h2 (.inl ⟨rfl, rfl⟩)) fun ρ3 p q e3 hpq => ?_
  obtain rfl : p = q := hpq
  exact Sim.pure fun _ _ => .string _
 | slice elem =>
  cases h <;> first | exact Sim.halt | skip
  ·refine Sim.bind (Sim.sliceBounds true _ _ h1 h2 h3) fun ρ3 p q e3 hpq => ?_
   obtain rfl : p = q := hpq
   refine Sim.bind (Sim.sizeOf elem) fun ρ4 k l e4 hkl => ?_
   obtain rfl : k = l := hkl
   refine Sim.pure fun ρ5 e5 => ?_
   simp only [Option.map_none, ite_self]
   exact .nils _ _
  ·rename_i b c off sp n k hbc
   refine Sim.bind (Sim.sliceBounds true _ _ h1 h2 h3) fun ρ3 p q e3 hpq => ?_
   obtain rfl : p = q := hpq
   refine Sim.bind (Sim.sizeOf elem) fun ρ4 k l e4 hkl => ?_
   obtain rfl : k = l := hkl
   refine Sim.pure fun ρ5 e5 => ?_
   have had : AdR ρ5 ⟨b, off, sp⟩ ⟨c, off, sp⟩ := ⟨e5 _ _ (e4 _ _ (e3 _ _ hbc)), rfl, rfl⟩
   simp only [Option.map_some]
   split
   ·exact had.sl _ _
   ·exact (had.add _).sl _ _
  ·refine Sim.bind (Sim.sliceBounds0 true h1 h2 h3) fun ρ3 p q e3 hpq => ?_
   obtain ⟨rfl, z1, z2⟩ := hpq
   refine Sim.bind (Sim.sizeOf elem) fun ρ4 k l e4 hkl => ?_
   obtain rfl : k = l := hkl
   refine Sim.pure fun ρ5 e5 => ?_
   simp only [z1, z2, Option.map_some, Nat.zero_sub]
   split
   ·exact .sl0 _
   ·exact .sl0 _
 | pointer arr' =>
  refine Sim.bind (Sim.asAddr h) fun ρ2 a b e2 hab => ?_
  refine Sim.bind (Sim.underlying arr') fun ρ3 d d' e3 hd => ?_
  obtain ⟨_, rfl⟩ := hd
  cases d' with
  | array n elem =>
   refine Sim.bind (Sim.sliceBounds false n n ((h1.mono e2).mono e3) ((h2.mono e2).mono e3) ((h3.mono e2).mono e3)) fun ρ3 p q e3' hpq => ?_
   obtain rfl : p = q := hpq
   refine Sim.bind (Sim.sizeOf elem) fun ρ4 k l e4 hkl => ?_
   obtain rfl : k = l := hkl
   exact Sim.pure fun ρ5 e5 => ((((hab.mono e3).mono e3').mono e4).mono e5).slice _ _ _ _
  | _ => exact Sim.halt
 | _ => cases h <;> exact Sim.halt
theorem Sim.sliceAt {ρ : Ren} {x y : Value} {lo lo' hi hi' mx mx' : Option Value} (t : TypeId) (h : VRel S ρ x y) (h1 : OpR S ρ lo lo') (h2 : OpR S ρ hi hi') (h3 : OpR S ρ mx mx') : Sim P S N0 ρ (VRel S) (Instr.sliceAt t x lo hi mx) (Instr.sliceAt t y lo' hi' mx') := by
 unfold Instr.sliceAt
 refine Sim.bind (Sim.underlying t) fun ρ1 d d' e1 hd => ?_
 obtain ⟨_, rfl⟩ := hd
 cases d' with
 | array n elem =>
  refine Sim.bind (Sim.sureAddr (h.mono e1)) fun ρ2 a b e2 hab => ?_
  refine Sim.bind (Sim.sliceBounds false n n ((h1.mono e1).mono e2) ((h2.mono e1).mono e2) ((h3.mono e1).mono e2)) fun ρ3 p q e3 hpq => ?_
  obtain rfl : p = q := hpq
  refine Sim.bind (Sim.sizeOf elem) fun ρ4 k l e4 hkl => ?_
  obtain rfl : k = l := hkl
  exact Sim.pure fun ρ5 e5 => (((hab.mono e3).mono e4).mono e5).slice _ _ _ _
 | _ => exact Sim.slice t (h.mono e1) (h1.mono e1) (h2.mono e1) (h3.mono e1)
end
end
section
open Go Go.Conc
section
variable {P : Program} {S : FuncId -> Prop} {N0 : Nat} {α β γ δ σ : Type}
theorem Sim.alloc {ρ : Ren} (hZ : ZeroOk P S) (t : TypeId) : Sim P S N0 ρ (VRel S) (Instr.alloc t true (.tuple #[])) (Instr.alloc t true (.tuple #[])) := by
 unfold Instr.alloc
 refine Sim.bind (Sim.zeroValue hZ t) fun ρ1 x y e1 hxy => ?_
 obtain ⟨rfl, hx⟩ := hxy
 exact Sim.bind (Sim.newVar t (hx ρ1)) fun ρ2 a b e2 hab => Sim.pure fun ρ3 e3 => (hab.1.mono e3).ptr
theorem Sim.box {ρ : Ren} {x y : Value} (t : TypeId) (h : VRel S ρ x y) : Sim P S N0 ρ (VRel S) (Instr.box t x) (Instr.box t y) := by
 unfold Instr.box
 exact Sim.bind (Sim.newVar t h) fun ρ2 a b e2 hab => Sim.pure fun ρ3 e3 => (hab.1.mono e3).ptr
inductive PsRel (S : FuncId -> Prop) (ρ : Ren) : List (Nat × Value) -> List (Nat × Value) -> Prop
 | nil : PsRel S ρ [] []
 | cons {i : Nat} {x y : Value} {xs ys : List (Nat × Value)} : VRel S ρ x y -> PsRel S ρ xs ys -> PsRel S ρ ((i, x) :: xs) ((i, y) :: ys)
theorem PsRel.mono {ρ ρ' : Ren} {xs ys : List (Nat × Value)} (h : PsRel S ρ xs ys) (e : Ext ρ ρ') : PsRel S ρ' xs ys := by
 induction h with
 | nil => exact .nil
 | cons h _ ih => exact .cons (h.mono e) ih
theorem fold_rel {ρ : Ren} {off : Nat} : ∀ {xs ys : List Value} {cs ds : Array Value} (n : Nat), LsRel S ρ xs ys -> AsRel S ρ cs ds ->
  AsRel S ρ ((xs.zipIdx n).foldl (fun cs p => cs.setIfInBounds (off + p.2) p.1) cs) ((ys.zipIdx n).foldl (fun cs p => cs.setIfInBounds (off + p.2) p.1) ds)
 | _, _, cs, ds, n, .nil, h => h
 | _, _, cs, ds, n, .cons hx hs, h => by
  simp only [List.zipIdx_cons, List.foldl_cons]
  exact fold_rel (n + 1) hs (h.set _ hx)
theorem fill_rel {ρ : Ren} (place : Nat -> Option (Nat × Nat)) : ∀ {ps qs : List (Nat × Value)} {cs ds as : Array Value}, PsRel S ρ ps qs -> AsRel S ρ cs ds -> Instr.fill place cs ps = some as -> ∃ bs, Instr.fill place ds qs = some bs /\ AsRel S ρ as bs
 | _, _, cs, ds, as, .nil, h, hf => by
  unfold Instr.fill at hf ⊢
  injection hf with hf; subst hf
  exact ⟨ds, rfl, h⟩
 | _, _, cs, ds, as, .cons (i := i) (x := x) (y := y) hx hs, h, hf => by
  unfold Instr.fill at hf ⊢
  cases hp : place i with
  | none => rw [hp] at hf; cases hf
  | some p =>
   rw [hp] at hf
   simp only at hf ⊢
   rw [<- hx.cells.1, <- h.1]
   split at hf
   ·cases hf
   ·rename_i hc
    rw [if_neg hc]
    refine fill_rel place hs ?_ hf
    have key : ∀ cs xs : Array Value, Array.foldl (fun cs q => cs.setIfInBounds (p.1 + q.2) q.1) cs xs.zipIdx = List.foldl (fun cs q => cs.setIfInBounds (p.1 + q.2) q.1) cs xs.toList.zipIdx := fun cs xs => by
     rw [<- Array.toList_zipIdx, Array.foldl_toList]
    show AsRel S ρ (Array.foldl (fun cs q => cs.setIfInBounds (p.1 + q.2) q.1) cs x.cells.zipIdx) (Array.foldl (fun cs q => cs.setIfInBounds (p.1 + q.2) q.1) ds y.cells.zipIdx)
    rw [key, key]
    exact fold_rel (off := p.1) 0 hx.cells.list h
theorem Sim.listMapM {f : α -> Sem β} (h : ∀ (ρ : Ren) a, Sim P S N0 ρ EqR (f a) (f a)) : ∀ (l : List α) (ρ : Ren), Sim P S N0 ρ EqR (l.mapM f) (l.mapM f)
 | [], ρ => by rw [List.mapM_nil]; exact Sim.pure fun _ _ => rfl
 | a :: l, ρ => by
  rw [List.mapM_cons]
  refine Sim.bind (h ρ a) fun ρ1 x y e1 hxy => ?_
  obtain rfl : x = y := hxy
  refine Sim.bind (Sim.listMapM h l ρ1) fun ρ2 x y e2 hxy => ?_
  obtain rfl : x = y := hxy
  exact Sim.pure fun _ _ => rfl
theorem Sim.arrMapM {ρ : Ren} {f : α -> Sem β} (h : ∀ (ρ : Ren) a, Sim P S N0 ρ EqR (f a) (f a)) (l : Array α) : Sim P S N0 ρ EqR (l.mapM f) (l.mapM f) := by
 rw [Array.mapM_eq_mapM_toList, map_eq_pure_bind]
 refine Sim.bind (Sim.listMapM h l.toList ρ) fun ρ1 x y e1 hxy => ?_
 obtain rfl : x = y := hxy
 exact Sim.pure fun _ _ => rfl
theorem Sim.build {ρ : Ren} {ps qs : Array (Nat × Value)} (hZ : ZeroOk P S) (t : TypeId) (h : PsRel S ρ ps.toList qs.toList) : Sim P S N0 ρ (VRel S) (Instr.build t ps) (Instr.build t qs) := by
 unfold Instr.build
 refine Sim.bind (Sim.zeroValue hZ t) fun ρ1 x y e1 hxy => ?_
 obtain ⟨rfl, hx⟩ := hxy
 refine Sim.bind (Sim.underlying t) fun ρ2 d d' e2 hd => ?_
 obtain ⟨_, rfl⟩ := hd
 cases d' with
 | struct fields =>
  refine Sim.bind (Sim.arrMapM (fun ρ f => Sim.bind (Sim.sizeOf f.type) fun ρ' m n _ hmn => by obtain rfl : m = n := hmn; exact Sim.pure fun _ _ => rfl) fields) fun ρ3 u v e3 huv => ?_
  obtain rfl : u = v := huv
  cases hf : Instr.fill (u[·]?) x.cells ps.toList with
  | none => exact Sim.halt
  | some as =>
   obtain ⟨bs, h1, h2⟩ := fill_rel (u[·]?) (((h.mono e1).mono e2).mono e3) (hx ρ3).cells hf
   simp only [h1]
   exact Sim.pure fun ρ4 e4 => .agg _ _ h2.1 (h2.mono e4).2
 | array n elem =>
  refine Sim.bind (Sim.sizeOf elem) fun ρ3 m n e3 hmn => ?_
  obtain rfl : m = n := hmn
  cases hf : Instr.fill (fun i => some (i * m, m)) x.cells ps.toList with
  | none => exact Sim.halt
  | some as =>
   obtain ⟨bs, h1, h2⟩ := fill_rel (fun i => some (i * m, m)) (((h.mono e1).mono e2).mono e3) (hx ρ3).cells hf
   simp only [h1]
   exact Sim.pure fun ρ4 e4 => .agg _ _ h2.1 (h2.mono e4).2
 | _ => exact Sim.halt
theorem zero_rel {ρ : Ren} {zs : Array Value} (h : AsRel S ρ zs zs) (i : Nat) : VRel S ρ zs[i]! zs[i]! := by
 rw [getElem!_def]
 cases hx : zs[i]? with
 | none => exact .bool _
 | some x =>
  obtain ⟨y, h1, h2⟩ := h.get hx
  rw [hx] at h1; injection h1 with h1; subst h1
  exact h2
theorem zeros_rel {ρ : Ren} {zs : Array Value} (h : AsRel S ρ zs zs) (n : Nat) : AsRel S ρ ((Array.range n).map (zs[· % zs.size]!)) ((Array.range n).map (zs[· % zs.size]!)) :=
 ⟨rfl, fun i h1 h2 => by simpa using zero_rel h _⟩
theorem Sim.zeroCells {ρ : Ren} (hZ : ZeroOk P S) (c : Prop) [Decidable c] (t : TypeId) : Sim P S N0 ρ (fun ρ' as bs => as = bs /\ ∀ ρ'', AsRel S ρ'' as as) (if c then Pure.pure #[] else (do Pure.pure (<- Go.zeroValue t).cells)) (if c then Pure.pure #[] else (do Pure.pure (<- Go.zeroValue t).cells)) := by
 refine Sim.ite (fun _ => Sim.pure fun _ _ => ⟨rfl, fun _ => .empty⟩) fun _ => ?_
 refine Sim.bind (Sim.zeroValue hZ t) fun ρ1 x y e1 hxy => ?_
 obtain ⟨rfl, hx⟩ := hxy
 exact Sim.pure fun _ _ => ⟨rfl, fun ρ'' => (hx ρ'').cells⟩
theorem Sim.buildSlice {ρ : Ren} {ps qs : Array (Nat × Value)} (hZ : ZeroOk P S) (t : TypeId) (len : Nat) (h : PsRel S ρ ps.toList qs.toList) : Sim P S N0 ρ (VRel S) (Instr.buildSlice t len ps) (Instr.buildSlice t len qs) := by
 unfold Instr.buildSlice
 refine Sim.bind (Sim.underlying t) fun ρ1 d d' e1 hd => ?_
 obtain ⟨_, rfl⟩ := hd
 cases d' with
 | slice elem =>
  refine Sim.bind (Sim.sizeOf elem) fun ρ2 m n e2 hmn => ?_
  obtain rfl : m = n := hmn
  refine Sim.ite (fun _ => Sim.halt) fun _ => ?_
  have rest : ∀ ρ3 (zs : Array Value), Ext ρ ρ3 -> (∀ ρ'', AsRel S ρ'' zs zs) -> Sim P S N0 ρ3 (VRel S)
    (match Instr.fill (fun i => some (i * m, m)) ((Array.range (len * m)).map (zs[· % zs.size]!)) ps.toList with | some cells => (Go.newRow elem cells >>= fun a => Pure.pure (.slice (some a) len len)) | _ => stuck "buildSlice: a part of the wrong size")
    (match Instr.fill (fun i => some (i * m, m)) ((Array.range (len * m)).map (zs[· % zs.size]!)) qs.toList with | some cells => (Go.newRow elem cells >>= fun a => Pure.pure (.slice (some a) len len)) | _ => stuck "buildSlice: a part of the wrong size") := fun ρ3 zs e3 hz => by
   cases hf : Instr.fill (fun i => some (i * m, m)) ((Array.range (len * m)).map (zs[· % zs.size]!)) ps.toList with
   | none => exact Sim.halt
   | some as =>
    obtain ⟨bs, h1, h2⟩ := fill_rel (fun i => some (i * m, m)) (h.mono e3) (zeros_rel (hz ρ3) (len * m)) hf
    simp only [h1]
    exact Sim.bind (Sim.newRow h2) fun ρ4 a b e4 hab => Sim.pure fun ρ5 e5 => (hab.1.mono e5).sl _ _
  refine Sim.ite (fun _ => rest ρ2 #[] (e1.trans e2) fun _ => .empty) fun _ => ?_
  refine Sim.bind (Sim.zeroValue hZ elem) fun ρ3 x y e3 hxy => ?_
  obtain ⟨rfl, hx⟩ := hxy
  exact rest ρ3 x.cells ((e1.trans e2).trans e3) fun ρ'' => (hx ρ'').cells
 | _ => exact Sim.halt
theorem Sim.askRoom {ρ : Ren} (n : Nat) : Sim P S N0 ρ TrueR (Go.askRoom n) (Go.askRoom n) := by
 unfold Go.askRoom
 exact Sim.ite (fun _ => Sim.mark (.inl rfl)) fun _ => Sim.pure fun _ _ => trivial
theorem Sim.makeSlice {ρ : Ren} {x y z z' : Value} (hZ : ZeroOk P S) (t : TypeId) (h : VRel S ρ x y) (hz : VRel S ρ z z') : Sim P S N0 ρ (VRel S) (Instr.makeSlice t x z) (Instr.makeSlice t y z') := by
 unfold Instr.makeSlice
 refine Sim.bind (Sim.underlying t) fun ρ1 d d' e1 hd => ?_
 obtain ⟨_, rfl⟩ := hd
 cases d' with
 | slice elem =>
  refine Sim.bind (Sim.asInt (h.mono e1)) fun ρ2 m n e2 hmn => ?_
  obtain rfl : m = n := hmn
  refine Sim.bind (Sim.asInt ((hz.mono e1).mono e2)) fun ρ3 k l e3 hkl => ?_
  obtain rfl : k = l := hkl
  refine Sim.bind (Sim.typeInfo elem) fun ρ4 i j e4 hij => ?_
  obtain ⟨_, rfl⟩ := hij
  refine Sim.ite (fun _ => ?_) fun _ => ?_
  ·refine Sim.noOk ?_
   split
   ·exact NoOk.first (NoOk.runtimePanic _)
   ·split
    ·exact NoOk.first (NoOk.runtimePanic _)
    ·exact NoOk.bind fun _ => NoOk.first (NoOk.runtimePanic _)
  ·refine Sim.bind (Sim.askRoom _) fun ρ5 _ _ e5 _ => ?_
   refine Sim.bind (Sim.sizeOf elem) fun ρ6 a b e6 hab => ?_
   obtain rfl : a = b := hab
   have rest : ∀ ρ7 (zs : Array Value), AsRel S ρ7 zs zs -> Sim P S N0 ρ7 (VRel S)
     (Go.newRow elem ((Array.range ((IntKind.i64.wrap k).toNat * a)).map (zs[· % zs.size]!)) >>= fun ad => Pure.pure (.slice (some ad) (IntKind.i64.wrap m).toNat (IntKind.i64.wrap k).toNat))
     (Go.newRow elem ((Array.range ((IntKind.i64.wrap k).toNat * a)).map (zs[· % zs.size]!)) >>= fun ad => Pure.pure (.slice (some ad) (IntKind.i64.wrap m).toNat (IntKind.i64.wrap k).toNat)) := fun ρ7 zs hz =>
    Sim.bind (Sim.newRow (zeros_rel hz _)) fun ρ8 a b e8 hab => Sim.pure fun ρ9 e9 => (hab.1.mono e9).sl _ _
   refine Sim.ite (fun _ => rest ρ6 #[] .empty) fun _ => ?_
   refine Sim.bind (Sim.zeroValue hZ elem) fun ρ7 x y e7 hxy => ?_
   obtain ⟨rfl, hx⟩ := hxy
   exact rest ρ7 x.cells (hx ρ7).cells
 | _ => exact Sim.halt
theorem Sim.lenOf {ρ : Ren} {x y : Value} (h : VRel S ρ x y) : Sim P S N0 ρ EqR (Builtin.lenOf x) (Builtin.lenOf y) := by
 cases h <;> first | exact Sim.halt | exact Sim.pure fun _ _ => rfl
theorem Sim.lenOf' {ρ : Ren} {x y : Value} (h : VRel S ρ x y) : Sim P S N0 ρ (fun _ (k l : Nat) => k = l /\ ∀ a, x = .slice (some a) 0 0 -> k = 0) (Builtin.lenOf x) (Builtin.lenOf y) := by
 cases h <;> first | exact Sim.halt | exact Sim.pure fun _ _ => ⟨rfl, fun a e => by first | (injection e) | cases e⟩
theorem str_rel {ρ : Ren} (s : Array UInt8) : AsRel S ρ (s.map fun b => .int .u8 b.toNat) (s.map fun b => .int .u8 b.toNat) := ⟨rfl, fun i h1 h2 => by simpa using VRel.int _ _⟩
theorem firstCells_sl (size : Nat) (a : Addr) (n k : Nat) : Builtin.firstCells size 0 (.slice (some a) n k) = Pure.pure #[] := by
 show loadCells a (0 * size) = _
 rw [Nat.zero_mul]
 rfl
theorem Sim.firstCells {ρ : Ren} {x y : Value} (size n : Nat) (h : VRel S ρ x y) (hn : ∀ a, x = .slice (some a) 0 0 -> n = 0) : Sim P S N0 ρ (AsRel S) (Builtin.firstCells size n x) (Builtin.firstCells size n y) := by
 cases h <;> first | exact Sim.halt | skip
 ·exact Sim.pure fun _ _ => str_rel _
 ·exact Sim.pure fun _ _ => .empty
 ·rename_i b c off sp k l hbc
  exact Sim.loadCells (show AdR ρ ⟨b, off, sp⟩ ⟨c, off, sp⟩ from ⟨hbc, rfl, rfl⟩) _
 ·rename_i a
  rw [hn a rfl, firstCells_sl]
  exact Sim.pure fun _ _ => .empty
theorem Sim.firstCells0 {ρ : Ren} {x y : Value} (size : Nat) (h : VRel S ρ x y) : Sim P S N0 ρ (fun _ as bs => as = #[] /\ bs = #[]) (Builtin.firstCells size 0 x) (Builtin.firstCells size 0 y) := by
 cases h <;> first | exact Sim.halt | skip
 ·exact Sim.pure fun _ _ => ⟨by simp, by simp⟩
 ·exact Sim.pure fun _ _ => ⟨rfl, rfl⟩
 ·rw [firstCells_sl, firstCells_sl]
  exact Sim.pure fun _ _ => ⟨rfl, rfl⟩
 ·rw [firstCells_sl]
  exact Sim.pure fun _ _ => ⟨rfl, rfl⟩
theorem zeroCells_rel {ρ : Ren} {zs : Array Value} (h : AsRel S ρ zs zs) (n : Nat) : AsRel S ρ (Builtin.zeroCells zs n) (Builtin.zeroCells zs n) := zeros_rel h _
theorem Sim.append {ρ : Ren} {t t' : TypeId} {s s' x x' : Value} (hZ : ZeroOk P S) (o : TypeId) (ht : ∀ k, P.underlying t' ≠ some (.int k)) (hs : VRel S ρ s s') (hx : VRel S ρ x x') :
  Sim P S N0 ρ (VRel S) (Builtin.append_ #[t, t'] o #[s, x]) (Builtin.append_ #[t, t'] o #[s', x']) := by
 unfold Builtin.append_
 refine Sim.bind (Sim.underlying t) fun ρ1 d d' e1 hd => ?_
 obtain ⟨_, rfl⟩ := hd
 cases d' with
 | slice elem =>
  have hs1 := hs.mono e1
  have grow : ∀ ρ6 (A A' : Option Addr) (n c m k : Nat), (∀ a, x = .slice (some a) 0 0 -> k = 0) -> Ext ρ1 ρ6 -> VRel S ρ6 (.slice A n c) (.slice A' n c) -> Sim P S N0 ρ6 (VRel S)
    (Go.choose (.appendCap (n + k) c elem) >>= fun newCap => Go.typeInfo elem >>= fun i => Go.askRoom (newCap * i.bytes) >>= fun _ => Builtin.firstCells m n (.slice A n c) >>= fun old => Builtin.firstCells m k x >>= fun new => Go.zeroValue elem >>= fun z => Go.newRow elem (old ++ new ++ Builtin.zeroCells z.cells (newCap - (n + k))) >>= fun a => Pure.pure (.slice (some a) (n + k) newCap))
    (Go.choose (.appendCap (n + k) c elem) >>= fun newCap => Go.typeInfo elem >>= fun i => Go.askRoom (newCap * i.bytes) >>= fun _ => Builtin.firstCells m n (.slice A' n c) >>= fun old => Builtin.firstCells m k x' >>= fun new => Go.zeroValue elem >>= fun z => Go.newRow elem (old ++ new ++ Builtin.zeroCells z.cells (newCap - (n + k))) >>= fun a => Pure.pure (.slice (some a) (n + k) newCap)) := fun ρ6 A A' n c m k hxk e6 hsl => by
   refine Sim.bind (Sim.choose _) fun ρ7 u v e7 huv => ?_
   obtain rfl : u = v := huv
   refine Sim.bind (Sim.typeInfo elem) fun ρ8 i j e8 hij => ?_
   obtain ⟨_, rfl⟩ := hij
   refine Sim.bind (Sim.askRoom _) fun ρ9 _ _ e9 _ => ?_
   refine Sim.bind (Sim.firstCells m n (((hsl.mono e7).mono e8).mono e9) fun a e => by injection e) fun ρ10 as bs e10 hab => ?_
   refine Sim.bind (Sim.firstCells m k ((((((hx.mono e1).mono e6).mono e7).mono e8).mono e9).mono e10) hxk) fun ρ11 cs ds e11 hcd => ?_
   refine Sim.bind (Sim.zeroValue hZ elem) fun ρ12 z z' e12 hz => ?_
   obtain ⟨rfl, hz⟩ := hz
   refine Sim.bind (Sim.newRow ((((hab.mono e11).mono e12).append (hcd.mono e12)).append (zeroCells_rel (hz ρ12).cells _))) fun ρ13 a b e13 hab => ?_
   exact Sim.pure fun ρ14 e14 => (hab.1.mono e14).sl _ _
  cases hs1 <;> first | exact Sim.halt | skip
  all_goals
   refine Sim.bind (Sim.sizeOf elem) fun ρ2 m n e2 hmn => ?_
   obtain rfl : m = n := hmn
   refine Sim.bind (Sim.underlying t') fun ρ3 d d' e3 hd => ?_
   obtain ⟨hd1, rfl⟩ := hd
   refine Sim.bind (A := fun _ a b => a = false /\ b = false) (Sim.pure fun _ _ => ?_) fun ρ4 u v e4 huv => ?_
   ·cases d' <;> first | exact ⟨rfl, rfl⟩ | exact absurd hd1 (ht _)
   obtain ⟨rfl, rfl⟩ := huv
   refine Sim.bind (Sim.lenOf' ((((hx.mono e1).mono e2).mono e3).mono e4)) fun ρ5 k l e5 hkl => ?_
   obtain ⟨rfl, hxk⟩ := hkl
   have hx5 := ((((hx.mono e1).mono e2).mono e3).mono e4).mono e5
   have e15 : Ext ρ1 ρ5 := ((e2.trans e3).trans e4).trans e5
  ·refine Sim.ite (fun _ => ?_) fun _ => ?_
   ·exact Sim.bind (Sim.firstCells m k hx5 hxk) fun ρ6 as bs e6 hab => Sim.pure fun _ _ => .nils _ _
   ·refine Sim.bind (Sim.typeInfo elem) fun ρ6 i j e6 hij => ?_
    obtain ⟨_, rfl⟩ := hij
    refine Sim.ite (fun _ => Sim.noOk (NoOk.first (NoOk.runtimePanic _))) fun _ => ?_
    refine Sim.bind (Sim.typeInfo elem) fun ρ7 i j e7 hij => ?_
    obtain ⟨_, rfl⟩ := hij
    refine Sim.ite (fun _ => Sim.noOk (NoOk.first ?_)) fun _ => grow ρ7 none none _ _ m k hxk ((e15.trans e6).trans e7) (.nils _ _)
    rw [if_neg (by decide)]
    exact NoOk.bind fun b => by cases b <;> first | exact NoOk.bind fun _ => NoOk.halt _ | exact NoOk.halt _
  ·rename_i b c off sp n' k' hbc
   have had : AdR ρ5 ⟨b, off, sp⟩ ⟨c, off, sp⟩ := ⟨e15 _ _ hbc, rfl, rfl⟩
   refine Sim.ite (fun _ => ?_) fun _ => ?_
   ·refine Sim.bind (Sim.firstCells m k hx5 hxk) fun ρ6 as bs e6 hab => ?_
    exact Sim.bind (Sim.storeCells 0 ((had.mono e6).add _) hab.list) fun ρ7 _ _ e7 _ => Sim.pure fun ρ8 e8 => (((had.mono e6).mono e7).mono e8).sl _ _
   ·refine Sim.bind (Sim.typeInfo elem) fun ρ6 i j e6 hij => ?_
    obtain ⟨_, rfl⟩ := hij
    refine Sim.ite (fun _ => Sim.noOk (NoOk.first (NoOk.runtimePanic _))) fun _ => ?_
    refine Sim.bind (Sim.typeInfo elem) fun ρ7 i j e7 hij => ?_
    obtain ⟨_, rfl⟩ := hij
    refine Sim.ite (fun _ => Sim.noOk (NoOk.first ?_)) fun _ => grow ρ7 (some ⟨b, off, sp⟩) (some ⟨c, off, sp⟩) _ _ m k hxk ((e15.trans e6).trans e7) (((had.mono e6).mono e7).sl _ _)
    rw [if_neg (by decide)]
    exact NoOk.bind fun b => by cases b <;> first | exact NoOk.bind fun _ => NoOk.halt _ | exact NoOk.halt _
  ·rename_i a
   refine Sim.ite (fun hk0 => ?_) fun _ => ?_
   ·obtain rfl : k = 0 := by omega
    refine Sim.bind (Sim.firstCells0 m hx5) fun ρ6 as bs e6 hab => ?_
    obtain ⟨rfl, rfl⟩ := hab
    exact Sim.pure fun ρ8 e8 => .sl0 a
   ·refine Sim.bind (Sim.typeInfo elem) fun ρ6 i j e6 hij => ?_
    obtain ⟨_, rfl⟩ := hij
    refine Sim.ite (fun _ => Sim.noOk (NoOk.first (NoOk.runtimePanic _))) fun _ => ?_
    refine Sim.bind (Sim.typeInfo elem) fun ρ7 i j e7 hij => ?_
    obtain ⟨_, rfl⟩ := hij
    refine Sim.ite (fun _ => Sim.noOk (NoOk.first ?_)) fun _ => grow ρ7 (some a) (some a) _ _ m k hxk ((e15.trans e6).trans e7) (.sl0 a)
    rw [if_neg (by decide)]
    exact NoOk.bind fun b => by cases b <;> first | exact NoOk.bind fun _ => NoOk.halt _ | exact NoOk.halt _
 | _ => exact Sim.halt
theorem Sim.copy {ρ : Ren} {x x' y y' : Value} (ts : Array TypeId) (o : TypeId) (hx : VRel S ρ x x') (hy : VRel S ρ y y') : Sim P S N0 ρ (VRel S) (Builtin.copy_ ts o #[x, y]) (Builtin.copy_ ts o #[x', y']) := by
 unfold Builtin.copy_
 cases ts[0]? with
 | none => exact Sim.halt
 | some t =>
  refine Sim.bind (Sim.underlying t) fun ρ1 d d' e1 hd => ?_
  obtain ⟨_, rfl⟩ := hd
  cases d' with
  | slice elem =>
   have hx1 := hx.mono e1
   cases hx1 <;> first | exact Sim.halt | skip
   all_goals
    refine Sim.bind (Sim.lenOf' (hy.mono e1)) fun ρ2 k l e2 hkl => ?_
    obtain ⟨rfl, hyk⟩ := hkl
    refine Sim.bind (Sim.sizeOf elem) fun ρ3 m n e3 hmn => ?_
    obtain rfl : m = n := hmn
   ·refine Sim.bind (Sim.firstCells m _ (((hy.mono e1).mono e2).mono e3) fun a e => by rw [hyk a e]; exact Nat.zero_min _) fun ρ4 as bs e4 hab => ?_
    exact Sim.pure fun _ _ => .int _ _
   rotate_left
   ·refine Sim.bind (A := fun _ as bs => as = #[] /\ bs = #[]) ?_ fun ρ4 as bs e4 hab => ?_
    ·rw [show Nat.min k 0 = 0 from Nat.min_zero _]
     exact Sim.firstCells0 m (((hy.mono e1).mono e2).mono e3)
    ·obtain ⟨rfl, rfl⟩ := hab
     exact Sim.pure fun _ _ => .int _ _
   ·rename_i b c off sp n' k' hbc
    refine Sim.bind (Sim.firstCells m _ (((hy.mono e1).mono e2).mono e3) fun a e => by rw [hyk a e]; exact Nat.zero_min _) fun ρ4 as bs e4 hab => ?_
    have had : AdR ρ4 ⟨b, off, sp⟩ ⟨c, off, sp⟩ := ⟨e4 _ _ (e3 _ _ (e2 _ _ hbc)), rfl, rfl⟩
    exact Sim.bind (Sim.storeCells 0 had hab.list) fun ρ5 _ _ e5 _ => Sim.pure fun _ _ => .int _ _
  | _ => exact Sim.halt
theorem Sim.len {ρ : Ren} {x x' : Value} {t : TypeId} (o : TypeId) (ht : ∀ d e, P.underlying t ≠ some (.chan d e)) (ht2 : ∀ k e, P.underlying t ≠ some (.map k e)) (hx : VRel S ρ x x') : Sim P S N0 ρ (VRel S) (Builtin.len_ #[t] o #[x]) (Builtin.len_ #[t] o #[x']) := by
 unfold Builtin.len_
 refine Sim.bind (Sim.underlying t) fun ρ1 d d' e1 hd => ?_
 obtain ⟨hd1, rfl⟩ := hd
 have hx := hx.mono e1
 cases d' with
 | chan d e => exact absurd hd1 (ht d e)
 | map k e => exact absurd hd1 (ht2 k e)
 | string => cases hx <;> first | exact Sim.halt | exact Sim.pure fun _ _ => .int _ _
 | slice e => cases hx <;> first | exact Sim.halt | exact Sim.pure fun _ _ => .int _ _
 | array n e => cases hx <;> exact Sim.pure fun _ _ => .int _ _
 | pointer e =>
  have key : Sim P S N0 ρ1 (VRel S) (Go.underlying e >>= fun d => match d with | .array n _ => Pure.pure (goInt n) | _ => stuck "len: pointer to array expected") (Go.underlying e >>= fun d => match d with | .array n _ => Pure.pure (goInt n) | _ => stuck "len: pointer to array expected") := by
   refine Sim.bind (Sim.underlying e) fun ρ2 d d' e2 hd => ?_
   obtain ⟨_, rfl⟩ := hd
   cases d' <;> first | exact Sim.halt | exact Sim.pure fun _ _ => .int _ _
  cases hx <;> exact key
 | _ => cases hx <;> exact Sim.halt
end
end
section
open Go Go.Conc
section
variable {P : Program} {S : FuncId -> Prop} {N0 : Nat} {α β γ δ σ : Type}
theorem Sim.intArith {ρ : Ren} (op : BinOp) (k : IntKind) (x y : Int) : Sim P S N0 ρ (VRel S) (Op.intArith op k x y) (Op.intArith op k x y) := by
 cases op <;> first | exact Sim.halt | exact Sim.pure fun _ _ => .int _ _
theorem Sim.intDiv {ρ : Ren} (op : BinOp) (k : IntKind) (x y : Int) : Sim P S N0 ρ (VRel S) (Op.intDiv op k x y) (Op.intDiv op k x y) := by
 unfold Op.intDiv
 refine Sim.ite (fun _ => Sim.noOk (NoOk.runtimePanic _)) fun _ => ?_
 cases op <;> first | exact Sim.halt | exact Sim.pure fun _ _ => .int _ _
theorem Sim.intBits {ρ : Ren} (op : BinOp) (k : IntKind) (x y : Int) : Sim P S N0 ρ (VRel S) (Op.intBits op k x y) (Op.intBits op k x y) := by
 cases op <;> first | exact Sim.halt | exact Sim.pure fun _ _ => .int _ _
theorem Sim.intCmp {ρ : Ren} (op : BinOp) (x y : Int) : Sim P S N0 ρ (VRel S) (Op.intCmp op x y) (Op.intCmp op x y) := by
 cases op <;> first | exact Sim.halt | exact Sim.pure fun _ _ => .bool _
theorem Sim.shift {ρ : Ren} (op : BinOp) (k yk : IntKind) (x y : Int) : Sim P S N0 ρ (VRel S) (Op.shift op k x yk y) (Op.shift op k x yk y) := by
 unfold Op.shift
 refine Sim.ite (fun _ => Sim.noOk (NoOk.runtimePanic _)) fun _ => ?_
 cases op <;> first | exact Sim.halt | exact Sim.pure fun _ _ => .int _ _
theorem Sim.stringOp {ρ : Ren} (op : BinOp) (x y : ByteArray) : Sim P S N0 ρ (VRel S) (Op.stringOp op x y) (Op.stringOp op x y) := by
 cases op <;> first | exact Sim.halt | exact Sim.pure fun _ _ => .bool _ | exact Sim.ite (fun _ => Sim.halt) fun _ => Sim.pure fun _ _ => .string _
theorem Sim.unary {ρ : Ren} {x y : Value} (op : UnOp) (h : VRel S ρ x y) : Sim P S N0 ρ (VRel S) (Op.unary op x) (Op.unary op y) := by
 cases op <;> cases h <;> first
  | exact Sim.halt
  | exact Sim.pure fun _ _ => .int _ _
  | exact Sim.intArith _ _ _ _
  | exact Sim.intBits _ _ _ _
  | exact Sim.pure fun _ _ => .bool _
theorem Sim.freeze {ρ : Ren} {a b : Addr} (n : Nat) (h : AdR ρ a b) (ha : N0 <= a.block) : Sim P S N0 ρ TrueR (Go.freeze a n) (Go.freeze b n) := fun ρ₁ v w e1 hw u v' hr => by
 have hr : Result.ok () (v.freeze a n) = .ok u v' := hr
 injection hr with hr1 hr2
 subst hr2
 by_cases hn : n = 0
 ·subst hn
  refine ⟨ρ₁, (), w, #[], Ext.refl _, fun es => ?_, trivial, by simpa [World.freeze] using hw, Guar.refl _ _ _⟩
  show (Result.ok () (w.freeze b 0), es) = _
  simp [World.freeze]
 have hne : ∀ (w : World) (a : Addr) (k : Nat), k ≠ a.block -> (w.freeze a n).heap[k]? = w.heap[k]? := fun w a k hk => by
  unfold World.freeze
  rw [if_neg hn]
  simp only [Array.getElem?_modify]
  rw [if_neg (fun e => hk e.symm)]
 have heq : ∀ (w : World) (a : Addr) cs t lo hi, w.heap[a.block]? = some (.cells cs t (lo, hi)) -> (w.freeze a n).heap[a.block]? = some (.cells cs t (if lo == hi then (a.off, a.off + n) else (min lo a.off, max hi (a.off + n)))) := fun w a cs t lo hi hc => by
  unfold World.freeze
  rw [if_neg hn]
  simp only [Array.getElem?_modify, if_pos, hc, Option.map_some]
 have hnum : ∀ (w : World) (a : Addr) x l, w.heap[a.block]? = some (.number x l) -> (w.freeze a n).heap[a.block]? = some (.number x l) := fun w a x l hc => by
  unfold World.freeze
  rw [if_neg hn]
  simp only [Array.getElem?_modify, if_pos, hc, Option.map_some]
 have hit : ∀ (w : World) (a : Addr) x l, w.heap[a.block]? = some (.stringIter x l) -> (w.freeze a n).heap[a.block]? = some (.stringIter x l) := fun w a x l hc => by
  unfold World.freeze
  rw [if_neg hn]
  simp only [Array.getElem?_modify, if_pos, hc, Option.map_some]
 have hco : ∀ (w : World) (a : Addr) x, w.heap[a.block]? = some (.coro x) -> (w.freeze a n).heap[a.block]? = some (.coro x) := fun w a x hc => by
  unfold World.freeze
  rw [if_neg hn]
  simp only [Array.getElem?_modify, if_pos, hc, Option.map_some]
 have hsz : ∀ (w : World) (a : Addr), (w.freeze a n).heap.size = w.heap.size := fun w a => by unfold World.freeze; rw [if_neg hn]; simp
 have htp : ∀ (w : World) (a : Addr), (w.freeze a n).tape = w.tape /\ (w.freeze a n).drawn = w.drawn /\ (w.freeze a n).os = w.os /\ (w.freeze a n).output = w.output := fun w a => by unfold World.freeze; rw [if_neg hn]; exact ⟨rfl, rfl, rfl, rfl⟩
 have hab := e1 _ _ h.1
 refine ⟨ρ₁, (), w.freeze b n, #[], Ext.refl _, fun es => by show (_, _) = _; simp, trivial, ⟨hw.inj, hw.func, fun b1 c1 h6 => ?_, fun b1 c1 h6 => ?_, ?_, ?_, ?_, hw.glob, ?_, hw.same, hw.nl.freeze a n⟩, ⟨by rw [hsz]; exact Nat.le_refl _, (htp w b).2.2.1, (htp w b).1, (htp w b).2.2.2, by rw [(htp w b).2.1]; exact Nat.le_refl _, fun c hc hn' => ?_, fun b1 c1 k1 k2 => absurd k1 k2, fun e he => by simp at he⟩⟩
 ·rw [hsz, hsz]; exact hw.dom b1 c1 h6
 ·by_cases hb : b1 = a.block
  ·subst hb
   obtain rfl := hw.func _ _ _ h6 hab
   rcases hw.cell _ _ h6 with ⟨cs, ds, t, ⟨lo, hi⟩, fr', h1, h2, h3, h4, h5⟩ | ⟨x, y, l, h1, h2, h3⟩ | ⟨o, o', s, p, h1, h2, h4, rfl | ⟨rfl, rfl, h3⟩⟩
   ·obtain rfl := h4 ha
    exact .inl ⟨cs, ds, t, _, _, heq v a cs t lo hi h1, heq w b ds t lo hi h2, h3, fun _ => by rw [h.2.1], fun hlt => absurd ha (Nat.not_le.2 hlt)⟩
   ·exact .inr (.inl ⟨x, y, l, hnum v a x l h1, hnum w b y l h2, h3⟩)
   ·refine .inr (.inr ⟨_, o', s, p, hco v a _ h1, ?_, h4, .inl rfl⟩)
    rcases h4 with rfl | rfl
    ·exact hit w b _ _ h2
    ·exact hco w b _ h2
   ·exact .inr (.inr ⟨_, _, s, p, hit v a _ _ h1, hit w b _ _ h2, .inl rfl, .inr ⟨rfl, rfl, h3⟩⟩)
  ·have hc1 : c1 ≠ b.block := fun e => hb (hw.inj _ _ _ (e ▸ h6) hab)
   rcases hw.cell b1 c1 h6 with ⟨cs2, ds2, t2, fr2, fr2', k1, k2, k3⟩ | ⟨x2, y2, l2, k1, k2, k3⟩ | ⟨o2, o3, s2, p2, k1, k2, k3⟩
   ·exact .inl ⟨cs2, ds2, t2, fr2, fr2', (hne v a b1 hb).trans k1, (hne w b c1 hc1).trans k2, k3⟩
   ·exact .inr (.inl ⟨x2, y2, l2, (hne v a b1 hb).trans k1, (hne w b c1 hc1).trans k2, k3⟩)
   ·exact .inr (.inr ⟨o2, o3, s2, p2, (hne v a b1 hb).trans k1, (hne w b c1 hc1).trans k2, k3⟩)
 ·rw [(htp v a).1, (htp w b).1]; exact hw.tape
 ·rw [(htp v a).2.1, (htp w b).2.1]; exact hw.drawn
 ·rw [hsz]; exact hw.low
 ·rw [hsz]; exact hw.lowW
 ·exact hne w b c fun e => hn' a.block ha (e ▸ hab)
theorem Sim.markStringish {ρ : Ren} {a b : Addr} (h : AdN N0 ρ a b) : Sim P S N0 ρ TrueR (Go.markStringish a) (Go.markStringish b) := by
 unfold Go.markStringish
 refine Sim.bind (Sim.shape h.1.1) fun ρ1 x y e1 hxy => ?_
 obtain rfl : x = y := hxy
 cases x with
 | none => exact Sim.pure fun _ _ => trivial
 | some s => exact Sim.freeze 1 ⟨e1 _ _ h.1.1, rfl, rfl⟩ h.2
theorem Sim.stringToBytes {ρ : Ren} (e : TypeId) (s : ByteArray) : Sim P S N0 ρ (VRel S) (Conv.stringToBytes e s) (Conv.stringToBytes e s) := by
 unfold Conv.stringToBytes
 refine Sim.bind (Sim.choose _) fun ρ1 x y e1 hxy => ?_
 obtain rfl : x = y := hxy
 refine Sim.bind (Sim.newRow ((str_rel s.data).append (AsRel.replicate _ (.int _ _)))) fun ρ2 a b e2 hab => ?_
 exact Sim.bind (Sim.markStringish hab) fun ρ3 _ _ e3 _ => Sim.pure fun ρ4 e4 => ((hab.1.mono e3).mono e4).sl _ _
theorem Sim.forIn : ∀ {xs ys : List Value} {ρ : Ren} (s : σ) (f g : Value -> σ -> Sem (ForInStep σ)), LsRel S ρ xs ys -> (∀ ρ' x y s, VRel S ρ' x y -> Sim P S N0 ρ' EqR (f x s) (g y s)) -> Sim P S N0 ρ EqR (forIn xs s f) (forIn ys s g)
 | _, _, ρ, s, f, g, .nil, hb => by rw [List.forIn_nil, List.forIn_nil]; exact Sim.pure fun _ _ => rfl
 | _, _, ρ, s, f, g, .cons hx hs, hb => by
  rw [List.forIn_cons, List.forIn_cons]
  refine Sim.bind (hb ρ _ _ s hx) fun ρ1 u v e1 huv => ?_
  obtain rfl : u = v := huv
  cases u with
  | done s => exact Sim.pure fun _ _ => rfl
  | yield s => exact Sim.forIn s f g (hs.mono e1) hb
theorem Sim.bytesToString {ρ : Ren} {x y : Value} (h : VRel S ρ x y) : Sim P S N0 ρ (VRel S) (Conv.bytesToString x) (Conv.bytesToString y) := by
 unfold Conv.bytesToString
 cases h <;> first | exact Sim.halt | exact Sim.pure fun _ _ => .string _ | skip
 rename_i b c off sp n k hbc
 refine Sim.bind (Sim.loadCells (show AdR ρ ⟨b, off, sp⟩ ⟨c, off, sp⟩ from ⟨hbc, rfl, rfl⟩) n) fun ρ1 as bs e1 hab => ?_
 simp only [<- Array.forIn_toList]
 refine Sim.bind (Sim.forIn _ _ _ hab.list fun ρ' x y s hxy => ?_) fun ρ2 u v e2 huv => by obtain rfl : u = v := huv; exact Sim.pure fun _ _ => .string _
 cases hxy <;> first | exact Sim.halt | skip
 rename_i kk n
 cases kk <;> first | exact Sim.halt | exact Sim.pure fun _ _ => rfl
theorem Sim.bools {ρ : Ren} {A : Ren -> α -> β -> Prop} {c c' : Bool} {f : Bool -> Sem α} {f' : Bool -> Sem β} (h : ∀ ρ₁ v w, Ext ρ ρ₁ -> WRel P S N0 ρ₁ v w -> c = c') (k : ∀ c, Sim P S N0 ρ A (f c) (f' c)) : Sim P S N0 ρ A (f c) (f' c') := fun ρ₁ v w e1 hw a v' hr => by
 obtain rfl := h ρ₁ v w e1 hw
 exact k c ρ₁ v w e1 hw a v' hr
theorem same_block {ρ : Ren} {v w : World} (hw : WRel P S N0 ρ v w) {a b a' b' : Addr} (ha : AdR ρ a a') (hb : AdR ρ b b') : (a.block == b.block) = (a'.block == b'.block) := by
 rw [Bool.eq_iff_iff, beq_iff_eq, beq_iff_eq]
 exact ⟨fun e => hw.func _ _ _ ha.1 (e ▸ hb.1), fun e => hw.inj _ _ _ ha.1 (e ▸ hb.1)⟩
theorem low_block {ρ : Ren} {v w : World} (hw : WRel P S N0 ρ v w) {a a' : Addr} (ha : AdR ρ a a') {n : Nat} (hn : n <= P.globals.size) : a.block < n ↔ a'.block < n := by
 constructor
 ·intro h; have := hw.same _ _ ha.1 (.inl (by omega)); omega
 ·intro h; have := hw.same _ _ ha.1 (.inr (by omega)); omega
theorem Sim.twoPlaces {ρ : Ren} {a b a' b' : Addr} (ha : AdR ρ a a') (hb : AdR ρ b b') : Sim P S N0 ρ EqR (Op.twoPlaces a b) (Op.twoPlaces a' b') := by
 unfold Op.twoPlaces
 refine Sim.bind Sim.program fun ρ1 p q e1 hp => ?_
 obtain ⟨rfl, rfl⟩ := hp
 refine Sim.bools (f := fun c => (if c then _ else _ : Sem (Nat × Nat))) (f' := fun c => (if c then _ else _ : Sem (Nat × Nat))) (fun ρ₁ v w e hw => ?_) fun c => Sim.ite (fun _ => Sim.halt) fun _ => ?_
 ·have h1 := same_block hw ((ha.mono e1).mono e) ((hb.mono e1).mono e)
  have h2 := low_block hw ((ha.mono e1).mono e) (Nat.le_refl _)
  have h3 : decide (a.block >= q.globals.size) = decide (a'.block >= q.globals.size) := by
   rw [decide_eq_decide]; omega
  rw [bne, bne, h1, h3]
 ·refine Sim.bind (Sim.byteOf (ha.mono e1)) fun ρ2 m n e2 hmn => ?_
  obtain rfl : m = n := hmn
  refine Sim.bind (Sim.byteOf ((hb.mono e1).mono e2)) fun ρ3 k l e3 hkl => ?_
  obtain rfl : k = l := hkl
  exact Sim.pure fun _ _ => rfl
theorem Sim.addrSub {ρ : Ren} {a b a' b' : Addr} (k : IntKind) (ha : AdR ρ a a') (hb : AdR ρ b b') : Sim P S N0 ρ (VRel S) (Op.addrSub k a b) (Op.addrSub k a' b') := by
 unfold Op.addrSub
 refine Sim.bind (Sim.twoPlaces ha hb) fun ρ1 p q e1 hp => ?_
 obtain rfl : p = q := hp
 exact Sim.pure fun _ _ => .int _ _
theorem Sim.addrCmp {ρ : Ren} {a b a' b' : Addr} (op : BinOp) (ha : AdR ρ a a') (hb : AdR ρ b b') : Sim P S N0 ρ (VRel S) (Op.addrCmp op a b) (Op.addrCmp op a' b') := by
 unfold Op.addrCmp
 refine Sim.bind (Sim.twoPlaces ha hb) fun ρ1 p q e1 hp => ?_
 obtain rfl : p = q := hp
 cases op <;> first | exact Sim.halt | exact Sim.pure fun _ _ => .bool _
theorem Sim.addrMod {ρ : Ren} {a a' : Addr} (k : IntKind) (n : Int) (ha : AdR ρ a a') : Sim P S N0 ρ (VRel S) (Op.addrMod k a n) (Op.addrMod k a' n) := by
 unfold Op.addrMod
 refine Sim.bind (Sim.shape ha.1) fun ρ1 x y e1 hxy => ?_
 obtain rfl : x = y := hxy
 cases x with
 | none => exact Sim.halt
 | some s =>
  refine Sim.bind (Sim.typeInfo s.1) fun ρ2 i j e2 hij => ?_
  obtain ⟨_, rfl⟩ := hij
  refine Sim.ite (fun _ => Sim.halt) fun _ => ?_
  refine Sim.bind (Sim.byteOf ((ha.mono e1).mono e2)) fun ρ3 m l e3 hml => ?_
  obtain rfl : m = l := hml
  exact Sim.pure fun _ _ => .int _ _
def Basic (P : Program) (t : TypeId) : Prop := (P.underlying t = some .bool ∨ (∃ k, P.underlying t = some (.int k)) ∨ P.underlying t = some .string) /\ ∀ i u, P.info? t = some i -> i.desc ≠ .named "sync.copyChecker" u
theorem Basic.noPtr {t : TypeId} (h : Basic P t) : P.underlying t ≠ some .unsafePointer := by
 rcases h.1 with h | ⟨k, h⟩ | h <;> rw [h] <;> simp
theorem Sim.movedNumber {ρ : Ren} {a a' : Addr} {z z' : Value} {t : TypeId} (hb : Basic P t) (h : AdR ρ a a') (hz : VRel S ρ z z') : Sim P S N0 ρ (VRel S) (movedNumber t (.pointer (some a)) z) (movedNumber t (.pointer (some a')) z') := by
 unfold Go.movedNumber
 refine Sim.bind (Sim.underlying t) fun ρ1 u v e1 huv => ?_
 obtain ⟨hu, rfl⟩ := huv
 refine Sim.ite (fun hc => by cases v <;> first | (exact absurd hu hb.noPtr) | (cases hc)) fun _ => ?_
 refine Sim.bind (Sim.behindNumber (h.mono e1)) fun ρ2 p q e2 hpq => ?_
 obtain ⟨p1, p2⟩ := p
 obtain ⟨q1, q2⟩ := q
 obtain ⟨h1, h2⟩ := hpq
 simp only at h1 h2
 subst h2
 refine Sim.bind (Sim.unsafeAdd (S := S) t h1.ptr ((hz.mono e1).mono e2)) fun ρ3 x y e3 hxy => ?_
 obtain ⟨a, b, rfl, rfl, hab⟩ := hxy
 exact Sim.asNumber p2 hab
theorem Sim.movedNil {ρ : Ren} {z z' : Value} {t : TypeId} (hz : VRel S ρ z z') : Sim P S N0 ρ (VRel S) (Go.movedNumber t (.pointer none) z) (Go.movedNumber t (.pointer none) z') := by
 unfold Go.movedNumber
 refine Sim.bind (Sim.underlying t) fun ρ1 u v e1 huv => ?_
 obtain ⟨hu, rfl⟩ := huv
 exact Sim.ite (fun _ => Sim.halt) fun _ => (Sim.unsafeAdd t .nilp (hz.mono e1)).weak fun ρ' a b _ h => h.vrel
theorem Sim.moved {ρ : Ren} {x y z z' : Value} {t : TypeId} (hb : Basic P t) (h : VRel S ρ x y) (hx : ∃ p, x = .pointer p) (hz : VRel S ρ z z') : Sim P S N0 ρ (VRel S) (Go.movedNumber t x z) (Go.movedNumber t y z') := by
 obtain ⟨p, rfl⟩ := hx
 cases h with
 | nilp => exact Sim.movedNil hz
 | ptr b c off sp hbc => exact Sim.movedNumber hb (show AdR ρ ⟨b, off, sp⟩ ⟨c, off, sp⟩ from ⟨hbc, rfl, rfl⟩) hz
theorem Sim.equalIn {ρ : Ren} {x y z z' : Value} {t : TypeId} (d : Nat) (ht : Basic P t) (h : VRel S ρ x y) (hz : VRel S ρ z z') : Sim P S N0 ρ EqR (Op.equalIn (d + 1) t x z) (Op.equalIn (d + 1) t y z') := by
 unfold Op.equalIn
 refine Sim.bind (Sim.underlying t) fun ρ1 u v e1 huv => ?_
 obtain ⟨hu, rfl⟩ := huv
 have h := h.mono e1
 have hz := hz.mono e1
 rcases ht.1 with ht1 | ⟨k, ht1⟩ | ht1
 ·rw [ht1] at hu
  injection hu with hu
  subst hu
  cases h <;> cases hz <;> first | exact Sim.halt | exact Sim.pure fun _ _ => rfl
 ·rw [ht1] at hu
  injection hu with hu
  subst hu
  cases h <;> cases hz
  all_goals first
   | exact Sim.halt
   | exact Sim.ite (fun _ => Sim.pure fun _ _ => rfl) fun _ => Sim.halt
   | (rename_i n b c off sp hbc; rcases n with (_ | _) | _ <;> first | exact Sim.halt | exact Sim.pure fun _ _ => rfl)
   | (rename_i b c off sp hbc k n; rcases n with (_ | _) | _ <;> first | exact Sim.halt | exact Sim.pure fun _ _ => rfl)
   | skip
  rename_i b c off sp hbc b' c' off' sp' hbc'
  refine Sim.bind (Sim.behindNumber (show AdR ρ1 ⟨b, off, sp⟩ ⟨c, off, sp⟩ from ⟨hbc, rfl, rfl⟩)) fun ρ2 p q e2 hpq => ?_
  refine Sim.bind (Sim.behindNumber (show AdR ρ2 ⟨b', off', sp'⟩ ⟨c', off', sp'⟩ from ⟨e2 _ _ hbc', rfl, rfl⟩)) fun ρ3 p' q' e3 hpq' => ?_
  have had := hpq.1.mono e3
  have had' := hpq'.1
  refine Sim.bind Sim.program fun ρ4 P1 P2 e4 hP => ?_
  obtain ⟨rfl, rfl⟩ := hP
  refine Sim.bools (f := fun c => (if c then _ else _ : Sem Bool)) (f' := fun c => (if c then _ else _ : Sem Bool)) (fun ρ₁ v w e hw => ?_) fun c => Sim.ite (fun _ => ?_) fun _ => ?_
  ·have h1 := same_block hw ((had.mono e4).mono e) ((had'.mono e4).mono e)
   have h2 := low_block hw ((had.mono e4).mono e) (Nat.le_refl _)
   have h3 : decide (p.1.block < P2.globals.size) = decide (q.1.block < P2.globals.size) := by rw [decide_eq_decide]; exact h2
   rw [h1, h3]
  ·refine Sim.bind (Sim.byteOf (had.mono e4)) fun ρ5 m n e5 hmn => ?_
   obtain rfl : m = n := hmn
   refine Sim.bind (Sim.byteOf ((had'.mono e4).mono e5)) fun ρ6 k l e6 hkl => ?_
   obtain rfl : k = l := hkl
   exact Sim.pure fun _ _ => rfl
  ·refine Sim.bind (Sim.typeInfo t) fun ρ5 i j e5 hij => ?_
   obtain ⟨hi, rfl⟩ := hij
   have hd := ht.2 j
   refine Sim.noOk ?_
   split
   ·rename_i u hu
    exact absurd hu (hd u hi)
   ·exact NoOk.halt _
 ·rw [ht1] at hu
  injection hu with hu
  subst hu
  cases h <;> cases hz <;> first | exact Sim.halt | exact Sim.pure fun _ _ => rfl
def Still (P : Program) (t : Sem α) (a : α) : Prop := ∀ w es, t.runT P w es = (.ok a w, es)
theorem Still.pure (a : α) : Still P (Pure.pure a : Sem α) a := fun w es => rfl
theorem Still.bind {t : Sem α} {f : α -> Sem β} {a : α} {b : β} (h : Still P t a) (k : Still P (f a) b) : Still P (t >>= f) b := fun w es => by
 show (t.bind f).runT P w es = _
 rw [Sem.runT_bind', h w es]
 exact k w es
theorem Still.program : Still P Go.program P := fun w es => rfl
theorem Still.sim {ρ : Ren} {t t' : Sem α} {a : α} (h : Still P t a) (k : Still P t' a) : Sim P S N0 ρ EqR t t' := fun ρ₁ v w e1 hw u v' hr => by
 have h1 : t.run P v = .ok a v := by
  have := h v #[]
  rw [Sem.runT_eq] at this
  exact congrArg Prod.fst this
 rw [h1] at hr
 injection hr with hr1 hr2
 subst hr1 hr2
 exact ⟨ρ₁, a, w, #[], Ext.refl _, fun es => by rw [k w es]; simp, rfl, hw, Guar.refl _ _ _⟩
theorem still_guardIn {t : TypeId} (ht : Basic P t) (u v : Value) (d : Nat) : Still P (Op.eqGuardIn (d + 1) t u v) false := by
 unfold Op.eqGuardIn
 have hu : ∀ x, P.underlying t = some x -> Still P (Go.underlying t) x := fun x hx => by
  unfold Go.underlying
  refine Still.bind Still.program ?_
  rw [hx]
  exact Still.pure x
 rcases ht.1 with ht1 | ⟨k, ht1⟩ | ht1
 all_goals exact Still.bind (hu _ ht1) (Still.pure _)
theorem still_guard {a b : Value} (op : BinOp) {t : TypeId} (x y : Operand) (ht : Basic P t) : Still P (Go.eqGuard op t x y a b) () := by
 unfold Go.eqGuard
 have hin := still_guardIn (P := P) ht a b 9999
 have main : Still P (match a, b with
  | .nilIface, .nilIface => (if ((x matches .const _) || (y matches .const _)) = true then (Pure.pure () : Sem Unit) else (Op.eqGuardIn Op.maxDepth t a b >>= fun c => if c then unsupported (.noEntry "binop/eql: two nil values of an interface type with methods, neither of them the literal nil") else Pure.pure ()))
  | .agg _, .agg _ => (Go.program >>= fun p => Go.program >>= fun q => if (!p.eqGuardType q.depth t) = true then Pure.pure () else (Op.eqGuardIn Op.maxDepth t a b >>= fun c => if c then unsupported (.noEntry "binop/eql: two nil values of an interface type with methods, in a part of a struct or an array") else Pure.pure ()))
  | _, _ => Pure.pure ()) () := by
  split
  ·generalize ((x matches .const _) || (y matches .const _)) = c
   cases c
   ·exact Still.bind hin (Still.pure _)
   ·exact Still.pure _
  ·refine Still.bind Still.program (Still.bind Still.program ?_)
   split
   ·exact Still.pure _
   ·exact Still.bind hin (Still.pure _)
  ·exact Still.pure _
 cases op <;> first | exact Still.pure _ | exact main
theorem Sim.eqGuard {ρ : Ren} {a b a' b' : Value} (op : BinOp) {t : TypeId} (x y : Operand) (ht : Basic P t) (h : VRel S ρ a a') (hz : VRel S ρ b b') : Sim P S N0 ρ TrueR (Go.eqGuard op t x y a b) (Go.eqGuard op t x y a' b') :=
 (Still.sim (still_guard op x y ht) (still_guard op x y ht)).weak fun _ _ _ _ _ => trivial
theorem Sim.equalB {ρ : Ren} {a b a' b' : Value} (neg : Bool) {t : TypeId} (ht : Basic P t) (h : VRel S ρ a a') (hz : VRel S ρ b b') :
  Sim P S N0 ρ (VRel S) (Op.equal t a b >>= fun c => Pure.pure (.bool (if neg then !c else c))) (Op.equal t a' b' >>= fun c => Pure.pure (.bool (if neg then !c else c))) := by
 refine Sim.bind (Sim.equalIn 9999 ht h hz) fun ρ1 u v e1 huv => ?_
 obtain rfl : u = v := huv
 exact Sim.pure fun _ _ => .bool _
theorem AdR.of {ρ : Ren} {a b : Addr} (h : VRel S ρ (.pointer (some a)) (.pointer (some b))) : AdR ρ a b := by
 cases h
 exact ⟨by assumption, rfl, rfl⟩
theorem NoOk.und {t : TypeId} {f : TypeDesc -> Sem β} (h : ∀ u, P.underlying t = some u -> NoOk P (f u)) : NoOk P (Go.underlying t >>= f) := fun v a v' hr => by
 have hr : (match P.underlying t with | some d => Result.ok d v | none => .halt (.stuck "no such type") v : Result TypeDesc) = (Go.underlying t).run P v -> False := fun _ => by
  unfold Go.underlying at hr
  cases hu : P.underlying t with
  | none =>
   have hr : ((Sem.bind (Sem.bind Go.program fun p => match p.underlying t with | some d => Sem.pure d | none => Go.stuck "no such type") f).run P v) = .ok a v' := hr
   simp only [Go.program, Sem.bind, Sem.run, hu, Go.stuck] at hr
   cases hr
  | some u =>
   have hr : ((Sem.bind (Sem.bind Go.program fun p => match p.underlying t with | some d => Sem.pure d | none => Go.stuck "no such type") f).run P v) = .ok a v' := hr
   simp only [Go.program, Sem.bind, Sem.run, hu] at hr
   exact h u hu v a v' hr
 refine hr ?_
 unfold Go.underlying
 show _ = (Sem.bind Go.program fun p => match p.underlying t with | some d => Sem.pure d | none => Go.stuck "no such type").run P v
 simp only [Go.program, Sem.bind, Sem.run]
 cases P.underlying t <;> rfl
theorem noOk_equalL {t : TypeId} (ht : Basic P t) (b : Value) (d : Nat) : NoOk P (Op.equalIn (d + 1) t .nilFunc b) := by
 unfold Op.equalIn
 refine NoOk.und ?_
 rcases ht.1 with ht1 | ⟨k, ht1⟩ | ht1 <;> intro u hu <;> rw [ht1] at hu <;> injection hu with hu <;> subst hu <;> cases b <;> first | exact NoOk.halt _ | (rename_i p; cases p <;> exact NoOk.halt _) | (rename_i n; rcases n with (_ | _) | _ <;> exact NoOk.halt _)
theorem noOk_equalR {t : TypeId} (ht : Basic P t) (a : Value) (d : Nat) : NoOk P (Op.equalIn (d + 1) t a .nilFunc) := by
 unfold Op.equalIn
 refine NoOk.und ?_
 rcases ht.1 with ht1 | ⟨k, ht1⟩ | ht1 <;> intro u hu <;> rw [ht1] at hu <;> injection hu with hu <;> subst hu <;> cases a <;> first | exact NoOk.halt _ | (rename_i p; cases p <;> exact NoOk.halt _) | (rename_i n; rcases n with (_ | _) | _ <;> exact NoOk.halt _)
theorem noOk_binL {t : TypeId} (op : BinOp) (ht : Basic P t) (b : Value) : NoOk P (Go.binOp op t .nilFunc b) := by
 have e : NoOk P (Op.equal t .nilFunc b) := noOk_equalL ht b 9999
 unfold Go.binOp
 cases op <;> cases b <;> first | exact NoOk.halt _ | exact NoOk.first e | (rename_i p; cases p <;> exact NoOk.halt _)
theorem noOk_binR {t : TypeId} (op : BinOp) (ht : Basic P t) (a : Value) : NoOk P (Go.binOp op t a .nilFunc) := by
 have e : NoOk P (Op.equal t a .nilFunc) := noOk_equalR ht a 9999
 unfold Go.binOp
 cases op <;> cases a <;> first | exact NoOk.halt _ | exact NoOk.first e | (rename_i p; cases p <;> exact NoOk.halt _)
theorem Sim.binOp {ρ : Ren} {a b a' b' : Value} (op : BinOp) {t : TypeId} (ht : Basic P t) (h : VRel S ρ a a') (hz : VRel S ρ b b') : Sim P S N0 ρ (VRel S) (Go.binOp op t a b) (Go.binOp op t a' b') := by
 have hne := ht.noPtr
 have ptrs : ∀ {p p' q q' : Addr}, AdR ρ p p' -> AdR ρ q q' -> Sim P S N0 ρ (VRel S) (do Op.addrSub .u64 (<- Go.behindNumber p).1 (<- Go.behindNumber q).1) (do Op.addrSub .u64 (<- Go.behindNumber p').1 (<- Go.behindNumber q').1) := fun {_ _ _ _} h1 h2 =>
  Sim.bind (Sim.behindNumber h1) fun ρ1 u v e1 huv => Sim.bind (Sim.behindNumber (h2.mono e1)) fun ρ2 u' v' e2 huv' => Sim.addrSub _ (huv.1.mono e2) huv'.1
 have cmps : ∀ (o : BinOp) {p p' q q' : Addr}, AdR ρ p p' -> AdR ρ q q' -> Sim P S N0 ρ (VRel S) (do Op.addrCmp o (<- Go.behindNumber p).1 (<- Go.behindNumber q).1) (do Op.addrCmp o (<- Go.behindNumber p').1 (<- Go.behindNumber q').1) := fun o {_ _ _ _} h1 h2 =>
  Sim.bind (Sim.behindNumber h1) fun ρ1 u v e1 huv => Sim.bind (Sim.behindNumber (h2.mono e1)) fun ρ2 u' v' e2 huv' => Sim.addrCmp _ (huv.1.mono e2) huv'.1
 have mods : ∀ (k : IntKind) (n : Int) {p p' : Addr}, AdR ρ p p' -> Sim P S N0 ρ (VRel S) (do Op.addrMod k (<- Go.behindNumber p).1 n) (do Op.addrMod k (<- Go.behindNumber p').1 n) := fun k n {_ _} h1 =>
  Sim.bind (Sim.behindNumber h1) fun ρ1 u v e1 huv => Sim.addrMod _ _ huv.1
 have adds : ∀ {x y z z' : Value}, (∃ p, x = .pointer p) -> VRel S ρ x y -> VRel S ρ z z' -> Sim P S N0 ρ (VRel S) (do if (<- Go.underlying t) matches .unsafePointer then movedPointer t x z else Go.movedNumber t x z) (do if (<- Go.underlying t) matches .unsafePointer then movedPointer t y z' else Go.movedNumber t y z') := fun hp hx hz => by
  refine Sim.bind (Sim.underlying t) fun ρ1 u v e1 huv => ?_
  obtain ⟨hu, rfl⟩ := huv
  refine Sim.ite (fun hc => by cases v <;> first | (exact absurd hu hne) | (cases hc)) fun _ => Sim.moved ht (hx.mono e1) hp (hz.mono e1)
 have eqls : ∀ (neg : Bool), Sim P S N0 ρ (VRel S) (Op.equal t a b >>= fun c => Pure.pure (.bool (if neg then !c else c))) (Op.equal t a' b' >>= fun c => Pure.pure (.bool (if neg then !c else c))) := fun neg => Sim.equalB neg ht h hz
 by_cases hja : a = .nilFunc
 ·subst hja; exact Sim.noOk (noOk_binL op ht b)
 by_cases hjb : b = .nilFunc
 ·subst hjb; exact Sim.noOk (noOk_binR op ht a)
 have e1 := eqls false
 have e2 := eqls true
 clear eqls
 have hh := h
 have hzz := hz
 cases op
 case eql => cases h <;> cases hz <;> first | exact absurd rfl hja | exact absurd rfl hjb | exact e1 | exact Sim.ite (fun _ => Sim.halt) fun _ => Sim.intCmp .eql _ _ | exact Sim.stringOp .eql _ _
 case neq => cases h <;> cases hz <;> first | exact absurd rfl hja | exact absurd rfl hjb | exact e2 | exact Sim.ite (fun _ => Sim.halt) fun _ => Sim.intCmp .neq _ _ | exact Sim.stringOp .neq _ _
 case shl => cases h <;> cases hz <;> first | exact absurd rfl hja | exact absurd rfl hjb | exact Sim.halt | (unfold Go.binOp; exact Sim.shift _ _ _ _ _) | (unfold Go.binOp; exact Sim.stringOp _ _ _)
 case shr => cases h <;> cases hz <;> first | exact absurd rfl hja | exact absurd rfl hjb | exact Sim.halt | (unfold Go.binOp; exact Sim.shift _ _ _ _ _) | (unfold Go.binOp; exact Sim.stringOp _ _ _)
 case mul => cases h <;> cases hz <;> first | exact absurd rfl hja | exact absurd rfl hjb | exact Sim.halt | exact Sim.ite (fun _ => Sim.halt) fun _ => Sim.intArith .mul _ _ _ | exact Sim.stringOp .mul _ _
 case quo => cases h <;> cases hz <;> first | exact absurd rfl hja | exact absurd rfl hjb | exact Sim.halt | exact Sim.ite (fun _ => Sim.halt) fun _ => Sim.intDiv .quo _ _ _ | exact Sim.stringOp .quo _ _
 case rem => cases h <;> cases hz <;> first | exact absurd rfl hja | exact absurd rfl hjb | exact Sim.halt | exact Sim.ite (fun _ => Sim.halt) fun _ => Sim.intDiv .rem _ _ _ | exact Sim.stringOp .rem _ _ | exact mods _ _ (AdR.of hh) | exact mods _ _ (AdR.of hzz)
 case or => cases h <;> cases hz <;> first | exact absurd rfl hja | exact absurd rfl hjb | exact Sim.halt | exact Sim.ite (fun _ => Sim.halt) fun _ => Sim.intBits .or _ _ _ | exact Sim.stringOp .or _ _
 case xor => cases h <;> cases hz <;> first | exact absurd rfl hja | exact absurd rfl hjb | exact Sim.halt | exact Sim.ite (fun _ => Sim.halt) fun _ => Sim.intBits .xor _ _ _ | exact Sim.stringOp .xor _ _
 case andNot => cases h <;> cases hz <;> first | exact absurd rfl hja | exact absurd rfl hjb | exact Sim.halt | exact Sim.ite (fun _ => Sim.halt) fun _ => Sim.intBits .andNot _ _ _ | exact Sim.stringOp .andNot _ _
 case and => cases h <;> cases hz <;> first | exact absurd rfl hja | exact absurd rfl hjb | exact Sim.halt | exact Sim.ite (fun _ => Sim.halt) fun _ => Sim.intBits .and _ _ _ | exact Sim.stringOp .and _ _ | exact mods _ _ (AdR.of hh) | exact mods _ _ (AdR.of hzz)
 case lss => cases h <;> cases hz <;> first | exact absurd rfl hja | exact absurd rfl hjb | exact Sim.halt | exact Sim.ite (fun _ => Sim.halt) fun _ => Sim.intCmp .lss _ _ | exact Sim.stringOp .lss _ _ | exact cmps .lss (AdR.of hh) (AdR.of hzz)
 case leq => cases h <;> cases hz <;> first | exact absurd rfl hja | exact absurd rfl hjb | exact Sim.halt | exact Sim.ite (fun _ => Sim.halt) fun _ => Sim.intCmp .leq _ _ | exact Sim.stringOp .leq _ _ | exact cmps .leq (AdR.of hh) (AdR.of hzz)
 case gtr => cases h <;> cases hz <;> first | exact absurd rfl hja | exact absurd rfl hjb | exact Sim.halt | exact Sim.ite (fun _ => Sim.halt) fun _ => Sim.intCmp .gtr _ _ | exact Sim.stringOp .gtr _ _ | exact cmps .gtr (AdR.of hh) (AdR.of hzz)
 case geq => cases h <;> cases hz <;> first | exact absurd rfl hja | exact absurd rfl hjb | exact Sim.halt | exact Sim.ite (fun _ => Sim.halt) fun _ => Sim.intCmp .geq _ _ | exact Sim.stringOp .geq _ _ | exact cmps .geq (AdR.of hh) (AdR.of hzz)
 case add => cases h <;> cases hz <;> first | exact absurd rfl hja | exact absurd rfl hjb | exact Sim.halt | exact Sim.ite (fun _ => Sim.halt) fun _ => Sim.intArith .add _ _ _ | exact Sim.stringOp .add _ _ | exact adds ⟨_, rfl⟩ hh hzz | exact Sim.moved ht hzz ⟨_, rfl⟩ hh
 case sub => cases h <;> cases hz <;> first | exact absurd rfl hja | exact absurd rfl hjb | exact Sim.halt | exact Sim.ite (fun _ => Sim.halt) fun _ => Sim.intArith .sub _ _ _ | exact Sim.stringOp .sub _ _ | exact Sim.moved ht hh ⟨_, rfl⟩ (.int _ _) | exact ptrs (AdR.of hh) (AdR.of hzz)
end
end
section
open Go Go.Conc
section
variable {P : Program} {S : FuncId -> Prop} {N0 : Nat} {α β γ δ σ : Type}
def convB (P : Program) (s d : TypeId) : Bool :=
 match P.underlying s, P.underlying d with
 | some (.int _), some (.int _) => true
 | some (.int _), some .string => true
 | some .string, some .string => true
 | some .string, some (.slice e) => (match P.underlying e with | some (.int .u8) => true | _ => false)
 | some (.slice e), some .string => (match P.underlying e with | some (.int .u8) => true | _ => false)
 | _, _ => false
theorem Sim.convert {ρ : Ren} {x y : Value} {s d : TypeId} (h : convB P s d = true) (hx : VRel S ρ x y) : Sim P S N0 ρ (VRel S) (Go.convert s d x) (Go.convert s d y) := by
 unfold Go.convert
 refine Sim.bind (Sim.underlying s) fun ρ1 u u' e1 hu => ?_
 obtain ⟨hu, rfl⟩ := hu
 refine Sim.bind (Sim.underlying d) fun ρ2 v v' e2 hv => ?_
 obtain ⟨hv, rfl⟩ := hv
 have hx := (hx.mono e1).mono e2
 unfold convB at h
 rw [hu, hv] at h
 cases u' <;> cases v' <;> try (exact absurd h Bool.false_ne_true)
 ·cases hx <;> first | exact Sim.halt | exact Sim.pure fun _ _ => .int _ _
 ·cases hx <;> first | exact Sim.halt | exact Sim.pure fun _ _ => .string _
 ·cases hx <;> first | exact Sim.halt | exact Sim.pure fun _ _ => .string _
 ·rename_i e
  simp only at h
  cases hx <;> first | exact Sim.halt | skip
  refine Sim.bind (Sim.underlying e) fun ρ3 w w' e3 hw => ?_
  obtain ⟨hw, rfl⟩ := hw
  rw [hw] at h
  cases w' <;> try (exact absurd h Bool.false_ne_true)
  rename_i k
  cases k <;> try (exact absurd h Bool.false_ne_true)
  exact Sim.stringToBytes _ _
 ·rename_i e
  simp only at h
  have hw : P.underlying e = some (.int .u8) := by
   cases he : P.underlying e with
   | none => rw [he] at h; cases h
   | some w' =>
    rw [he] at h
    cases w' <;> try (exact absurd h Bool.false_ne_true)
    rename_i k
    cases k <;> first | rfl | (exact absurd h Bool.false_ne_true)
  have key : ∀ {x y : Value}, VRel S ρ2 x y -> Sim P S N0 ρ2 (VRel S) (Go.underlying e >>= fun d => match d with | .int .u8 => Conv.bytesToString x | .int .i32 => Conv.runesToString x | _ => stuck "Convert: a slice of what to string?") (Go.underlying e >>= fun d => match d with | .int .u8 => Conv.bytesToString y | .int .i32 => Conv.runesToString y | _ => stuck "Convert: a slice of what to string?") := fun hx => by
   refine Sim.bind (Sim.underlying e) fun ρ3 w w' e3 hw' => ?_
   obtain ⟨hw', rfl⟩ := hw'
   rw [hw] at hw'
   injection hw' with hw'
   subst hw'
   exact Sim.bytesToString (hx.mono e3)
  have hxx := hx
  cases hx <;> first | exact key hxx | exact Sim.noOk (NoOk.und fun u hu => by rw [hw] at hu; injection hu with hu; subst hu; exact NoOk.halt _) | exact Sim.pure fun _ _ => .string _
theorem Sim.setIter {ρ : Ren} {b c : Nat} (h : ρ b c) (hN : N0 <= b) (s : ByteArray) (p : Nat) : Sim P S N0 ρ TrueR (Go.setObj b (.stringIter s p)) (Go.setObj c (.stringIter s p)) := fun ρ₁ v w e1 hw u v' hr => by
 have hbc := e1 _ _ h
 have hlt := hw.dom _ _ hbc
 have set : ∀ (x : World) (k j : Nat) (o : Obj), k < x.heap.size -> ({ x with heap := x.heap.setIfInBounds k o } : World).heap[j]? = if k = j then some o else x.heap[j]? := fun x k j o hk => by
  show (x.heap.setIfInBounds k o)[j]? = _
  rw [Array.getElem?_setIfInBounds]
  split
  ·first | rfl | rw [if_pos hk]
  ·rfl
 have key : ∀ (o o' : Obj), v.heap[b]? = some o -> w.heap[c]? = some o' -> (∀ cs t fr, o ≠ .cells cs t fr) -> (∀ cs t fr, o' ≠ .cells cs t fr) -> o'.isChan = false ->
   ∃ ρ₂ b' w' evs, Ext ρ₁ ρ₂ /\ (∀ es, (Go.setObj c (.stringIter s p)).runT P w es = (.ok b' w', es ++ evs)) /\ TrueR ρ₂ u b' /\ WRel P S N0 ρ₂ v' w' /\ Guar N0 ρ₁ ρ₂ w w' evs := fun o o' h1 h2 n1 n2 hc => by
  have hr : (match v.heap[b]? with | some (.cells ..) => Result.halt (.stuck "setObj: a row of cells") v | some _ => .ok () { v with heap := v.heap.setIfInBounds b (.stringIter s p) } | none => .halt (.stuck "setObj: no such block") v) = .ok u v' := hr
  rw [h1] at hr
  have hr : Result.ok () { v with heap := v.heap.setIfInBounds b (.stringIter s p) } = .ok u v' := by
   rw [<- hr]; cases o <;> first | rfl | exact absurd rfl (n1 _ _ _)
  injection hr with hr1 hr2
  subst hr2
  refine ⟨ρ₁, (), { w with heap := w.heap.setIfInBounds c (.stringIter s p) }, #[⟨.obj c, true, false⟩], Ext.refl _, fun es => ?_, trivial, ⟨hw.inj, hw.func, fun b1 c1 h6 => ?_, fun b1 c1 h6 => ?_, hw.tape, hw.drawn, ?_, hw.glob, ?_, hw.same, hw.nl.set rfl⟩, ⟨by simp, rfl, rfl, rfl, Nat.le_refl _, fun c1 hc1 hn => ?_, fun b1 c1 k1 k2 => absurd k1 k2, fun e he => ?_⟩⟩
  ·simp only [Go.setObj, Sem.runT, h2]
   cases o' <;> first | exact absurd rfl (n2 _ _ _) | simp [Obj.isChan]
  ·have := hw.dom b1 c1 h6
   simpa using this
  ·rw [set v b b1 _ hlt.1, set w c c1 _ hlt.2]
   by_cases hb : b = b1
   ·subst hb
    obtain rfl := hw.func _ _ _ h6 hbc
    rw [if_pos rfl, if_pos rfl]
    exact .inr (.inr ⟨_, _, s, p, rfl, rfl, .inl rfl, .inr ⟨rfl, rfl, hN⟩⟩)
   ·have hc1 : c ≠ c1 := fun e => hb (hw.inj _ _ _ hbc (e ▸ h6))
    rw [if_neg hb, if_neg hc1]
    exact hw.cell b1 c1 h6
  ·have := hw.low; simpa using this
  ·have := hw.lowW; simpa using this
  ·rw [set w c c1 _ hlt.2, if_neg]
   rintro rfl
   exact hn b hN hbc
  ·simp only [List.mem_toArray, List.mem_cons, List.not_mem_nil, or_false] at he
   rw [he]; exact .wro hN hbc
 rcases hw.cell _ _ hbc with ⟨cs, ds, t, fr, fr', h1, h2, h3, _⟩ | ⟨y, z, l, h1, h2, h3⟩ | ⟨o, o', s', p', h1, h2, rfl | rfl, rfl | ⟨rfl, _, h3⟩⟩
 ·exfalso
  have hr : (match v.heap[b]? with | some (.cells ..) => Result.halt (.stuck "setObj: a row of cells") v | some _ => .ok () { v with heap := v.heap.setIfInBounds b (.stringIter s p) } | none => .halt (.stuck "setObj: no such block") v) = .ok u v' := hr
  rw [h1] at hr
  cases hr
 all_goals exact key _ _ h1 h2 (fun _ _ _ e => by cases e) (fun _ _ _ e => by cases e) rfl
def rangeB (P : Program) (t : TypeId) : Bool := match P.underlying t with | some .string => true | _ => false
theorem Sim.range {ρ : Ren} {x y : Value} {t : TypeId} (ht : rangeB P t = true) (h : VRel S ρ x y) : Sim P S N0 ρ (VRel S) (Instr.range t x) (Instr.range t y) := by
 unfold Instr.range
 refine Sim.bind (Sim.underlying t) fun ρ1 u u' e1 hu => ?_
 obtain ⟨hu, rfl⟩ := hu
 have hu' : u' = .string := by
  unfold rangeB at ht
  rw [hu] at ht
  cases u' <;> first | rfl | exact absurd ht Bool.false_ne_true
 subst hu'
 cases h <;> first | exact Sim.halt | skip
 rename_i s
 refine Sim.bind (A := fun _ o o' => o = .stringIter s 0 /\ o' = .stringIter s 0) (Sim.pure fun _ _ => ⟨rfl, rfl⟩) fun ρ2 o o' e2 ho => ?_
 obtain ⟨rfl, rfl⟩ := ho
 exact Sim.bind (Sim.newObj (.inr (.inr ⟨_, _, rfl, rfl⟩))) fun ρ3 b c e3 hbc => Sim.pure fun ρ4 e4 => .ptr _ _ _ _ (e4 _ _ hbc.1)
theorem Sim.next {ρ : Ren} {x y : Value} (t : TypeId) (h : VRel S ρ x y) : Sim P S N0 ρ (VRel S) (Instr.next x true t) (Instr.next y true t) := by
 unfold Instr.next
 cases h <;> first | exact Sim.halt | skip
 rename_i b c off sp hbc
 cases off with
 | succ n => exact Sim.halt
 | zero =>
  refine Sim.getObj hbc (fun ρ1 a a' l e1 _ => Sim.halt) (fun ρ1 s p e1 hN => ?_) (fun ρ1 s p o e1 _ => Sim.halt)
  simp only
  refine Sim.ite (fun _ => ?_) fun _ => Sim.pure fun _ _ => .tuple _ _ rfl fun i h1 h2 => ?_
  ·refine Sim.bind (Sim.setIter (e1 _ _ hbc) hN _ _) fun ρ2 _ _ e2 _ => Sim.pure fun ρ3 e3 => ?_
   have := AsRel.push (AsRel.push (AsRel.single (S := S) (ρ := ρ3) (.bool true)) (.int .i64 p)) (.int .i32 (Utf8.decode s p).1)
   exact .tuple _ _ this.1 this.2
  ·have : AsRel S ρ #[.bool false] #[.bool false] := AsRel.single (.bool false)
   exact (this.2 i h1 h2).mono (e1.trans (by assumption))
theorem Sim.makeInterface {ρ : Ren} {x y : Value} (t : TypeId) (h : VRel S ρ x y) : Sim P S N0 ρ (VRel S) (Instr.makeInterface t x) (Instr.makeInterface t y) := by
 unfold Instr.makeInterface
 refine Sim.bind (Sim.underlying t) fun ρ1 u u' e1 hu => ?_
 obtain ⟨hu, rfl⟩ := hu
 cases u' <;> first | exact Sim.halt | exact Sim.pure fun ρ2 e2 => .iface _ _ _ ((h.mono e1).mono e2)
theorem NoOk.panic (x : Value) : NoOk P (Instr.panic x) := by
 unfold Instr.panic
 cases x <;> first | exact NoOk.halt _ | skip
 refine NoOk.bind fun a => ?_
 split
 ·exact NoOk.halt _
 ·exact NoOk.runtimePanic _
theorem Sim.max {ρ : Ren} {x x' y y' : Value} (ts : Array TypeId) (t : TypeId) (hx : VRel S ρ x x') (hy : VRel S ρ y y') : Sim P S N0 ρ (VRel S) (Builtin.max_ ts t #[x, y]) (Builtin.max_ ts t #[x', y']) := by
 have key : Sim P S N0 ρ (VRel S) (Builtin.max2 x y) (Builtin.max2 x' y') := by
  unfold Builtin.max2
  cases hx <;> cases hy <;> first | exact Sim.halt | exact Sim.pure fun _ _ => .int _ _ | skip
  refine Sim.bind (A := VRel S) (Sim.stringOp .geq _ _) fun ρ1 u u' e1 hu => ?_
  refine Sim.bind (Sim.asBool hu) fun ρ2 b b' e2 hb => ?_
  obtain rfl : b = b' := hb
  exact Sim.pure fun _ _ => .string _
 exact Sim.bind key fun ρ1 u u' e1 hu => Sim.pure fun ρ2 e2 => hu.mono e2
theorem Sim.nilCheck {ρ : Ren} {ev ev' : Operand -> Value} (o : Oper) (x : Operand) (ho : o.op = .nilCheck x) (h : VRel S ρ (ev x) (ev' x)) : Sim P S N0 ρ (fun ρ' a b => ∃ u v, a = .value u /\ b = .value v /\ VRel S ρ' u v) (Go.execOp ev o) (Go.execOp ev' o) := by
 unfold Go.execOp
 rw [ho]
 simp only
 generalize ev x = a at *
 generalize ev' x = b at *
 have hh := h
 cases h <;> first | exact Sim.noOk (NoOk.runtimePanic _) | exact Sim.pure fun ρ' e => ⟨_, _, rfl, rfl, hh.mono e⟩
inductive NRel (S : FuncId -> Prop) (ρ : Ren) : Next -> Next -> Prop
 | value (x y : Value) : VRel S ρ x y -> NRel S ρ (.value x) (.value y)
 | skip : NRel S ρ .skip .skip
 | enter (f : FuncId) (as bs : Array Value) : S f -> AsRel S ρ as bs -> NRel S ρ (.enter f as) (.enter f bs)
 | comm (u u' x x' z z' : Value) : NRel S ρ (.comm #[{ chan := u, send := some x, zero := z }] true .send) (.comm #[{ chan := u', send := some x', zero := z' }] true .send)
theorem NRel.mono {ρ ρ' : Ren} {x y : Next} (h : NRel S ρ x y) (e : Ext ρ ρ') : NRel S ρ' x y := by
 cases h with
 | value x y h => exact .value _ _ (h.mono e)
 | skip => exact .skip
 | enter f as bs hf h => exact .enter _ _ _ hf (h.mono e)
 | comm u u' x x' z z' => exact .comm _ _ _ _ _ _
def GlOk (G : Nat -> Bool) (ρ : Ren) : Prop := ∀ g, G g = true -> ρ g g
theorem GlOk.mono {G : Nat -> Bool} {ρ ρ' : Ren} (h : GlOk G ρ) (e : Ext ρ ρ') : GlOk G ρ' := fun g hg => e _ _ (h g hg)
def FnOk (P : Program) (S : FuncId -> Prop) (G : Nat -> Bool) (N0 : Nat) : Prop := ∀ f, S f -> ∃ fn, P.funcs[f]? = some fn /\ (fn.name == "runtime.NumGoroutine") = false /\
 (fn.body.isNone = false ∨ (fn.body.isNone = true /\ (Extern.findNext fn).isNone = true /\ ∃ e, Extern.find fn = some e /\ ∀ (ρ : Ren) as bs, GlOk G ρ -> AsRel S ρ as bs -> Sim P S N0 ρ (VRel S) (e as) (e bs)))
theorem Sim.value {ρ : Ren} {s s' : Sem Value} (h : Sim P S N0 ρ (VRel S) s s') : Sim P S N0 ρ (NRel S) (s >>= fun v => Pure.pure (.value v)) (s' >>= fun v => Pure.pure (.value v)) :=
 Sim.bind h fun ρ1 x y e1 hxy => Sim.pure fun ρ2 e2 => .value _ _ (hxy.mono e2)
theorem Sim.unit {ρ : Ren} {s s' : Sem Unit} (h : Sim P S N0 ρ TrueR s s') : Sim P S N0 ρ (NRel S) (s >>= fun _ => Pure.pure .skip) (s' >>= fun _ => Pure.pure .skip) :=
 Sim.bind h fun ρ1 x y e1 hxy => Sim.pure fun ρ2 e2 => .skip
theorem Sim.callFunc {ρ : Ren} {G : Nat -> Bool} {as bs : Array Value} (hF : FnOk P S G N0) (hG : GlOk G ρ) (f : FuncId) (hf : S f) (h : AsRel S ρ as bs) : Sim P S N0 ρ (NRel S) (Go.callFunc f as) (Go.callFunc f bs) := by
 unfold Go.callFunc
 refine Sim.bind Sim.program fun ρ1 p q e1 hp => ?_
 obtain ⟨rfl, rfl⟩ := hp
 obtain ⟨fn, h1, h2, h3⟩ := hF f hf
 rw [h1]
 simp only [h2, Bool.false_eq_true, if_false]
 rcases h3 with h3 | ⟨h3, h4, e, h5, h6⟩
 ·simp only [h3, Bool.false_eq_true, if_false]
  exact Sim.pure fun ρ2 e2 => .enter _ _ _ hf ((h.mono e1).mono e2)
 ·simp only [h3, if_true]
  refine Sim.bind (Sim.mark (.inr ⟨f, rfl⟩)) fun ρ2 _ _ e2 _ => ?_
  rw [Option.isNone_iff_eq_none] at h4
  simp only [h4, h5]
  exact Sim.value (h6 ρ2 as bs ((hG.mono e1).mono e2) ((h.mono e1).mono e2))
theorem AsRel.map {ρ : Ren} {ev ev' : Operand -> Value} (xs : Array Operand) (h : ∀ x ∈ xs, VRel S ρ (ev x) (ev' x)) : AsRel S ρ (xs.map ev) (xs.map ev') :=
 ⟨by simp, fun i h1 h2 => by simpa using h _ (Array.getElem_mem (by simpa using h1))⟩
theorem Sim.callValue {ρ : Ren} {G : Nat -> Bool} {f f' : Value} {as bs : Array Value} (hF : FnOk P S G N0) (hG : GlOk G ρ) (hf : VRel S ρ f f') (h : AsRel S ρ as bs) :
  Sim P S N0 ρ (NRel S) (Deferred.ofValue f as >>= fun d => invoke d.target d.args) (Deferred.ofValue f' bs >>= fun d => invoke d.target d.args) := by
 cases hf
 case yield l =>
  refine Sim.bind (A := fun ρ' (d d' : Deferred) => d.target = .fn (.yield l) #[]) (Sim.pure fun _ _ => rfl) fun ρ1 d d' e1 hd => ?_
  intro ρ2 v w e2 hw a v' hr
  exfalso
  rw [hd] at hr
  have hr : (Instr.yield l d.args).run P v = .ok a v' := hr
  unfold Instr.yield Instr.getLoop at hr
  have hr : (Sem.bind (Sem.bind (Go.getObj l) _) _).run P v = .ok a v' := hr
  rw [Sem.run_bind', Sem.run_bind'] at hr
  unfold Go.getObj Sem.run at hr
  cases ho : v.heap[l]? with
  | none => rw [ho] at hr; cases hr
  | some o =>
   rw [ho] at hr
   have := hw.nl l o ho
   cases o <;> first | cases hr | cases this
 all_goals first | exact Sim.halt | exact Sim.noOk (NoOk.runtimePanic _) | skip
 rename_i f as1 bs1 cs1 ds1 h0 h1 h2 h3 h4
 refine Sim.bind (A := fun ρ' (d d' : Deferred) => d = { target := .fn (.func f) cs1, args := as1 ++ as } /\ d' = { target := .fn (.func f) ds1, args := bs1 ++ bs }) (Sim.pure fun _ _ => ⟨rfl, rfl⟩) fun ρ1 d d' e1 hd => ?_
 obtain ⟨rfl, rfl⟩ := hd
 exact Sim.callFunc hF (hG.mono e1) f h0 ((((show AsRel S ρ as1 bs1 from ⟨h1, h2⟩).append h).append (show AsRel S ρ cs1 ds1 from ⟨h3, h4⟩)).mono e1)
def pureV : Nat -> Value -> Bool
 | _, .bool _ | _, .int _ _ | _, .string _ | _, .pointer none | _, .slice none _ _ | _, .chan none | _, .map none | _, .nilFunc | _, .nilIface => true
 | n + 1, .agg cs | n + 1, .tuple cs => cs.all (pureV n)
 | _, _ => false
theorem pureV_rel {ρ : Ren} : ∀ (n : Nat) (v : Value), pureV n v = true -> VRel S ρ v v := by
 intro n
 induction n with
 | zero =>
  intro v h
  cases v with
  | bool b => exact .bool b
  | int k x => exact .int k x
  | string s => exact .string s
  | pointer a => cases a with
   | none => exact .nilp
   | some a => exact absurd h Bool.false_ne_true
  | slice a n k => cases a with
   | none => exact .nils _ _
   | some a => exact absurd h Bool.false_ne_true
  | chan a => cases a with
   | none => exact .chan _
   | some a => exact absurd h Bool.false_ne_true
  | map a => cases a with
   | none => exact .nilMap
   | some a => exact absurd h Bool.false_ne_true
  | nilFunc => exact .nilFunc _ rfl
  | nilIface => exact .nilIface
  | _ => exact absurd h Bool.false_ne_true
 | succ n ih =>
  intro v h
  cases v with
  | bool b => exact .bool b
  | int k x => exact .int k x
  | string s => exact .string s
  | pointer a => cases a with
   | none => exact .nilp
   | some a => exact absurd h Bool.false_ne_true
  | slice a n k => cases a with
   | none => exact .nils _ _
   | some a => exact absurd h Bool.false_ne_true
  | chan a => cases a with
   | none => exact .chan _
   | some a => exact absurd h Bool.false_ne_true
  | map a => cases a with
   | none => exact .nilMap
   | some a => exact absurd h Bool.false_ne_true
  | nilFunc => exact .nilFunc _ rfl
  | nilIface => exact .nilIface
  | agg cs =>
   have h : cs.all (pureV n) = true := h
   rw [Array.all_eq_true] at h
   exact .agg cs cs rfl fun i h1 h2 => ih _ (h i h1)
  | tuple cs =>
   have h : cs.all (pureV n) = true := h
   rw [Array.all_eq_true] at h
   exact .tuple cs cs rfl fun i h1 h2 => ih _ (h i h1)
  | _ => exact absurd h Bool.false_ne_true
def basicB (P : Program) (t : TypeId) : Bool :=
 (match P.underlying t with | some .bool | some (.int _) | some .string => true | _ => false) && (match P.info? t with | some i => (match i.desc with | .named n _ => n != "sync.copyChecker" | _ => true) | none => true)
theorem basic_of {t : TypeId} (h : basicB P t = true) : Basic P t := by
 unfold basicB at h
 rw [Bool.and_eq_true] at h
 obtain ⟨h1, h2⟩ := h
 refine ⟨?_, fun i u hi hd => ?_⟩
 ·cases hu : P.underlying t with
  | none => rw [hu] at h1; cases h1
  | some d =>
   rw [hu] at h1
   cases d with
   | bool => exact .inl rfl
   | int k => exact .inr (.inl ⟨k, rfl⟩)
   | string => exact .inr (.inr rfl)
   | _ => exact absurd h1 Bool.false_ne_true
 ·rw [hi] at h2
  simp only [hd] at h2
  simp at h2
def okX (G Sb : Nat -> Bool) : Operand -> Bool
 | .tmp _ => true
 | .const v => pureV 8 v
 | .global g => G g
 | .func f => Sb f
def okB (P : Program) (b : Builtin) (n : Nat) (ts : Array TypeId) : Bool :=
 match b, n, ts.toList with
 | .append, 2, [_, t'] => (match P.underlying t' with | some (.int _) => false | _ => true)
 | .copy, 2, _ => true
 | .max, 2, _ => true
 | .len, 1, [t] => (match P.underlying t with | some (.chan _ _) | some (.map _ _) => false | _ => true)
 | _, _, _ => false
def okOp (P : Program) (X : Operand -> Bool) (Sb : Nat -> Bool) : Op -> Bool
 | .move x | .assign x => X x
 | .pick c a b => X c && X a && X b
 | .alloc _ => true
 | .box _ x => X x
 | .build _ ps => ps.all fun p => X p.2
 | .buildSlice _ _ ps => ps.all fun p => X p.2
 | .load _ x => X x
 | .store _ a x => X a && X x
 | .binOp _ t x y _ => basicB P t && X x && X y
 | .unOp _ _ x => X x
 | .convert s d x => convB P s d && X x
 | .makeFunc (.func f) first cap => Sb f && first.all X && cap.all X
 | .makeSlice _ l c => X l && X c
 | .slice _ x lo hi mx => X x && lo.all X && hi.all X && mx.all X
 | .fieldAddr _ x _ => X x
 | .field _ x _ => X x
 | .indexAddr _ x i => X x && X i
 | .index _ x i => X x && X i
 | .extract x _ => X x
 | .nilCheck x => X x
 | .makeInterface _ x => X x
 | .panic x => X x
 | .range t x => X x && rangeB P t
 | .next it str => X it && str
 | .send c x => X c && X x
 | .call { callee := .value f, args, .. } => X f && args.all X
 | .call { callee := .builtin b, args, argTypes } => args.all X && okB P b args.size argTypes
 | _ => false
theorem ps_rel {ρ : Ren} {ev ev' : Operand -> Value} {X : Operand -> Bool} (h : ∀ x, X x = true -> VRel S ρ (ev x) (ev' x)) : ∀ (ps : List (Nat × Operand)), ps.all (fun p => X p.2) = true -> PsRel S ρ (ps.map fun p => (p.1, ev p.2)) (ps.map fun p => (p.1, ev' p.2))
 | [], _ => .nil
 | p :: ps, hp => by
  rw [List.all_cons, Bool.and_eq_true] at hp
  exact .cons (h _ hp.1) (ps_rel h ps hp.2)
theorem op_rel {ρ : Ren} {ev ev' : Operand -> Value} {X : Operand -> Bool} (h : ∀ x, X x = true -> VRel S ρ (ev x) (ev' x)) (x : Option Operand) (hx : x.all X = true) : OpR S ρ (x.map ev) (x.map ev') := by
 cases x with
 | none => exact .inl ⟨rfl, rfl⟩
 | some x => exact .inr ⟨_, _, rfl, rfl, h x hx⟩
theorem all_mem {X : Operand -> Bool} {xs : Array Operand} (h : xs.all X = true) : ∀ x ∈ xs, X x = true := Array.all_eq_true_iff_forall_mem.1 h
theorem Sim.execOp {ρ : Ren} {G : Nat -> Bool} {ev ev' : Operand -> Value} {X : Operand -> Bool} {Sb : Nat -> Bool} (hZ : ZeroOk P S) (hF : FnOk P S G N0) (hG : GlOk G ρ) (hS : ∀ f, Sb f = true -> S f) (h : ∀ x, X x = true -> VRel S ρ (ev x) (ev' x)) (o : Oper) (ho : okOp P X Sb o.op = true) :
  Sim P S N0 ρ (NRel S) (Go.execOp ev o) (Go.execOp ev' o) := by
 obtain ⟨dst, op, tt, ps, af, gd⟩ := o
 simp only at ho
 cases op with
 | send c x => exact Sim.pure fun ρ1 e1 => .comm _ _ _ _ _ _
 | move x => exact Sim.pure fun ρ1 e1 => .value _ _ ((h x ho).mono e1)
 | assign x => exact Sim.pure fun ρ1 e1 => .value _ _ ((h x ho).mono e1)
 | pick c a b =>
  simp only [okOp, Bool.and_eq_true] at ho
  refine Sim.bind (Sim.asBool (h c ho.1.1)) fun ρ1 u v e1 huv => ?_
  obtain rfl : u = v := huv
  exact Sim.pure fun ρ2 e2 => by
   cases u
   ·exact .value _ _ (((h b ho.2).mono e1).mono e2)
   ·exact .value _ _ (((h a ho.1.2).mono e1).mono e2)
 | alloc t => exact Sim.value (Sim.alloc hZ t)
 | box t x => exact Sim.value (Sim.box t (h x ho))
 | build t ps =>
  refine Sim.value (Sim.build hZ t ?_)
  have ho : ps.all (fun p => X p.2) = true := ho
  rw [<- Array.all_toList] at ho
  simpa using ps_rel h ps.toList ho
 | buildSlice t n ps =>
  refine Sim.value (Sim.buildSlice hZ t n ?_)
  have ho : ps.all (fun p => X p.2) = true := ho
  rw [<- Array.all_toList] at ho
  simpa using ps_rel h ps.toList ho
 | load t x => exact Sim.value (Sim.loadAt t (h x ho))
 | store t a x =>
  simp only [okOp, Bool.and_eq_true] at ho
  exact Sim.unit (Sim.storeAt t (h a ho.1) (h x ho.2))
 | binOp op t x y yt =>
  simp only [okOp, Bool.and_eq_true] at ho
  have hb := basic_of ho.1.1
  exact Sim.value (Sim.bind (Sim.eqGuard op x y hb (h x ho.1.2) (h y ho.2)) fun ρ1 _ _ e1 _ => Sim.binOp op hb ((h x ho.1.2).mono e1) ((h y ho.2).mono e1))
 | unOp op t x => exact Sim.value (Sim.unary op (h x ho))
 | convert s d x =>
  simp only [okOp, Bool.and_eq_true] at ho
  exact Sim.value (Sim.convert ho.1 (h x ho.2))
 | makeFunc fn first cap =>
  cases fn with
  | func f =>
   simp only [okOp, Bool.and_eq_true] at ho
   have h1 := AsRel.map first fun x hx => h x (all_mem ho.1.2 x hx)
   have h2 := AsRel.map cap fun x hx => h x (all_mem ho.2 x hx)
   exact Sim.value (Sim.pure fun ρ1 e1 => .func f _ _ _ _ (hS f ho.1.1) h1.1 (h1.mono e1).2 h2.1 (h2.mono e1).2)
  | _ => exact absurd ho Bool.false_ne_true
 | makeSlice t l c =>
  simp only [okOp, Bool.and_eq_true] at ho
  exact Sim.value (Sim.makeSlice hZ t (h l ho.1) (h c ho.2))
 | slice t x lo hi mx =>
  simp only [okOp, Bool.and_eq_true] at ho
  exact Sim.value (Sim.sliceAt t (h x ho.1.1.1) (op_rel h lo ho.1.1.2) (op_rel h hi ho.1.2) (op_rel h mx ho.2))
 | fieldAddr s x f => exact Sim.value (Sim.fieldAt s (h x ho) f)
 | field s x f => exact Sim.value (Sim.field s (h x ho) f)
 | indexAddr t x i =>
  simp only [okOp, Bool.and_eq_true] at ho
  exact Sim.value (Sim.indexAt t (h x ho.1) (h i ho.2))
 | index t x i =>
  simp only [okOp, Bool.and_eq_true] at ho
  exact Sim.value (Sim.index t (h x ho.1) (h i ho.2))
 | extract x i => exact Sim.value (Sim.extract (h x ho) i)
 | nilCheck x =>
  refine (Sim.nilCheck _ x rfl (h x ho)).weak fun ρ' a b _ hab => ?_
  obtain ⟨u, v, rfl, rfl, huv⟩ := hab
  exact .value _ _ huv
 | makeInterface t x => exact Sim.value (Sim.makeInterface t (h x ho))
 | panic x => exact Sim.noOk (NoOk.first (NoOk.panic _))
 | range t x =>
  simp only [okOp, Bool.and_eq_true] at ho
  exact Sim.value (Sim.range ho.2 (h x ho.1))
 | next it str =>
  simp only [okOp, Bool.and_eq_true] at ho
  obtain ⟨h1, rfl⟩ := ho
  exact Sim.value (Sim.next tt (h it h1))
 | call c =>
  obtain ⟨callee, args, ats⟩ := c
  cases callee with
  | value f =>
   simp only [okOp, Bool.and_eq_true] at ho
   exact Sim.callValue hF hG (h f ho.1) (AsRel.map args fun x hx => h x (all_mem ho.2 x hx))
  | builtin b =>
   have hoo : (args.all X && okB P b args.size ats) = true := ho
   rw [Bool.and_eq_true] at hoo
   obtain ⟨h9, hb⟩ := hoo
   clear ho
   obtain ⟨args⟩ := args
   obtain ⟨ats⟩ := ats
   have ho : ∀ x ∈ args, VRel S ρ (ev x) (ev' x) := fun x hx => h x (all_mem h9 x (by simpa using hx))
   clear h9
   cases b with
   | append =>
    match args, ats, hb, ho with
    | [s, x], [t, t'], hb, ho =>
     have ht : ∀ k, P.underlying t' ≠ some (.int k) := fun k hk => by
      have hb : (match P.underlying t' with | some (.int _) => false | _ => true) = true := hb
      rw [hk] at hb; cases hb
     have key := Sim.append (N0 := N0) (t := t) hZ tt ht (ho s (by simp)) (ho x (by simp))
     have m1 : ∀ g : Operand -> Value, #[g s, g x] = Array.map g (⟨[s, x]⟩ : Array Operand) := fun g => by simp
     rw [m1 ev, m1 ev'] at key
     exact Sim.value key
   | copy =>
    match args, hb, ho with
    | [s, x], hb, ho =>
     have key := Sim.copy (P := P) (N0 := N0) ⟨ats⟩ tt (ho s (by simp)) (ho x (by simp))
     have m1 : ∀ g : Operand -> Value, #[g s, g x] = Array.map g (⟨[s, x]⟩ : Array Operand) := fun g => by simp
     rw [m1 ev, m1 ev'] at key
     exact Sim.value key
   | max =>
    match args, hb, ho with
    | [s, x], hb, ho =>
     have key := Sim.max (P := P) (N0 := N0) ⟨ats⟩ tt (ho s (by simp)) (ho x (by simp))
     have m1 : ∀ g : Operand -> Value, #[g s, g x] = Array.map g (⟨[s, x]⟩ : Array Operand) := fun g => by simp
     rw [m1 ev, m1 ev'] at key
     exact Sim.value key
   | len =>
    match args, ats, hb, ho with
    | [x], [t], hb, ho =>
     have hb : (match P.underlying t with | some (.chan _ _) | some (.map _ _) => false | _ => true) = true := hb
     have key := Sim.len (P := P) (N0 := N0) (t := t) tt (fun d e hk => by rw [hk] at hb; cases hb) (fun k e hk => by rw [hk] at hb; cases hb) (ho x (by simp))
     have m1 : ∀ g : Operand -> Value, #[g x] = Array.map g (⟨[x]⟩ : Array Operand) := fun g => by simp
     rw [m1 ev, m1 ev'] at key
     exact Sim.value key
   | _ => exact absurd hb Bool.false_ne_true
  | _ => exact absurd ho Bool.false_ne_true
 | _ => exact absurd ho Bool.false_ne_true
end
end
section
open Go Go.Conc
section
variable {α β σ : Type} {P : Program}
theorem Fin.pure (a : α) : Fin P (Pure.pure a : Sem α) := trivial
theorem Fin.fail {h : Halt} (hf : fineH h = true) : Fin P (Sem.halt h : Sem α) := hf
theorem Fin.ite {c : Prop} [Decidable c] {s t : Sem α} (h : c -> Fin P s) (k : ¬ c -> Fin P t) : Fin P (if c then s else t) := by
 split
 ·exact h ‹_›
 ·exact k ‹_›
class FinC (P : Program) {α : Type} (t : Sem α) : Prop where
 out : Fin P t
instance fc_map {t : Sem α} {f : α -> β} [h : FinC P t] : FinC P (f <$> t) := ⟨Fin.bind h.out fun _ => trivial⟩
instance fc_pure (a : α) : FinC P (Pure.pure a : Sem α) := ⟨Fin.pure a⟩
instance fc_bind {t : Sem α} {f : α -> Sem β} [h : FinC P t] [h2 : ∀ a, FinC P (f a)] : FinC P (t >>= f) := ⟨Fin.bind h.out fun a => (h2 a).out⟩
theorem Fin.stuck (s : String) : Fin P (Go.stuck s : Sem α) := rfl
theorem Fin.elabU (s : String) : Fin P (Go.unsupported (Unsupported.elab s) : Sem α) := rfl
theorem Fin.noEntry (s : String) : Fin P (Go.unsupported (.noEntry s) : Sem α) := rfl
theorem Fin.unsafP (s : String) : Fin P (Go.unsupported (.unsafePointer s) : Sem α) := rfl
theorem Fin.observed : Fin P (Go.unsupported .addressObserved : Sem α) := rfl
theorem Fin.limit (s : String) : Fin P (Go.unsupported (.resourceLimit s) : Sem α) := rfl
theorem Fin.evalOrder : Fin P (Go.unsupported .evalOrder : Sem α) := rfl
instance fc_h_stuck (s : String) : FinC P (Go.stuck s : Sem α) := ⟨Fin.stuck s⟩
instance fc_h_elabU (s : String) : FinC P (Go.unsupported (Unsupported.elab s) : Sem α) := ⟨Fin.elabU s⟩
instance fc_h_noEntry (s : String) : FinC P (Go.unsupported (.noEntry s) : Sem α) := ⟨Fin.noEntry s⟩
instance fc_h_unsafe (s : String) : FinC P (Go.unsupported (.unsafePointer s) : Sem α) := ⟨Fin.unsafP s⟩
instance fc_h_observed : FinC P (Go.unsupported .addressObserved : Sem α) := ⟨Fin.observed ⟩
instance fc_h_limit (s : String) : FinC P (Go.unsupported (.resourceLimit s) : Sem α) := ⟨Fin.limit s⟩
instance fc_h_evalOrder : FinC P (Go.unsupported .evalOrder : Sem α) := ⟨Fin.evalOrder ⟩
theorem Fin.map {f : α -> β} {t : Sem α} (h : Fin P t) : Fin P (f <$> t) := Fin.bind h fun _ => trivial
theorem Fin.load (a : Addr) : Fin P (Go.load a) := fun _ => trivial
theorem Fin.store (a : Addr) (x : Value) : Fin P (Go.store a x) := trivial
theorem Fin.newCells (cs : Array Value) (t : TypeId) : Fin P (Go.newObj (.cells cs t)) := ⟨rfl, fun _ => trivial⟩
theorem Fin.choose (q : Question) : Fin P (Go.choose q) := fun _ => trivial
theorem Fin.program : Fin P Go.program := trivial
theorem Fin.shape (r : Nat) : Fin P (Go.shape r) := fun _ => trivial
theorem Fin.mark (m : Mark) : Fin P (Go.mark m) := trivial
theorem Fin.getObj (r : Nat) : Fin P (Go.getObj r) := fun _ _ => trivial
instance fc_h_getObj (r : Nat) : FinC P (Go.getObj r) := ⟨Fin.getObj r⟩
theorem Fin.listMapM {f : α -> Sem β} (h : ∀ a, Fin P (f a)) : ∀ (l : List α), Fin P (l.mapM f)
 | [] => by rw [List.mapM_nil]; exact Fin.pure _
 | x :: l => by
  rw [List.mapM_cons]
  exact Fin.bind (h x) fun _ => Fin.bind (Fin.listMapM h l) fun _ => Fin.pure _
theorem Fin.arrMapM {f : α -> Sem β} (h : ∀ a, Fin P (f a)) (l : Array α) : Fin P (l.mapM f) := by
 rw [Array.mapM_eq_mapM_toList]
 exact Fin.map (Fin.listMapM h _)
instance fc_h_load (a : Addr) : FinC P (Go.load a) := ⟨Fin.load a⟩
instance fc_h_store (a : Addr) (x : Value) : FinC P (Go.store a x) := ⟨Fin.store a x⟩
instance fc_h_newCells (cs : Array Value) (t : TypeId) : FinC P (Go.newObj (.cells cs t)) := ⟨Fin.newCells cs t⟩
instance fc_h_choose (q : Question) : FinC P (Go.choose q) := ⟨Fin.choose q⟩
instance fc_h_program : FinC P Go.program := ⟨Fin.program ⟩
instance fc_h_shape (r : Nat) : FinC P (Go.shape r) := ⟨Fin.shape r⟩
instance fc_h_mark (m : Mark) : FinC P (Go.mark m) := ⟨Fin.mark m⟩
theorem Fin.newRow (t : TypeId) (cs : Array Value) : Fin P (Go.newRow t cs) := by unfold Go.newRow; repeat' (first | exact FinC.out | with_reducible refine Fin.bind ?_ ?_ | intro _ | split | dsimp only)
instance fc_h_newRow (t : TypeId) (cs : Array Value) : FinC P (Go.newRow t cs) := ⟨Fin.newRow t cs⟩
theorem Fin.goPanic (v : Value) : Fin P (Go.goPanic v : Sem α) := rfl
instance fc_h_goPanic (v : Value) : FinC P (Go.goPanic v : Sem α) := ⟨Fin.goPanic v⟩
theorem Fin.typeInfo (t : TypeId) : Fin P (Go.typeInfo t) := by unfold Go.typeInfo; repeat' (first | exact FinC.out | with_reducible refine Fin.bind ?_ ?_ | intro _ | split | dsimp only)
theorem Fin.underlying (t : TypeId) : Fin P (Go.underlying t) := by unfold Go.underlying; repeat' (first | exact FinC.out | with_reducible refine Fin.bind ?_ ?_ | intro _ | split | dsimp only)
instance fc_h_typeInfo (t : TypeId) : FinC P (Go.typeInfo t) := ⟨Fin.typeInfo t⟩
instance fc_h_underlying (t : TypeId) : FinC P (Go.underlying t) := ⟨Fin.underlying t⟩
theorem Fin.sizeOf (t : TypeId) : Fin P (Go.sizeOf t) := by unfold Go.sizeOf; repeat' (first | exact FinC.out | with_reducible refine Fin.bind ?_ ?_ | intro _ | split | dsimp only)
theorem Fin.isAgg (t : TypeId) : Fin P (Go.isAgg t) := by unfold Go.isAgg; repeat' (first | exact FinC.out | with_reducible refine Fin.bind ?_ ?_ | intro _ | split | dsimp only)
theorem Fin.elemOf (t : TypeId) : Fin P (Go.elemOf t) := by unfold Go.elemOf; repeat' (first | exact FinC.out | with_reducible refine Fin.bind ?_ ?_ | intro _ | split | dsimp only)
theorem Fin.zeroValue (t : TypeId) : Fin P (Go.zeroValue t) := by unfold Go.zeroValue; repeat' (first | exact FinC.out | with_reducible refine Fin.bind ?_ ?_ | intro _ | split | dsimp only)
instance fc_h_sizeOf (t : TypeId) : FinC P (Go.sizeOf t) := ⟨Fin.sizeOf t⟩
instance fc_h_isAgg (t : TypeId) : FinC P (Go.isAgg t) := ⟨Fin.isAgg t⟩
instance fc_h_elemOf (t : TypeId) : FinC P (Go.elemOf t) := ⟨Fin.elemOf t⟩
instance fc_h_zeroValue (t : TypeId) : FinC P (Go.zeroValue t) := ⟨Fin.zeroValue t⟩
theorem Fin.newVar (t : TypeId) (x : Value) : Fin P (Go.newVar t x) := by unfold Go.newVar; repeat' (first | exact FinC.out | with_reducible refine Fin.bind ?_ ?_ | intro _ | split | dsimp only)
instance fc_h_newVar (t : TypeId) (x : Value) : FinC P (Go.newVar t x) := ⟨Fin.newVar t x⟩
theorem Fin.runtimePanic (e : RuntimeError) : Fin P (Go.runtimePanic e : Sem α) := by unfold Go.runtimePanic; repeat' (first | exact FinC.out | with_reducible refine Fin.bind ?_ ?_ | intro _ | split | dsimp only)
instance fc_h_runtimePanic (e : RuntimeError) : FinC P (Go.runtimePanic e : Sem α) := ⟨Fin.runtimePanic e⟩
theorem Fin.boundsPanic (k : IntKind) (x y : Int) (c : BoundsCode) : Fin P (Go.boundsPanic k x y c : Sem α) := by unfold Go.boundsPanic; repeat' (first | exact FinC.out | with_reducible refine Fin.bind ?_ ?_ | intro _ | split | dsimp only)
instance fc_h_boundsPanic (k : IntKind) (x y : Int) (c : BoundsCode) : FinC P (Go.boundsPanic k x y c : Sem α) := ⟨Fin.boundsPanic k x y c⟩
theorem Fin.loadCellsFrom : ∀ (n : Nat) (a : Addr) (i : Nat) (as : Array Value), Fin P (Go.loadCellsFrom a i n as)
 | 0, a, i, as => by unfold Go.loadCellsFrom; repeat' (first | exact FinC.out | with_reducible refine Fin.bind ?_ ?_ | intro _ | split | dsimp only)
 | n + 1, a, i, as => by
  unfold Go.loadCellsFrom
  exact Fin.bind (Fin.load _) fun _ => Fin.loadCellsFrom n _ _ _
theorem Fin.loadCells (a : Addr) (n : Nat) : Fin P (Go.loadCells a n) := Fin.loadCellsFrom _ _ _ _
theorem Fin.storeCells (a : Addr) : ∀ (xs : List Value) (i : Nat), Fin P (Go.storeCells a xs i)
 | [], i => by unfold Go.storeCells; repeat' (first | exact FinC.out | with_reducible refine Fin.bind ?_ ?_ | intro _ | split | dsimp only)
 | x :: xs, i => by
  unfold Go.storeCells
  exact Fin.bind (Fin.store _ _) fun _ => Fin.storeCells a xs _
instance fc_h_loadCells (a : Addr) (n : Nat) : FinC P (Go.loadCells a n) := ⟨Fin.loadCells a n⟩
instance fc_h_storeCells (a : Addr) (xs : List Value) (i : Nat) : FinC P (Go.storeCells a xs i) := ⟨Fin.storeCells a xs i⟩
theorem Fin.loadVar (t : TypeId) (a : Addr) : Fin P (Go.loadVar t a) := by unfold Go.loadVar; repeat' (first | exact FinC.out | with_reducible refine Fin.bind ?_ ?_ | intro _ | split | dsimp only)
theorem Fin.storeVar (t : TypeId) (a : Addr) (x : Value) : Fin P (Go.storeVar t a x) := by unfold Go.storeVar; repeat' (first | exact FinC.out | with_reducible refine Fin.bind ?_ ?_ | intro _ | split | dsimp only)
theorem Fin.part (t : TypeId) (cs : Array Value) (o : Nat) : Fin P (Go.part t cs o) := by unfold Go.part; repeat' (first | exact FinC.out | with_reducible refine Fin.bind ?_ ?_ | intro _ | split | dsimp only)
theorem Fin.asIntOf (x : Value) : Fin P (Go.asIntOf x) := by unfold Go.asIntOf; repeat' (first | exact FinC.out | with_reducible refine Fin.bind ?_ ?_ | intro _ | split | dsimp only)
instance fc_h_loadVar (t : TypeId) (a : Addr) : FinC P (Go.loadVar t a) := ⟨Fin.loadVar t a⟩
instance fc_h_storeVar (t : TypeId) (a : Addr) (x : Value) : FinC P (Go.storeVar t a x) := ⟨Fin.storeVar t a x⟩
instance fc_h_part (t : TypeId) (cs : Array Value) (o : Nat) : FinC P (Go.part t cs o) := ⟨Fin.part t cs o⟩
instance fc_h_asIntOf (x : Value) : FinC P (Go.asIntOf x) := ⟨Fin.asIntOf x⟩
theorem Fin.asInt (x : Value) : Fin P (Go.asInt x) := by unfold Go.asInt; repeat' (first | exact FinC.out | with_reducible refine Fin.bind ?_ ?_ | intro _ | split | dsimp only)
theorem Fin.asBool (x : Value) : Fin P (Go.asBool x) := by unfold Go.asBool; repeat' (first | exact FinC.out | with_reducible refine Fin.bind ?_ ?_ | intro _ | split | dsimp only)
theorem Fin.asAgg (x : Value) : Fin P (Go.asAgg x) := by unfold Go.asAgg; repeat' (first | exact FinC.out | with_reducible refine Fin.bind ?_ ?_ | intro _ | split | dsimp only)
instance fc_h_asInt (x : Value) : FinC P (Go.asInt x) := ⟨Fin.asInt x⟩
instance fc_h_asBool (x : Value) : FinC P (Go.asBool x) := ⟨Fin.asBool x⟩
instance fc_h_asAgg (x : Value) : FinC P (Go.asAgg x) := ⟨Fin.asAgg x⟩
end
end
section
open Go Go.Conc
section
variable {α β σ : Type} {P : Program}
theorem Fin.viewAt (b : Nat) : Fin P (Go.viewAt b) := by unfold Go.viewAt; repeat' (first | exact FinC.out | with_reducible refine Fin.bind ?_ ?_ | intro _ | split | dsimp only)
instance fc_i_viewAt (b : Nat) : FinC P (Go.viewAt b) := ⟨Fin.viewAt b⟩
theorem Fin.numberAt (b : Nat) : Fin P (Go.numberAt b) := by unfold Go.numberAt; repeat' (first | exact FinC.out | with_reducible refine Fin.bind ?_ ?_ | intro _ | split | dsimp only)
instance fc_i_numberAt (b : Nat) : FinC P (Go.numberAt b) := ⟨Fin.numberAt b⟩
theorem Fin.newNumber (a : Addr) (l : Bool) : Fin P (Go.newObj (.number a l)) := ⟨rfl, fun _ => trivial⟩
instance fc_i_newNumber (a : Addr) (l : Bool) : FinC P (Go.newObj (.number a l)) := ⟨Fin.newNumber a l⟩
theorem Fin.behindNumber (a : Addr) : Fin P (Go.behindNumber a) := by unfold Go.behindNumber; repeat' (first | exact FinC.out | with_reducible refine Fin.bind ?_ ?_ | intro _ | split | dsimp only)
instance fc_i_behindNumber (a : Addr) : FinC P (Go.behindNumber a) := ⟨Fin.behindNumber a⟩
theorem Fin.asNumber (a : Addr) (l : Bool) : Fin P (Go.asNumber a l) := by unfold Go.asNumber; repeat' (first | exact FinC.out | with_reducible refine Fin.bind ?_ ?_ | intro _ | split | dsimp only)
instance fc_i_asNumber (a : Addr) (l : Bool) : FinC P (Go.asNumber a l) := ⟨Fin.asNumber a l⟩
theorem Fin.noView (a : Addr) : Fin P (Go.noView a) := by unfold Go.noView; repeat' (first | exact FinC.out | with_reducible refine Fin.bind ?_ ?_ | intro _ | split | dsimp only)
instance fc_i_noView (a : Addr) : FinC P (Go.noView a) := ⟨Fin.noView a⟩
theorem Fin.byteOf (a : Addr) : Fin P (Go.byteOf a) := by unfold Go.byteOf; repeat' (first | exact FinC.out | with_reducible refine Fin.bind ?_ ?_ | intro _ | split | dsimp only)
instance fc_i_byteOf (a : Addr) : FinC P (Go.byteOf a) := ⟨Fin.byteOf a⟩
theorem Fin.unsafeAdd (t : TypeId) (x z : Value) : Fin P (Builtin.unsafeAdd_ #[] t #[x, z]) := by
 unfold Builtin.unsafeAdd_
 cases x <;> first | exact Fin.stuck _ | (show Fin P (Go.asInt z >>= _); repeat' (first | exact FinC.out | with_reducible refine Fin.bind ?_ ?_ | intro _ | split | dsimp only))
instance fc_i_unsafeAdd (t : TypeId) (x z : Value) : FinC P (Builtin.unsafeAdd_ #[] t #[x, z]) := ⟨Fin.unsafeAdd t x z⟩
theorem Fin.sureAddr (x : Value) : Fin P (Instr.sureAddr x) := by unfold Instr.sureAddr; repeat' (first | exact FinC.out | with_reducible refine Fin.bind ?_ ?_ | intro _ | split | dsimp only)
instance fc_i_sureAddr (x : Value) : FinC P (Instr.sureAddr x) := ⟨Fin.sureAddr x⟩
theorem Fin.asAddr (x : Value) : Fin P (Go.asAddr x) := by unfold Go.asAddr; repeat' (first | exact FinC.out | with_reducible refine Fin.bind ?_ ?_ | intro _ | split | dsimp only)
instance fc_i_asAddr (x : Value) : FinC P (Go.asAddr x) := ⟨Fin.asAddr x⟩
theorem Fin.loadAt (t : TypeId) (x : Value) : Fin P (Instr.loadAt t x) := by unfold Instr.loadAt; repeat' (first | exact FinC.out | with_reducible refine Fin.bind ?_ ?_ | intro _ | split | dsimp only)
instance fc_i_loadAt (t : TypeId) (x : Value) : FinC P (Instr.loadAt t x) := ⟨Fin.loadAt t x⟩
theorem Fin.storeAt (t : TypeId) (x z : Value) : Fin P (Instr.storeAt t x z) := by unfold Instr.storeAt; repeat' (first | exact FinC.out | with_reducible refine Fin.bind ?_ ?_ | intro _ | split | dsimp only)
instance fc_i_storeAt (t : TypeId) (x z : Value) : FinC P (Instr.storeAt t x z) := ⟨Fin.storeAt t x z⟩
theorem Fin.partAt (a : Addr) (c b : Nat) : Fin P (Go.partAt a c b) := by unfold Go.partAt; repeat' (first | exact FinC.out | with_reducible refine Fin.bind ?_ ?_ | intro _ | split | dsimp only)
instance fc_i_partAt (a : Addr) (c b : Nat) : FinC P (Go.partAt a c b) := ⟨Fin.partAt a c b⟩
theorem Fin.fieldPlace (a : Addr) (f : Field) : Fin P (Go.fieldPlace a f) := by unfold Go.fieldPlace; repeat' (first | exact FinC.out | with_reducible refine Fin.bind ?_ ?_ | intro _ | split | dsimp only)
instance fc_i_fieldPlace (a : Addr) (f : Field) : FinC P (Go.fieldPlace a f) := ⟨Fin.fieldPlace a f⟩
theorem Fin.fieldAt (s : TypeId) (x : Value) (f : Nat) : Fin P (Instr.fieldAt s x f) := by unfold Instr.fieldAt; repeat' (first | exact FinC.out | with_reducible refine Fin.bind ?_ ?_ | intro _ | split | dsimp only)
instance fc_i_fieldAt (s : TypeId) (x : Value) (f : Nat) : FinC P (Instr.fieldAt s x f) := ⟨Fin.fieldAt s x f⟩
theorem Fin.field (s : TypeId) (x : Value) (f : Nat) : Fin P (Instr.field s x f) := by unfold Instr.field; repeat' (first | exact FinC.out | with_reducible refine Fin.bind ?_ ?_ | intro _ | split | dsimp only)
instance fc_i_field (s : TypeId) (x : Value) (f : Nat) : FinC P (Instr.field s x f) := ⟨Fin.field s x f⟩
theorem Fin.extract (x : Value) (i : Nat) : Fin P (Instr.extract x i) := by unfold Instr.extract; repeat' (first | exact FinC.out | with_reducible refine Fin.bind ?_ ?_ | intro _ | split | dsimp only)
instance fc_i_extract (x : Value) (i : Nat) : FinC P (Instr.extract x i) := ⟨Fin.extract x i⟩
theorem Fin.index (t : TypeId) (x i : Value) : Fin P (Instr.index t x i) := by unfold Instr.index; repeat' (first | exact FinC.out | with_reducible refine Fin.bind ?_ ?_ | intro _ | split | dsimp only)
instance fc_i_index (t : TypeId) (x i : Value) : FinC P (Instr.index t x i) := ⟨Fin.index t x i⟩
theorem Fin.indexAt (t : TypeId) (x i : Value) : Fin P (Instr.indexAt t x i) := by unfold Instr.indexAt; repeat' (first | exact FinC.out | with_reducible refine Fin.bind ?_ ?_ | intro _ | split | dsimp only)
instance fc_i_indexAt (t : TypeId) (x i : Value) : FinC P (Instr.indexAt t x i) := ⟨Fin.indexAt t x i⟩
theorem Fin.sliceBound (x : Value) (n : Nat) (c : BoundsCode) : Fin P (Instr.sliceBound x n c) := by unfold Instr.sliceBound; repeat' (first | exact FinC.out | with_reducible refine Fin.bind ?_ ?_ | intro _ | split | dsimp only)
instance fc_i_sliceBound (x : Value) (n : Nat) (c : BoundsCode) : FinC P (Instr.sliceBound x n c) := ⟨Fin.sliceBound x n c⟩
theorem Fin.sliceBounds (s : Bool) (len cap : Nat) (lo hi mx : Option Value) : Fin P (Instr.sliceBounds s len cap lo hi mx) := by unfold Instr.sliceBounds; repeat' (first | exact FinC.out | with_reducible refine Fin.bind ?_ ?_ | intro _ | split | dsimp only)
instance fc_i_sliceBounds (s : Bool) (len cap : Nat) (lo hi mx : Option Value) : FinC P (Instr.sliceBounds s len cap lo hi mx) := ⟨Fin.sliceBounds s len cap lo hi mx⟩
theorem Fin.slice (t : TypeId) (x : Value) (lo hi mx : Option Value) : Fin P (Instr.slice t x lo hi mx) := by unfold Instr.slice; repeat' (first | exact FinC.out | with_reducible refine Fin.bind ?_ ?_ | intro _ | split | dsimp only)
instance fc_i_slice (t : TypeId) (x : Value) (lo hi mx : Option Value) : FinC P (Instr.slice t x lo hi mx) := ⟨Fin.slice t x lo hi mx⟩
theorem Fin.sliceAt (t : TypeId) (x : Value) (lo hi mx : Option Value) : Fin P (Instr.sliceAt t x lo hi mx) := by unfold Instr.sliceAt; repeat' (first | exact FinC.out | with_reducible refine Fin.bind ?_ ?_ | intro _ | split | dsimp only)
instance fc_i_sliceAt (t : TypeId) (x : Value) (lo hi mx : Option Value) : FinC P (Instr.sliceAt t x lo hi mx) := ⟨Fin.sliceAt t x lo hi mx⟩
theorem Fin.alloc (t : TypeId) : Fin P (Instr.alloc t true (.tuple #[])) := by unfold Instr.alloc; repeat' (first | exact FinC.out | with_reducible refine Fin.bind ?_ ?_ | intro _ | split | dsimp only)
instance fc_i_alloc (t : TypeId) : FinC P (Instr.alloc t true (.tuple #[])) := ⟨Fin.alloc t⟩
theorem Fin.box (t : TypeId) (x : Value) : Fin P (Instr.box t x) := by unfold Instr.box; repeat' (first | exact FinC.out | with_reducible refine Fin.bind ?_ ?_ | intro _ | split | dsimp only)
instance fc_i_box (t : TypeId) (x : Value) : FinC P (Instr.box t x) := ⟨Fin.box t x⟩
theorem Fin.build (t : TypeId) (ps : Array (Nat × Value)) : Fin P (Instr.build t ps) := by unfold Instr.build; repeat' (first | (with_reducible refine Fin.arrMapM ?_ _) | repeat' (first | exact FinC.out | with_reducible refine Fin.bind ?_ ?_ | intro _ | split | dsimp only))
instance fc_i_build (t : TypeId) (ps : Array (Nat × Value)) : FinC P (Instr.build t ps) := ⟨Fin.build t ps⟩
theorem Fin.buildSlice (t : TypeId) (n : Nat) (ps : Array (Nat × Value)) : Fin P (Instr.buildSlice t n ps) := by unfold Instr.buildSlice; repeat' (first | exact FinC.out | with_reducible refine Fin.bind ?_ ?_ | intro _ | split | dsimp only)
instance fc_i_buildSlice (t : TypeId) (n : Nat) (ps : Array (Nat × Value)) : FinC P (Instr.buildSlice t n ps) := ⟨Fin.buildSlice t n ps⟩
theorem Fin.askRoom (n : Nat) : Fin P (Go.askRoom n) := by unfold Go.askRoom; repeat' (first | exact FinC.out | with_reducible refine Fin.bind ?_ ?_ | intro _ | split | dsimp only)
instance fc_i_askRoom (n : Nat) : FinC P (Go.askRoom n) := ⟨Fin.askRoom n⟩
theorem Fin.makeSlice (t : TypeId) (l c : Value) : Fin P (Instr.makeSlice t l c) := by unfold Instr.makeSlice; repeat' (first | exact FinC.out | with_reducible refine Fin.bind ?_ ?_ | intro _ | split | dsimp only)
instance fc_i_makeSlice (t : TypeId) (l c : Value) : FinC P (Instr.makeSlice t l c) := ⟨Fin.makeSlice t l c⟩
theorem Fin.lenOf (x : Value) : Fin P (Builtin.lenOf x) := by unfold Builtin.lenOf; repeat' (first | exact FinC.out | with_reducible refine Fin.bind ?_ ?_ | intro _ | split | dsimp only)
instance fc_i_lenOf (x : Value) : FinC P (Builtin.lenOf x) := ⟨Fin.lenOf x⟩
theorem Fin.firstCells (s n : Nat) (x : Value) : Fin P (Builtin.firstCells s n x) := by unfold Builtin.firstCells; repeat' (first | exact FinC.out | with_reducible refine Fin.bind ?_ ?_ | intro _ | split | dsimp only)
instance fc_i_firstCells (s n : Nat) (x : Value) : FinC P (Builtin.firstCells s n x) := ⟨Fin.firstCells s n x⟩
theorem Fin.frozen (a : Addr) : Fin P (Go.frozen a) := fun _ => trivial
instance fc_i_frozen (a : Addr) : FinC P (Go.frozen a) := ⟨Fin.frozen a⟩
theorem Fin.holdsCells (a : Addr) (n : Nat) : Fin P (Builtin.holdsCells a n) := by unfold Builtin.holdsCells; repeat' (first | exact FinC.out | with_reducible refine Fin.bind ?_ ?_ | intro _ | split | dsimp only)
instance fc_i_holdsCells (a : Addr) (n : Nat) : FinC P (Builtin.holdsCells a n) := ⟨Fin.holdsCells a n⟩
theorem Fin.mayShare (a b n : Nat) (p : Option Addr) (x : Value) : Fin P (Builtin.mayShare a b n p x) := by unfold Builtin.mayShare; repeat' (first | exact FinC.out | with_reducible refine Fin.bind ?_ ?_ | intro _ | split | dsimp only)
instance fc_i_mayShare (a b n : Nat) (p : Option Addr) (x : Value) : FinC P (Builtin.mayShare a b n p x) := ⟨Fin.mayShare a b n p x⟩
theorem Fin.append (t t' : TypeId) (o : TypeId) (s x : Value) : Fin P (Builtin.append_ #[t, t'] o #[s, x]) := by
 unfold Builtin.append_
 refine Fin.bind (Fin.underlying t) fun d => ?_
 cases d with
 | slice elem =>
  cases s with
  | slice A n c =>
   refine Fin.bind (Fin.sizeOf elem) fun m => ?_
   refine Fin.bind (Fin.underlying t') fun d2 => ?_
   refine Fin.bind (Fin.pure _) fun zeros => ?_
   have grow : ∀ k : Nat, Fin P (Go.choose (.appendCap (n + k) c elem) >>= fun newCap => Go.typeInfo elem >>= fun i => Go.askRoom (newCap * i.bytes) >>= fun _ => Builtin.firstCells m n (.slice A n c) >>= fun old =>
     (if (!zeros) = true then Builtin.firstCells m k x else if k * m = 0 then Pure.pure #[] else Go.zeroValue elem >>= fun z => Pure.pure (Builtin.zeroCells z.cells k)) >>= fun new => Go.zeroValue elem >>= fun z =>
     Go.newRow elem (old ++ new ++ Builtin.zeroCells z.cells (newCap - (n + k))) >>= fun a => Pure.pure (Value.slice (some a) (n + k) newCap)) := fun k => by repeat' (first | exact FinC.out | with_reducible refine Fin.bind ?_ ?_ | intro _ | split | dsimp only)
   have appd : ∀ k : Nat, Fin P (if (!zeros) = true then Builtin.firstCells m k x else if k * m = 0 then Pure.pure #[] else Go.zeroValue elem >>= fun z => Pure.pure (Builtin.zeroCells z.cells k)) := fun k => by repeat' (first | exact FinC.out | with_reducible refine Fin.bind ?_ ?_ | intro _ | split | dsimp only)
   cases zeros
   ·refine Fin.bind (Fin.lenOf x) fun k => ?_
    refine Fin.ite (fun _ => ?_) fun _ => ?_
    ·refine Fin.bind (appd k) fun new => ?_
     cases A
     ·exact Fin.pure _
     ·exact Fin.bind (Fin.storeCells _ _ _) fun _ => Fin.pure _
    ·refine Fin.bind (Fin.typeInfo elem) fun i => ?_
     refine Fin.ite (fun _ => Fin.bind (Fin.runtimePanic _) fun _ => ?_) fun _ => ?_
     all_goals
      refine Fin.bind (Fin.typeInfo elem) fun j => ?_
      refine Fin.ite (fun _ => Fin.bind ?_ fun _ => grow k) fun _ => grow k
      rw [if_neg (by decide)]
      refine Fin.bind (Fin.mayShare _ _ _ _ _) fun b => ?_
      cases b
      ·exact Fin.bind (Fin.mark _) fun _ => Fin.limit _
      ·exact Fin.limit _
   ·refine Fin.bind (Fin.asInt x) fun l => ?_
    refine Fin.ite (fun _ => Fin.bind (Fin.runtimePanic _) fun _ => ?_) fun _ => ?_
    all_goals
     refine Fin.bind (Fin.typeInfo elem) fun i => ?_
     refine Fin.ite (fun _ => Fin.bind (Fin.choose _) fun made => Fin.bind (Fin.runtimePanic _) fun _ => ?_) fun _ => ?_
     all_goals
      refine Fin.bind (Fin.pure _) fun k => ?_
      refine Fin.ite (fun _ => ?_) fun _ => ?_
      ·refine Fin.bind (appd k) fun new => ?_
       cases A
       ·exact Fin.pure _
       ·exact Fin.bind (Fin.storeCells _ _ _) fun _ => Fin.pure _
      ·refine Fin.bind (Fin.typeInfo elem) fun i => ?_
       refine Fin.ite (fun _ => Fin.bind (Fin.runtimePanic _) fun _ => ?_) fun _ => ?_
       all_goals
        refine Fin.bind (Fin.typeInfo elem) fun j => ?_
        refine Fin.ite (fun _ => Fin.bind ?_ fun _ => grow k) fun _ => grow k
        rw [if_pos rfl]
        exact Fin.runtimePanic _
  | _ => exact Fin.stuck _
 | _ => exact Fin.stuck _
theorem Fin.copy (ts : Array TypeId) (o : TypeId) (s x : Value) : Fin P (Builtin.copy_ ts o #[s, x]) := by unfold Builtin.copy_; repeat' (first | exact FinC.out | with_reducible refine Fin.bind ?_ ?_ | intro _ | split | dsimp only)
instance fc_i_copy (ts : Array TypeId) (o : TypeId) (s x : Value) : FinC P (Builtin.copy_ ts o #[s, x]) := ⟨Fin.copy ts o s x⟩
theorem Fin.len (ts : Array TypeId) (o : TypeId) (x : Value) : Fin P (Builtin.len_ ts o #[x]) := by unfold Builtin.len_; repeat' (first | exact FinC.out | with_reducible refine Fin.bind ?_ ?_ | intro _ | split | dsimp only)
instance fc_i_len (ts : Array TypeId) (o : TypeId) (x : Value) : FinC P (Builtin.len_ ts o #[x]) := ⟨Fin.len ts o x⟩
end
end
section
open Go Go.Conc
section
variable {α β σ : Type} {P : Program}
theorem Fin.bindU {t : TypeId} {f : TypeDesc -> Sem β} (h : ∀ d, P.underlying t = some d -> Fin P (f d)) : Fin P (Go.underlying t >>= f) := by
 unfold Go.underlying
 show Fin P ((match P.underlying t with | some d => Pure.pure d | none => Go.stuck "no such type") >>= f)
 cases hd : P.underlying t with
 | none => rfl
 | some d => exact h d hd
theorem Fin.freeze (a : Addr) (n : Nat) : Fin P (Go.freeze a n) := trivial
instance fc_j_freeze (a : Addr) (n : Nat) : FinC P (Go.freeze a n) := ⟨Fin.freeze a n⟩
theorem Fin.markStringish (a : Addr) : Fin P (Go.markStringish a) := by unfold Go.markStringish; repeat' (first | exact FinC.out | with_reducible refine Fin.bind ?_ ?_ | intro _ | split | dsimp only)
instance fc_j_markStringish (a : Addr) : FinC P (Go.markStringish a) := ⟨Fin.markStringish a⟩
theorem Fin.stringToBytes (e : TypeId) (s : ByteArray) : Fin P (Conv.stringToBytes e s) := by unfold Conv.stringToBytes; repeat' (first | exact FinC.out | with_reducible refine Fin.bind ?_ ?_ | intro _ | split | dsimp only)
instance fc_j_stringToBytes (e : TypeId) (s : ByteArray) : FinC P (Conv.stringToBytes e s) := ⟨Fin.stringToBytes e s⟩
theorem Fin.forIn {f : Value -> σ -> Sem (ForInStep σ)} (h : ∀ x s, Fin P (f x s)) : ∀ (xs : List Value) (s : σ), Fin P (ForIn.forIn xs s f)
 | [], s => by rw [List.forIn_nil]; exact Fin.pure _
 | x :: xs, s => by
  rw [List.forIn_cons]
  refine Fin.bind (h x s) fun r => ?_
  cases r
  ·exact Fin.pure _
  ·exact Fin.forIn h xs _
theorem Fin.bytesToString (x : Value) : Fin P (Conv.bytesToString x) := by
 unfold Conv.bytesToString
 split
 ·exact Fin.pure _
 ·refine Fin.bind (Fin.loadCells _ _) fun as => ?_
  refine Fin.bind ?_ fun _ => by repeat' (first | exact FinC.out | with_reducible refine Fin.bind ?_ ?_ | intro _ | split | dsimp only)
  rw [<- Array.forIn_toList]
  exact Fin.forIn (fun c s => by repeat' (first | exact FinC.out | with_reducible refine Fin.bind ?_ ?_ | intro _ | split | dsimp only)) _ _
 ·exact Fin.stuck _
theorem Fin.intArith (op : BinOp) (k : IntKind) (x y : Int) : Fin P (Op.intArith op k x y) := by unfold Op.intArith; repeat' (first | exact FinC.out | with_reducible refine Fin.bind ?_ ?_ | intro _ | split | dsimp only)
theorem Fin.intDiv (op : BinOp) (k : IntKind) (x y : Int) : Fin P (Op.intDiv op k x y) := by unfold Op.intDiv; repeat' (first | exact FinC.out | with_reducible refine Fin.bind ?_ ?_ | intro _ | split | dsimp only)
theorem Fin.intBits (op : BinOp) (k : IntKind) (x y : Int) : Fin P (Op.intBits op k x y) := by unfold Op.intBits; repeat' (first | exact FinC.out | with_reducible refine Fin.bind ?_ ?_ | intro _ | split | dsimp only)
theorem Fin.intCmp (op : BinOp) (x y : Int) : Fin P (Op.intCmp op x y) := by unfold Op.intCmp; repeat' (first | exact FinC.out | with_reducible refine Fin.bind ?_ ?_ | intro _ | split | dsimp only)
theorem Fin.shift (op : BinOp) (k yk : IntKind) (x y : Int) : Fin P (Op.shift op k x yk y) := by unfold Op.shift; repeat' (first | exact FinC.out | with_reducible refine Fin.bind ?_ ?_ | intro _ | split | dsimp only)
theorem Fin.stringOp (op : BinOp) (x y : ByteArray) : Fin P (Op.stringOp op x y) := by unfold Op.stringOp; repeat' (first | exact FinC.out | with_reducible refine Fin.bind ?_ ?_ | intro _ | split | dsimp only)
instance fc_j_intArith (op : BinOp) (k : IntKind) (x y : Int) : FinC P (Op.intArith op k x y) := ⟨Fin.intArith op k x y⟩
instance fc_j_intBits (op : BinOp) (k : IntKind) (x y : Int) : FinC P (Op.intBits op k x y) := ⟨Fin.intBits op k x y⟩
theorem Fin.unary (op : UnOp) (x : Value) : Fin P (Op.unary op x) := by unfold Op.unary; repeat' (first | exact FinC.out | with_reducible refine Fin.bind ?_ ?_ | intro _ | split | dsimp only)
theorem Fin.twoPlaces (a b : Addr) : Fin P (Op.twoPlaces a b) := by unfold Op.twoPlaces; repeat' (first | exact FinC.out | with_reducible refine Fin.bind ?_ ?_ | intro _ | split | dsimp only)
instance fc_j_intDiv (op : BinOp) (k : IntKind) (x y : Int) : FinC P (Op.intDiv op k x y) := ⟨Fin.intDiv op k x y⟩
instance fc_j_intCmp (op : BinOp) (x y : Int) : FinC P (Op.intCmp op x y) := ⟨Fin.intCmp op x y⟩
instance fc_j_shift (op : BinOp) (k yk : IntKind) (x y : Int) : FinC P (Op.shift op k x yk y) := ⟨Fin.shift op k yk x y⟩
instance fc_j_stringOp (op : BinOp) (x y : ByteArray) : FinC P (Op.stringOp op x y) := ⟨Fin.stringOp op x y⟩
instance fc_j_unary (op : UnOp) (x : Value) : FinC P (Op.unary op x) := ⟨Fin.unary op x⟩
instance fc_j_twoPlaces (a b : Addr) : FinC P (Op.twoPlaces a b) := ⟨Fin.twoPlaces a b⟩
theorem Fin.addrSub (k : IntKind) (a b : Addr) : Fin P (Op.addrSub k a b) := by unfold Op.addrSub; repeat' (first | exact FinC.out | with_reducible refine Fin.bind ?_ ?_ | intro _ | split | dsimp only)
theorem Fin.addrCmp (op : BinOp) (a b : Addr) : Fin P (Op.addrCmp op a b) := by unfold Op.addrCmp; repeat' (first | exact FinC.out | with_reducible refine Fin.bind ?_ ?_ | intro _ | split | dsimp only)
theorem Fin.addrMod (k : IntKind) (a : Addr) (n : Int) : Fin P (Op.addrMod k a n) := by unfold Op.addrMod; repeat' (first | exact FinC.out | with_reducible refine Fin.bind ?_ ?_ | intro _ | split | dsimp only)
instance fc_j_addrSub (k : IntKind) (a b : Addr) : FinC P (Op.addrSub k a b) := ⟨Fin.addrSub k a b⟩
instance fc_j_addrCmp (op : BinOp) (a b : Addr) : FinC P (Op.addrCmp op a b) := ⟨Fin.addrCmp op a b⟩
instance fc_j_addrMod (k : IntKind) (a : Addr) (n : Int) : FinC P (Op.addrMod k a n) := ⟨Fin.addrMod k a n⟩
end
end
section
open Go Go.Conc
section
variable {α β σ : Type} {P : Program}
theorem Fin.movedNumber (t : TypeId) (x y : Value) : Fin P (Go.movedNumber t x y) := by unfold Go.movedNumber; repeat' (first | exact FinC.out | with_reducible exact Fin.pure _ | exact (rfl : fineH _ = true) | (with_reducible refine Fin.bind ?_ ?_) | (with_reducible refine Fin.ite ?_ ?_) | (intro _) | split | dsimp only)
theorem Fin.movedPointer (t : TypeId) (x y : Value) : Fin P (Go.movedPointer t x y) := by unfold Go.movedPointer; repeat' (first | exact FinC.out | with_reducible refine Fin.bind ?_ ?_ | intro _ | split | dsimp only)
instance fc_k_movedNumber (t : TypeId) (x y : Value) : FinC P (Go.movedNumber t x y) := ⟨Fin.movedNumber t x y⟩
instance fc_k_movedPointer (t : TypeId) (x y : Value) : FinC P (Go.movedPointer t x y) := ⟨Fin.movedPointer t x y⟩
theorem Fin.equalIn {t : TypeId} (d : Nat) (ht : Basic P t) (x y : Value) : Fin P (Op.equalIn (d + 1) t x y) := by
 unfold Op.equalIn
 refine Fin.bindU fun u hu => ?_
 rcases ht.1 with ht1 | ⟨k, ht1⟩ | ht1
 ·rw [ht1] at hu
  injection hu with hu
  subst hu
  cases x <;> cases y <;> first | exact Fin.stuck _ | exact Fin.pure _
 ·rw [ht1] at hu
  injection hu with hu
  subst hu
  cases x
  case pointer p =>
   cases p
   ·cases y <;> exact Fin.observed
   ·cases y
    case int kk n => rcases n with (_ | _) | _ <;> first | exact Fin.pure _ | exact Fin.observed
    case pointer q =>
     cases q
     ·exact Fin.observed
     ·rename_i a b
      refine Fin.bind (Fin.behindNumber a) fun _ => Fin.bind (Fin.behindNumber b) fun _ => ?_
      repeat' (first | exact FinC.out | with_reducible refine Fin.bind ?_ ?_ | intro _ | split | dsimp only)
    all_goals exact Fin.observed
  case int kk n =>
   cases y
   case pointer p => cases p <;> rcases n with (_ | _) | _ <;> first | exact Fin.pure _ | exact Fin.observed
   case int k2 m => exact Fin.ite (fun _ => Fin.pure _) fun _ => Fin.stuck _
   all_goals exact Fin.stuck _
  all_goals cases y <;> first | exact Fin.stuck _ | exact Fin.observed
 ·rw [ht1] at hu
  injection hu with hu
  subst hu
  cases x <;> cases y <;> first | exact Fin.stuck _ | exact Fin.pure _
theorem Fin.eqGuard {t : TypeId} (op : BinOp) (x y : Operand) (ht : Basic P t) (a b : Value) : Fin P (Go.eqGuard op t x y a b) := by
 have hin : ∀ (u v : Value) (d : Nat), Fin P (Op.eqGuardIn (d + 1) t u v) := fun u v d => by
  unfold Op.eqGuardIn
  refine Fin.bindU fun e he => ?_
  rcases ht.1 with ht1 | ⟨k, ht1⟩ | ht1
  all_goals
   rw [ht1] at he
   injection he with he
   subst he
   exact Fin.pure _
 have h2 : ∀ u v, Fin P (Op.eqGuardIn Op.maxDepth t u v) := fun u v => hin u v 9999
 unfold Go.eqGuard
 cases op <;> cases a <;> cases b <;> repeat' (first | exact Fin.pure _ | exact h2 _ _ | repeat' (first | exact FinC.out | with_reducible refine Fin.bind ?_ ?_ | intro _ | split | dsimp only))
theorem Fin.equal {t : TypeId} (ht : Basic P t) (x y : Value) : Fin P (Op.equal t x y) := Fin.equalIn 9999 ht x y
end
end
section
open Go Go.Conc
section
variable {P : Program}
def noFl : Value -> Bool
 | .float .. | .complex .. => false
 | _ => true
theorem Fin.addU (t : TypeId) (x y : Value) : Fin P (do if (<- Go.underlying t) matches .unsafePointer then Go.movedPointer t x y else Go.movedNumber t x y) := by repeat' (first | exact FinC.out | with_reducible refine Fin.bind ?_ ?_ | intro _ | split | dsimp only)
theorem Fin.binOp {t : TypeId} (op : BinOp) (ht : Basic P t) (a b : Value) (ha : noFl a = true) (hb : noFl b = true) : Fin P (Go.binOp op t a b) := by
 have h2 := Fin.equal ht a b
 have e1 : Fin P (Op.equal t a b >>= fun c => Pure.pure (Value.bool c)) := Fin.bind h2 fun _ => Fin.pure _
 have e2 : Fin P (Op.equal t a b >>= fun c => Pure.pure (Value.bool (!c))) := Fin.bind h2 fun _ => Fin.pure _
 have cmps : ∀ (o : BinOp) (p q : Addr), Fin P (do Op.addrCmp o (<- Go.behindNumber p).1 (<- Go.behindNumber q).1) := fun o p q => Fin.bind (Fin.behindNumber p) fun _ => Fin.bind (Fin.behindNumber q) fun _ => Fin.addrCmp _ _ _
 have subs : ∀ (p q : Addr), Fin P (do Op.addrSub .u64 (<- Go.behindNumber p).1 (<- Go.behindNumber q).1) := fun p q => Fin.bind (Fin.behindNumber p) fun _ => Fin.bind (Fin.behindNumber q) fun _ => Fin.addrSub _ _ _
 have mods : ∀ (k : IntKind) (n : Int) (p : Addr), Fin P (do Op.addrMod k (<- Go.behindNumber p).1 n) := fun k n p => Fin.bind (Fin.behindNumber p) fun _ => Fin.addrMod _ _ _
 by_cases hint : ∃ k x k' y, a = .int k x /\ b = .int k' y
 ·obtain ⟨k, x, k', y, rfl, rfl⟩ := hint
  clear h2 e1 e2 ha hb
  cases op <;> unfold Go.binOp <;> first
   | exact Fin.shift _ _ _ _ _
   | exact Fin.ite (fun _ => Fin.stuck _) fun _ => Fin.intArith _ _ _ _
   | exact Fin.ite (fun _ => Fin.stuck _) fun _ => Fin.intDiv _ _ _ _
   | exact Fin.ite (fun _ => Fin.stuck _) fun _ => Fin.intBits _ _ _ _
   | exact Fin.ite (fun _ => Fin.stuck _) fun _ => Fin.intCmp _ _ _
 by_cases hstr : ∃ x y, a = .string x /\ b = .string y
 ·obtain ⟨x, y, rfl, rfl⟩ := hstr
  clear h2 e1 e2 ha hb
  cases op <;> (unfold Go.binOp; exact Fin.stringOp _ _ _)
 by_cases hpp : ∃ p q, a = .pointer (some p) /\ b = .pointer (some q)
 ·obtain ⟨p, q, rfl, rfl⟩ := hpp
  clear ha hb h2
  cases op <;> first | exact e1 | exact e2 | exact cmps _ _ _ | exact subs _ _ | exact Fin.observed
 by_cases hpi : ∃ p k n, a = .pointer (some p) /\ b = .int k n
 ·obtain ⟨p, k, n, rfl, rfl⟩ := hpi
  clear ha hb h2
  cases op <;> unfold Go.binOp <;> first | exact e1 | exact e2 | exact mods _ _ _ | exact Fin.addU _ _ _ | exact Fin.movedNumber _ _ _ | exact Fin.observed
 by_cases hip : ∃ p k n, b = .pointer (some p) /\ a = .int k n
 ·obtain ⟨p, k, n, rfl, rfl⟩ := hip
  clear ha hb h2
  cases op <;> unfold Go.binOp <;> first | exact e1 | exact e2 | exact mods _ _ _ | exact Fin.movedNumber _ _ _ | exact Fin.observed
 unfold Go.binOp
 split
 all_goals first
  | exact e1
  | exact e2
  | exact Fin.stuck _
  | exact Fin.observed
  | exact absurd ⟨_, _, _, _, rfl, rfl⟩ hint
  | exact absurd ⟨_, _, rfl, rfl⟩ hstr
  | exact absurd ⟨_, _, rfl, rfl⟩ hpp
  | exact Bool.noConfusion ha
  | exact Bool.noConfusion hb
  | exact mods _ _ _
  | exact Fin.addU _ _ _
  | exact Fin.movedNumber _ _ _
end
end
section
open Go Go.Conc
section
variable {P : Program} {S : FuncId -> Prop}
theorem Fin.convert {s d : TypeId} (h : convB P s d = true) (x : Value) (hx : noFl x = true) : Fin P (Go.convert s d x) := by
 unfold Go.convert
 refine Fin.bindU fun u hu => Fin.bindU fun v hv => ?_
 unfold convB at h
 rw [hu, hv] at h
 cases u <;> cases v <;> try (exact absurd h Bool.false_ne_true)
 ·cases x <;> first | exact Bool.noConfusion hx | exact Fin.stuck _ | exact Fin.pure _ | exact Fin.noEntry _ | (cases ‹Option Addr› <;> first | exact Fin.observed | exact Fin.noEntry _)
 ·cases x <;> first | exact Bool.noConfusion hx | exact Fin.stuck _ | exact Fin.pure _ | exact Fin.noEntry _ | (cases ‹Option Addr› <;> first | exact Fin.observed | exact Fin.noEntry _)
 ·cases x <;> first | exact Bool.noConfusion hx | exact Fin.stuck _ | exact Fin.pure _ | exact Fin.noEntry _
 ·rename_i e
  simp only at h
  cases x <;> first | exact Bool.noConfusion hx | exact Fin.stuck _ | exact Fin.noEntry _ | (cases ‹Option Addr› <;> exact Fin.noEntry _) | skip
  all_goals
   refine Fin.bindU fun w hw => ?_
   rw [hw] at h
   cases w <;> try (exact absurd h Bool.false_ne_true)
   rename_i k
   cases k <;> try (exact absurd h Bool.false_ne_true)
   exact Fin.stringToBytes _ _
 ·rename_i e
  simp only at h
  have key : ∀ y : Value, Fin P (Go.underlying e >>= fun d => match d with | .int .u8 => Conv.bytesToString y | .int .i32 => Conv.runesToString y | _ => Go.stuck "Convert: a slice of what to string?") := fun y => by
   refine Fin.bindU fun w hw => ?_
   rw [hw] at h
   cases w <;> try (exact absurd h Bool.false_ne_true)
   rename_i k
   cases k <;> try (exact absurd h Bool.false_ne_true)
   exact Fin.bytesToString _
  cases x <;> first | exact Bool.noConfusion hx | exact key _ | exact Fin.pure _ | exact Fin.noEntry _ | exact Fin.stuck _
theorem Fin.range {t : TypeId} (ht : rangeB P t = true) (x : Value) : Fin P (Instr.range t x) := by
 unfold Instr.range
 refine Fin.bindU fun u hu => ?_
 unfold rangeB at ht
 rw [hu] at ht
 cases u <;> first | exact absurd ht Bool.false_ne_true | skip
 cases x <;> first | exact Fin.stuck _ | exact (And.intro (a := plainO (.stringIter _ 0) = true) rfl fun n => trivial)
theorem Fin.nextS (x : Value) (t : TypeId) : Fin P (Instr.next x true t) := by
 have key : ∀ r, Fin P (Go.getObj r >>= fun o => (match o, true with
  | .stringIter s pos, true =>
   if pos < s.size then (Go.setObj r (.stringIter s (pos + (Utf8.decode s pos).2)) >>= fun _ => Pure.pure (.tuple #[.bool true, goInt pos, .int .i32 (Utf8.decode s pos).1])) else Pure.pure (.tuple #[.bool false])
  | _, _ => Go.stuck "Next: iterator of the other kind" : Sem Value)) := fun r => by
  show ∀ o, plainO o = true -> Fin P _
  intro o ho
  cases o <;> first | exact Fin.stuck _ | skip
  exact Fin.ite (fun _ => (⟨rfl, trivial⟩ : plainO _ = true /\ True)) fun _ => Fin.pure _
 unfold Instr.next
 simp only
 split
 ·rename_i r sp
  show ∀ o, plainO o = true -> Fin P _
  intro o ho
  cases o <;> first | exact Fin.stuck _ | exact absurd ho Bool.false_ne_true | skip
  exact Fin.ite (fun _ => (⟨rfl, trivial⟩ : plainO _ = true /\ True)) fun _ => Fin.pure _
 ·exact Fin.stuck _
theorem Fin.makeInterface (t : TypeId) (x : Value) : Fin P (Instr.makeInterface t x) := by
 unfold Instr.makeInterface
 refine Fin.bind (Fin.underlying t) fun u => ?_
 split
 ·exact Fin.stuck _
 ·exact Fin.pure _
theorem Fin.panic (x : Value) : Fin P (Instr.panic x) := by
 unfold Instr.panic
 cases x <;> first | exact Fin.stuck _ | exact Fin.goPanic _ | skip
 show ∀ r, Fin P _ /\ NoOk P _
 intro r
 have key : ∀ c : Int, Fin P (if (c == 1) = true then Go.goPanic .nilIface else Go.runtimePanic .panicNil : Sem Value) /\ NoOk P (if (c == 1) = true then Go.goPanic .nilIface else Go.runtimePanic .panicNil : Sem Value) := fun c => by
  split
  ·exact ⟨Fin.goPanic _, NoOk.halt _⟩
  ·exact ⟨Fin.runtimePanic _, NoOk.runtimePanic _⟩
 cases r <;> first | exact ⟨rfl, NoOk.halt _⟩ | exact key _
theorem Fin.max (ts : Array TypeId) (t : TypeId) (x y : Value) (hx : noFl x = true) : Fin P (Builtin.max_ ts t #[x, y]) := by
 have key : Fin P (Builtin.max2 x y) := by
  unfold Builtin.max2
  cases x
  case pointer a => rcases a with _ | a <;> cases y <;> first | exact Fin.observed | exact Fin.stuck _ | (rename_i b; cases b <;> first | exact Fin.observed | exact Fin.stuck _)
  all_goals (cases y <;> first | exact Bool.noConfusion hx | exact Fin.pure _ | exact Fin.stuck _ | exact Fin.observed | exact Fin.bind (Fin.stringOp _ _ _) (fun u => Fin.bind (Fin.asBool u) fun _ => Fin.pure _) | (rename_i a; cases a <;> first | exact Fin.observed | exact Fin.stuck _))
 exact Fin.bind key fun u => Fin.pure _
def FnFin (P : Program) (S : FuncId -> Prop) : Prop := ∀ f, S f -> ∃ fn, P.funcs[f]? = some fn /\ (fn.name == "runtime.NumGoroutine") = false /\
 (fn.body.isNone = false ∨ (fn.body.isNone = true /\ (Extern.findNext fn).isNone = true /\ ∃ e, Extern.find fn = some e /\ ∀ as, Fin P (e as)))
theorem Fin.bindP {β : Type} {f : Program -> Sem β} (h : Fin P (f P)) : Fin P (Go.program >>= f) := h
theorem Fin.val {s : Sem Value} (h : Fin P s) : Fin P (s >>= fun v => Pure.pure (Next.value v)) := Fin.bind h fun _ => Fin.pure _
theorem Fin.unit {s : Sem Unit} (h : Fin P s) : Fin P (s >>= fun _ => Pure.pure Next.skip) := Fin.bind h fun _ => Fin.pure _
theorem Fin.callFunc (hF : FnFin P S) (f : FuncId) (hf : S f) (as : Array Value) : Fin P (Go.callFunc f as) := by
 unfold Go.callFunc
 obtain ⟨fn, h1, h2, h3⟩ := hF f hf
 refine Fin.bindP ?_
 rw [h1]
 simp only [h2, Bool.false_eq_true, if_false]
 rcases h3 with h3 | ⟨h3, h4, e, h5, h6⟩
 ·simp only [h3, Bool.false_eq_true, if_false]
  exact Fin.pure _
 ·simp only [h3, if_true]
  rw [Option.isNone_iff_eq_none] at h4
  simp only [h4, h5]
  exact Fin.bind (Fin.mark _) fun _ => Fin.val (h6 as)
theorem Fin.callValue {ρ : Ren} {f f' : Value} (hF : FnFin P S) (hf : VRel S ρ f f') (as : Array Value) : Fin P (Deferred.ofValue f as >>= fun d => invoke d.target d.args) := by
 cases hf with
 | func f as1 bs1 cs1 ds1 h0 h1 h2 h3 h4 => exact Fin.callFunc hF f h0 _
 | nilFunc =>
  show Fin P (Go.runtimePanic .nilDeref : Sem Next)
  exact Fin.runtimePanic _
 | yield l =>
  show ∀ o, plainO o = true -> Fin P _
  intro o ho
  cases o <;> first | exact Fin.stuck _ | exact absurd ho Bool.false_ne_true
 | _ => exact Fin.stuck _
theorem VRel.noFl {ρ : Ren} {x y : Value} (h : VRel S ρ x y) : noFl x = true := by cases h <;> rfl
theorem Fin.execOp {ρ : Ren} {ev ev' : Operand -> Value} {X : Operand -> Bool} {Sb : Nat -> Bool} (hF : FnFin P S) (h : ∀ x, X x = true -> VRel S ρ (ev x) (ev' x)) (o : Oper) (ho : okOp P X Sb o.op = true) : Fin P (Go.execOp ev o) := by
 obtain ⟨dst, op, tt, ps, af, gd⟩ := o
 simp only at ho
 cases op with
 | send c x => exact Fin.pure _
 | move x => exact Fin.pure _
 | assign x => exact Fin.pure _
 | pick c a b => exact Fin.bind (Fin.asBool _) fun u => Fin.pure _
 | alloc t => exact Fin.val (Fin.alloc t)
 | box t x => exact Fin.val (Fin.box t _)
 | build t ps => exact Fin.val (Fin.build t _)
 | buildSlice t n ps => exact Fin.val (Fin.buildSlice t n _)
 | load t x => exact Fin.val (Fin.loadAt t _)
 | store t a x => exact Fin.unit (Fin.storeAt t _ _)
 | binOp op t x y yt =>
  simp only [okOp, Bool.and_eq_true] at ho
  have hb := basic_of ho.1.1
  exact Fin.val (Fin.bind (Fin.eqGuard op x y hb _ _) fun _ => Fin.binOp op hb _ _ (h x ho.1.2).noFl (h y ho.2).noFl)
 | unOp op t x => exact Fin.val (Fin.unary op _)
 | convert s d x =>
  simp only [okOp, Bool.and_eq_true] at ho
  exact Fin.val (Fin.convert ho.1 _ (h x ho.2).noFl)
 | makeFunc fn first cap =>
  cases fn with
  | func f => exact Fin.val (Fin.pure _)
  | _ => exact absurd ho Bool.false_ne_true
 | makeSlice t l c => exact Fin.val (Fin.makeSlice t _ _)
 | slice t x lo hi mx => exact Fin.val (Fin.sliceAt t _ _ _ _)
 | fieldAddr s x f => exact Fin.val (Fin.fieldAt s _ f)
 | field s x f => exact Fin.val (Fin.field s _ f)
 | indexAddr t x i => exact Fin.val (Fin.indexAt t _ _)
 | index t x i => exact Fin.val (Fin.index t _ _)
 | extract x i => exact Fin.val (Fin.extract _ i)
 | nilCheck x =>
  have hx := h x ho
  unfold Go.execOp
  simp only
  generalize ev x = a at hx ⊢
  generalize ev' x = b at hx
  cases hx <;> first | exact Fin.runtimePanic _ | exact Fin.pure _
 | makeInterface t x => exact Fin.val (Fin.makeInterface t _)
 | panic x => exact Fin.val (Fin.panic _)
 | range t x =>
  simp only [okOp, Bool.and_eq_true] at ho
  exact Fin.val (Fin.range ho.2 _)
 | next it str =>
  simp only [okOp, Bool.and_eq_true] at ho
  obtain ⟨h1, rfl⟩ := ho
  exact Fin.val (Fin.nextS _ tt)
 | call c =>
  obtain ⟨callee, args, ats⟩ := c
  cases callee with
  | value f =>
   simp only [okOp, Bool.and_eq_true] at ho
   exact Fin.callValue hF (h f ho.1) _
  | builtin b =>
   have hoo : (args.all X && okB P b args.size ats) = true := ho
   rw [Bool.and_eq_true] at hoo
   obtain ⟨h9, hb⟩ := hoo
   clear ho
   have hnf : ∀ x ∈ args, noFl (ev x) = true := fun x hx => (h x (all_mem h9 x hx)).noFl
   clear h9
   obtain ⟨args⟩ := args
   obtain ⟨ats⟩ := ats
   cases b with
   | append =>
    match args, ats, hb with
    | [s, x], [t, t'], hb =>
     have key := Fin.append (P := P) t t' tt (ev s) (ev x)
     have m1 : ∀ g : Operand -> Value, #[g s, g x] = Array.map g (⟨[s, x]⟩ : Array Operand) := fun g => by simp
     rw [m1 ev] at key
     exact Fin.val key
   | copy =>
    match args, hb with
    | [s, x], hb =>
     have key := Fin.copy (P := P) ⟨ats⟩ tt (ev s) (ev x)
     have m1 : ∀ g : Operand -> Value, #[g s, g x] = Array.map g (⟨[s, x]⟩ : Array Operand) := fun g => by simp
     rw [m1 ev] at key
     exact Fin.val key
   | max =>
    match args, hb with
    | [s, x], hb =>
     have key := Fin.max (P := P) ⟨ats⟩ tt (ev s) (ev x) (hnf s (by simp))
     have m1 : ∀ g : Operand -> Value, #[g s, g x] = Array.map g (⟨[s, x]⟩ : Array Operand) := fun g => by simp
     rw [m1 ev] at key
     exact Fin.val key
   | len =>
    match args, ats, hb with
    | [x], [t], hb =>
     have key := Fin.len (P := P) ⟨[t]⟩ tt (ev x)
     have m1 : ∀ g : Operand -> Value, #[g x] = Array.map g (⟨[x]⟩ : Array Operand) := fun g => by simp
     rw [m1 ev] at key
     exact Fin.val key
   | _ => exact absurd hb (by unfold okB; simp)
  | _ => exact absurd ho Bool.false_ne_true
 | _ => exact absurd ho Bool.false_ne_true
end
end
section
open Go Go.Conc
def stepS (P : Program) (fr : Frame) (cs : List Frame) : Sem (Frame × List Frame) :=
 match fr.mode with
 | .run =>
  match fr.todo with
  | [] => pure ({ fr with mode := .returning }, cs)
  | .code .ret :: _ => pure ({ fr with mode := .returning }, cs)
  | .code .skip :: k => pure ({ fr with todo := k }, cs)
  | .code (.label _) :: k => pure ({ fr with todo := k }, cs)
  | .inBlock _ :: k => pure ({ fr with todo := k }, cs)
  | .inScope _ :: k => pure ({ fr with todo := k }, cs)
  | .code (.seq a b) :: k => pure ({ fr with todo := .code a :: .code b :: k }, cs)
  | .code (.cond c x y) :: k => match fr.eval c with
   | .bool b => pure ({ fr with todo := .code (if b then x else y) :: k }, cs)
   | _ => stuck "cond"
  | .code (.block id body) :: k => pure ({ fr with todo := .code body :: .inBlock id :: k }, cs)
  | .code (.loop body) :: k => pure ({ fr with todo := .code body :: .inLoop body :: k }, cs)
  | .inLoop body :: k => pure ({ fr with todo := .code body :: .inLoop body :: k }, cs)
  | .code (.scope body) :: k => pure ({ fr with todo := .code body :: .inScope body :: k }, cs)
  | .code (.exit id) :: k => match exitTo id k with
   | some k' => pure ({ fr with todo := k' }, cs)
   | none => stuck "exit"
  | .code (.region id ops draw) :: k =>
   if draw then (choose (.order fr.fn id) >>= fun t => pure ({ fr with todo := .inRegion ops (Region.schedule (P.follows .mixedOrders) ops t) :: k }, cs))
   else pure ({ fr with todo := .inRegion ops (List.range ops.size) :: k }, cs)
  | .inRegion _ [] :: k => pure ({ fr with todo := k }, cs)
  | .inRegion ops (i :: _) :: _ => match ops[i]? with
   | none => pure (fr.finish undef, cs)
   | some o =>
    if Region.wanted o (yielded ops fr.tmps) then (execOp fr.eval o >>= fun nx => match nx with
     | .value v => pure (fr.finish v, cs)
     | .skip => pure (fr.finish undef, cs)
     | .enter f args => pure (Frame.enter P f args .normal, fr :: cs)
     | _ => stuck "operation")
    else pure (fr.finish undef, cs)
  | .code (.goto l) :: k => match gotoIn l k with
   | some k' => pure ({ fr with todo := k' }, cs)
   | none => stuck "goto"
  | _ => stuck "item"
 | .returning => match fr.kind, cs, P.funcs[fr.fn]? with
  | .normal, c :: rest, some fn => match c.todo with
   | .inRegion _ (_ :: _) :: _ => results fn fr.tmps >>= fun v => pure (c.finish v, rest)
   | _ => stuck "return"
  | _, _, _ => stuck "return"
 | _ => stuck "mode"
def Tm (fr : Frame) : Prop := fr.roundOf = none /\ fr.defers = [] /\ fr.kind ≠ .early
theorem runT_bind_ok {α β : Type} {P : Program} {t : Sem α} {f : α -> Sem β} {w w' : World} {es es' : Array Event} {b : β} (h : (t >>= f).runT P w es = (.ok b w', es')) : ∃ a w1 es1, t.runT P w es = (.ok a w1, es1) /\ (f a).runT P w1 es1 = (.ok b w', es') := by
 have h : (t.bind f).runT P w es = (.ok b w', es') := h
 rw [Sem.runT_bind'] at h
 cases ht : t.runT P w es with
 | mk r es1 =>
  rw [ht] at h
  cases r with
  | ok a w1 => exact ⟨a, w1, es1, rfl, h⟩
  | halt x y => exact absurd (congrArg Prod.fst h) (by simp)
theorem runT_pure_ok {α : Type} {P : Program} {a b : α} {w w' : World} {es es' : Array Event} (h : (Pure.pure a : Sem α).runT P w es = (.ok b w', es')) : a = b /\ w = w' /\ es = es' := by
 have h : (Result.ok a w, es) = (.ok b w', es') := h
 injection h with h1 h2
 injection h1 with h1 h3
 exact ⟨h1, h3, h2⟩
theorem runT_stuck_ok {α : Type} {P : Program} {s : String} {b : α} {w w' : World} {es es' : Array Event} (h : (Go.stuck s : Sem α).runT P w es = (.ok b w', es')) : False := by
 have h : (Result.halt (.stuck s) w, es) = (.ok b w', es') := h
 injection h with h1 h2
 cases h1
theorem stepG_of_S {P : Program} {main : Bool} {fr fr' : Frame} {cs cs' : List Frame} {w w' : World} {es : Array Event} (ht : Tm fr) (h : (stepS P fr cs).runT P w #[] = (.ok (fr', cs') w', es)) :
  stepG P main (G fr cs) w = .go (G fr' cs') w' (seen P fr.fn es) := by
 obtain ⟨fn, tmps, todo, defers, mode, kind, roundOf⟩ := fr
 obtain ⟨h1, h2, h3⟩ := ht
 simp only at h1 h2 h3
 subst h1 h2
 have hk : (kind == CallKind.early) = false := by simpa using h3
 have mv : ∀ {x : Frame × List Frame}, (Pure.pure x : Sem (Frame × List Frame)).runT P w #[] = (.ok (fr', cs') w', es) -> fr' = x.1 /\ cs' = x.2 /\ w' = w /\ es = #[] := fun {x} hx => by
  obtain ⟨rfl, rfl, rfl⟩ := runT_pure_ok hx
  exact ⟨rfl, rfl, rfl, rfl⟩
 unfold stepS at h
 cases mode with
 | panicking ch => exact (runT_stuck_ok h).elim
 | returning =>
  simp only at h
  split at h
  ·rename_i c rest f hf
   split at h
   case h_2 => exact (runT_stuck_ok h).elim
   obtain ⟨v, w1, es1, h4, h5⟩ := runT_bind_ok h
   obtain ⟨e1, rfl, rfl⟩ := runT_pure_ok h5
   injection e1 with e1 e2
   subst e1 e2
   simp only [G, stepG, unwind, hf, h4, doReturn, GStep.after]
   simp
  ·exact (runT_stuck_ok h).elim
 | run =>
  simp only at h
  split at h
  case h_8 c x y k =>
   split at h
   ·rename_i b hb
    obtain ⟨rfl, rfl, rfl, rfl⟩ := mv h
    simp [G, stepG, stepG.exec, hb, seen_none]
   ·exact (runT_stuck_ok h).elim
  case h_13 id k =>
   split at h
   ·rename_i k' hk'
    obtain ⟨rfl, rfl, rfl, rfl⟩ := mv h
    simp [G, stepG, stepG.exec, hk', seen_none]
   ·exact (runT_stuck_ok h).elim
  case h_14 id ops draw k =>
   split at h
   ·rename_i hd
    obtain ⟨t, w1, es1, h4, h5⟩ := runT_bind_ok h
    obtain ⟨e1, rfl, rfl⟩ := runT_pure_ok h5
    injection e1 with e1 e2
    subst e1 e2
    have h6 : (choose (.order fn id)).run P w = .ok t w1 := by
     have := congrArg Prod.fst h4
     rw [Sem.runT_eq] at this
     exact this
    have h7 : es1 = #[] := by
     have h4 : (if (Question.order fn id).forced = true then (Result.ok 0 w, (#[] : Array Event)) else (.ok ((Question.order fn id).cut (w.tape w.drawn (.order fn id))) { w with drawn := w.drawn + 1 }, #[])) = (.ok t w1, es1) := h4
     exact (congrArg Prod.snd h4).symm
    subst h7
    simp [G, stepG, stepG.exec, hd, h6, seen_none]
   ·rename_i hd
    obtain ⟨rfl, rfl, rfl, rfl⟩ := mv h
    have hd : draw = false := by simpa using hd
    simp [G, stepG, stepG.exec, hd, seen_none]
  case h_16 ops i rest k =>
   split at h
   ·rename_i ho
    obtain ⟨rfl, rfl, rfl, rfl⟩ := mv h
    simp [G, stepG, stepG.exec, ho, seen_none]
   ·rename_i o ho
    split at h
    ·rename_i hw
     obtain ⟨nx, w1, es1, h4, h5⟩ := runT_bind_ok h
     simp only [G, stepG, stepG.exec, ho, Option.map_some, hw, Option.getD_some, if_true, stepG.oper, Frame.oper?, stepG.apply, h4, hk]
     cases nx <;> first | exact (runT_stuck_ok h5).elim | skip
     all_goals
      obtain ⟨e1, rfl, rfl⟩ := runT_pure_ok h5
      injection e1 with e1 e2
      subst e1 e2
      simp [GStep.after]
    ·rename_i hw
     obtain ⟨rfl, rfl, rfl, rfl⟩ := mv h
     have hw : Region.wanted o (yielded ops tmps) = false := by simpa using hw
     simp [G, stepG, stepG.exec, ho, hw, seen_none]
  case h_17 id k =>
   split at h
   ·rename_i k' hk'
    obtain ⟨rfl, rfl, rfl, rfl⟩ := mv h
    simp [G, stepG, stepG.exec, hk', seen_none]
   ·exact (runT_stuck_ok h).elim
  case h_18 => exact (runT_stuck_ok h).elim
  all_goals
   obtain ⟨rfl, rfl, rfl, rfl⟩ := mv h
   simp [G, stepG, stepG.exec, seen_none]
end
section
open Go Go.Conc
structure FRel (S : FuncId -> Prop) (ρ : Ren) (f f' : Frame) : Prop where
 fn : f'.fn = f.fn
 tmps : AsRel S ρ f.tmps f'.tmps
 todo : f'.todo = f.todo
 mode : f'.mode = f.mode
 kind : f'.kind = f.kind
 early : f.kind ≠ .early
 defers : f.defers = []
 defers' : f'.defers = []
 round : f.roundOf = none
 round' : f'.roundOf = none
inductive FsRel (S : FuncId -> Prop) (ρ : Ren) : List Frame -> List Frame -> Prop
 | nil : FsRel S ρ [] []
 | cons {f f' : Frame} {l l' : List Frame} : FRel S ρ f f' -> FsRel S ρ l l' -> FsRel S ρ (f :: l) (f' :: l')
section
variable {P : Program} {S : FuncId -> Prop} {N0 : Nat} {ρ ρ' : Ren}
theorem FRel.mono {f f' : Frame} (h : FRel S ρ f f') (e : Ext ρ ρ') : FRel S ρ' f f' := ⟨h.fn, h.tmps.mono e, h.todo, h.mode, h.kind, h.early, h.defers, h.defers', h.round, h.round'⟩
theorem FsRel.mono {l l' : List Frame} (h : FsRel S ρ l l') (e : Ext ρ ρ') : FsRel S ρ' l l' := by
 induction h with
 | nil => exact .nil
 | cons h _ ih => exact .cons (h.mono e) ih
theorem FRel.tm {f f' : Frame} (h : FRel S ρ f f') : Tm f' := ⟨h.round', h.defers', by rw [h.kind]; exact h.early⟩
theorem FRel.tm' {f f' : Frame} (h : FRel S ρ f f') : Tm f := ⟨h.round, h.defers, h.early⟩
theorem FRel.eval {f f' : Frame} {G Sb : Nat -> Bool} (h : FRel S ρ f f') (hG : GlOk G ρ) (hS : ∀ f, Sb f = true -> S f) (x : Operand) (hx : okX G Sb x = true) : VRel S ρ (f.eval x) (f'.eval x) := by
 cases x with
 | tmp t => exact h.tmps.getD t
 | const v => exact pureV_rel 8 v hx
 | global g => exact .ptr _ _ _ _ (hG g hx)
 | func g => exact .func g _ _ _ _ (hS g hx) rfl (fun i h => by simp at h) rfl (fun i h => by simp at h)
def okHead (P : Program) (G Sb : Nat -> Bool) (f : Frame) : Prop := match f.mode, f.todo with
 | .run, .code (.cond c _ _) :: _ => okX G Sb c = true
 | .run, .inRegion ops (i :: _) :: _ => ∀ o, ops[i]? = some o -> okOp P (okX G Sb) Sb o.op = true
 | _, _ => True
theorem yielded_rel {as bs : Array Value} (h : AsRel S ρ as bs) (ops : Array Oper) : yielded ops as = yielded ops bs := by
 funext j
 unfold Go.yielded
 cases hd : (ops[j]?).bind (·.dst) with
 | none => rfl
 | some d =>
  show (match as[d]? with | some (.bool b) => some b | _ => Option.none) = (match bs[d]? with | some (.bool b) => some b | _ => Option.none)
  cases ha : as[d]? with
  | none => rw [h.none ha]
  | some x =>
   obtain ⟨y, hy, hxy⟩ := h.get ha
   rw [hy]
   cases hxy <;> first | rfl | skip
   rename_i hj
   cases y <;> first | rfl | (cases hj)
theorem FRel.finish {f f' : Frame} {x y : Value} {ops : Array Oper} {i : Nat} {r : List Nat} {k : List Item} (h : FRel S ρ f f') (hto : f.todo = .inRegion ops (i :: r) :: k) (hv : VRel S ρ x y) : FRel S ρ (f.finish x) (f'.finish y) := by
 obtain ⟨fn, tmps, todo, defers, mode, kind, roundOf⟩ := f
 obtain ⟨fn', tmps', todo', defers', mode', kind', roundOf'⟩ := f'
 obtain ⟨h1, h2, h3, h4, h5, h6, h7, h8, h9, h10⟩ := h
 simp only at *
 subst h1 h3 h4 h5 h7 h8 h9 h10 hto
 unfold Frame.finish
 simp only
 refine ⟨rfl, ?_, rfl, rfl, rfl, h6, rfl, rfl, rfl, rfl⟩
 simp only
 cases (ops[i]?).bind (·.dst) with
 | none => exact h2
 | some d => exact h2.set _ hv
theorem FRel.todo' {f f' : Frame} (h : FRel S ρ f f') (t : List Item) : FRel S ρ { f with todo := t } { f' with todo := t } := ⟨h.fn, h.tmps, rfl, h.mode, h.kind, h.early, h.defers, h.defers', h.round, h.round'⟩
theorem FRel.back {f f' : Frame} (h : FRel S ρ f f') : FRel S ρ { f with mode := .returning } { f' with mode := .returning } := ⟨h.fn, h.tmps, h.todo, rfl, h.kind, h.early, h.defers, h.defers', h.round, h.round'⟩
theorem FRel.enter (f : FuncId) {as bs : Array Value} (kind : CallKind) (hk : kind ≠ .early) (h : AsRel S ρ as bs) : FRel S ρ (Frame.enter P f as kind) (Frame.enter P f bs kind) := by
 refine ⟨rfl, ?_, rfl, rfl, rfl, hk, rfl, rfl, rfl, rfl⟩
 unfold Frame.enter
 simp only [h.1]
 exact h.append (.replicate _ (.tuple _ _ rfl fun i h => by simp at h))
theorem Sim.listMapV {α : Type} {f f' : α -> Sem Value} : ∀ (l : List α) {ρ : Ren}, (∀ (ρ' : Ren) a, Ext ρ ρ' -> a ∈ l -> Sim P S N0 ρ' (VRel S) (f a) (f' a)) -> Sim P S N0 ρ (LsRel S) (l.mapM f) (l.mapM f')
 | [], ρ, h => by rw [List.mapM_nil, List.mapM_nil]; exact Sim.pure fun _ _ => .nil
 | a :: l, ρ, h => by
  rw [List.mapM_cons, List.mapM_cons]
  exact Sim.bind (h ρ a (Ext.refl _) (by simp)) fun ρ1 x y e1 hxy => Sim.bind (Sim.listMapV l fun ρ' a e ha => h ρ' a (e1.trans e) (by simp [ha])) fun ρ2 xs ys e2 hs => Sim.pure fun ρ3 e3 => .cons ((hxy.mono e2).mono e3) (hs.mono e3)
theorem Sim.results (fn : Func) {as bs : Array Value} (h : AsRel S ρ as bs) : Sim P S N0 ρ (VRel S) (Go.results fn as) (Go.results fn bs) := by
 unfold Go.results
 rw [Array.mapM_eq_mapM_toList, Array.mapM_eq_mapM_toList]
 refine Sim.bind (A := AsRel S) ?_ fun ρ1 xs ys e1 hs => ?_
 ·refine Sim.bind (Sim.listMapV fn.results.toList fun ρ' a e _ => ?_) fun ρ2 xs ys e2 hs => Sim.pure fun ρ3 e3 => (hs.mono e3).arr
  cases a with
  | tmp t => exact Sim.pure fun ρ2 e2 => ((h.mono e).mono e2).getD t
  | cell a t => exact Sim.bind (Sim.asAddr ((h.mono e).getD a)) fun ρ2 a b e2 hab => Sim.loadVar t hab
 ·refine Sim.pure fun ρ2 e2 => ?_
  have h2 := hs.mono e2
  by_cases h1 : xs.size = 1
  ·have h3 : ys.size = 1 := by rw [<- hs.1]; exact h1
   rw [dif_pos h1, dif_pos h3]
   exact h2.2 0 _ _
  ·have h3 : ¬ ys.size = 1 := by rw [<- hs.1]; exact h1
   rw [dif_neg h1, dif_neg h3]
   exact .tuple _ _ h2.1 h2.2
def StR (S : FuncId -> Prop) (ρ : Ren) (a b : Frame × List Frame) : Prop := FRel S ρ a.1 b.1 /\ FsRel S ρ a.2 b.2
theorem Sim.mv {a b : Frame × List Frame} (h : StR S ρ a b) : Sim P S N0 ρ (StR S) (Pure.pure a) (Pure.pure b) := Sim.pure fun ρ' e => ⟨h.1.mono e, h.2.mono e⟩
theorem Sim.stepS {G Sb : Nat -> Bool} {f f' : Frame} {l l' : List Frame} (hZ : ZeroOk P S) (hF : FnOk P S G N0) (hG : GlOk G ρ) (hS : ∀ f, Sb f = true -> S f) (ho : okHead P G Sb f) (h : FRel S ρ f f') (hl : FsRel S ρ l l') :
  Sim P S N0 ρ (StR S) (stepS P f l) (stepS P f' l') := by
 have hev := fun x hx => h.eval hG hS x hx
 have hfn := h.fn
 have hkd := h.kind
 have hyl := yielded_rel h.tmps
 have hto := h.todo
 have hmd := h.mode
 unfold Go.Proofs.YtlipmagkplbkdaaDoor.stepS
 unfold okHead at ho
 rw [hmd, hto, hkd, hfn]
 split
 ·rename_i hm
  rw [hm] at ho
  split
  case h_8 c x y k ht =>
   rw [ht] at ho
   simp only at ho
   have hc := hev c ho
   generalize f.eval c = u at *
   generalize f'.eval c = u' at *
   cases hc <;> first | exact Sim.halt | exact Sim.mv ⟨⟨rfl, h.tmps, rfl, rfl, rfl, h.early, h.defers, h.defers', h.round, h.round'⟩, hl⟩
  case h_13 id k ht =>
   cases exitTo id k with
   | none => exact Sim.halt
   | some k' => exact Sim.mv ⟨⟨rfl, h.tmps, rfl, rfl, rfl, h.early, h.defers, h.defers', h.round, h.round'⟩, hl⟩
  case h_14 id ops draw k ht =>
   refine Sim.ite (fun _ => ?_) fun _ => Sim.mv ⟨⟨rfl, h.tmps, rfl, rfl, rfl, h.early, h.defers, h.defers', h.round, h.round'⟩, hl⟩
   refine Sim.bind (Sim.choose _) fun ρ1 t t' e1 htt => ?_
   obtain rfl : t = t' := htt
   exact Sim.mv ⟨⟨rfl, h.tmps.mono e1, rfl, rfl, rfl, h.early, h.defers, h.defers', h.round, h.round'⟩, hl.mono e1⟩
  case h_16 ops i rest k ht =>
   rw [ht] at ho
   simp only at ho
   cases hop : ops[i]? with
   | none => exact Sim.mv ⟨h.finish ht (.tuple _ _ rfl fun i h => by simp at h), hl⟩
   | some o =>
    simp only
    rw [<- hyl ops]
    refine Sim.ite (fun _ => ?_) fun _ => Sim.mv ⟨h.finish ht (.tuple _ _ rfl fun i h => by simp at h), hl⟩
    refine Sim.bind (Sim.execOp hZ hF hG hS hev o (ho o hop)) fun ρ1 nx nx' e1 hn => ?_
    cases hn with
    | value x y hxy => exact Sim.mv ⟨(h.mono e1).finish ht hxy, hl.mono e1⟩
    | skip => exact Sim.mv ⟨(h.mono e1).finish ht (.tuple _ _ rfl fun i h => by simp at h), hl.mono e1⟩
    | enter g as bs hg hab => exact Sim.mv ⟨.enter g .normal (by simp) hab, .cons (h.mono e1) (hl.mono e1)⟩
    | comm u u' x x' z z' => exact Sim.halt
  case h_17 id k ht =>
   cases gotoIn id k with
   | none => exact Sim.halt
   | some k' => exact Sim.mv ⟨⟨rfl, h.tmps, rfl, rfl, rfl, h.early, h.defers, h.defers', h.round, h.round'⟩, hl⟩
  case h_18 => exact Sim.halt
  case h_1 => exact Sim.mv ⟨⟨rfl, h.tmps, rfl, rfl, rfl, h.early, h.defers, h.defers', h.round, h.round'⟩, hl⟩
  case h_2 => exact Sim.mv ⟨⟨rfl, h.tmps, rfl, rfl, rfl, h.early, h.defers, h.defers', h.round, h.round'⟩, hl⟩
  all_goals exact Sim.mv ⟨⟨rfl, h.tmps, rfl, rfl, rfl, h.early, h.defers, h.defers', h.round, h.round'⟩, hl⟩
 ·cases hl with
  | nil =>
   split
   ·rename_i heq _; cases heq
   ·exact Sim.halt
  | cons hc hl =>
   rename_i c c' r r'
   split
   ·rename_i c2 r2 fn hk heq hfn
    injection heq with e1 e2
    subst e1 e2
    simp only [hk, hfn, hc.todo]
    split
    ·rename_i ht
     exact Sim.bind (Sim.results fn h.tmps) fun ρ1 x y e1 hxy => Sim.mv ⟨(hc.mono e1).finish ht hxy, hl.mono e1⟩
    ·exact Sim.halt
   ·exact Sim.halt
 ·exact Sim.halt
end
end
section
open Go Go.Conc
def aT2 (v : World) (τ : Nat -> Question -> Nat) (d : Nat) : World := { v with tape := τ, drawn := d }
@[simp] theorem at2_at2 (v : World) (τ τ' : Nat -> Question -> Nat) (d d' : Nat) : aT2 (aT2 v τ d) τ' d' = aT2 v τ' d' := rfl
section
variable {α β : Type} {P : Program}
theorem run_shift : ∀ {t : Sem α} {v : World} {a : α} {v' : World}, Fin P t -> Plain v -> t.run P v = .ok a v' -> v'.tape = v.tape /\ ∃ k, v'.drawn = v.drawn + k /\
  ∀ τ d, (∀ i, i < k -> τ (d + i) = v.tape (v.drawn + i)) -> t.run P (aT2 v τ d) = .ok a (aT2 v' τ (d + k)) := by
 intro t
 induction t with
 | pure x =>
  intro v a v' _ _ hr
  have hr : Result.ok x v = .ok a v' := hr
  injection hr with h1 h2
  subst h1 h2
  exact ⟨rfl, 0, rfl, fun τ d _ => rfl⟩
 | load m ad c ih =>
  intro v a v' hf hp hr
  unfold Sem.run at hr
  cases hc : v.cell? ad with
  | none =>
   obtain ⟨s, hs⟩ := hp.farLoad (P := P) ad (m == .atomic)
   simp only [hc, hs] at hr
   cases hr
  | some x =>
   simp only [hc] at hr
   obtain ⟨h1, k, h2, h3⟩ := ih x (hf x) hp hr
   refine ⟨h1, k, h2, fun τ d hw => ?_⟩
   unfold Sem.run
   have hc' : (aT2 v τ d).cell? ad = some x := hc
   simp only [hc']
   exact h3 τ d hw
 | store m ad x c ih =>
  intro v a v' hf hp hr
  have shape : ∀ (w : World), isCell x = true -> (Sem.store m ad x c).run P w = (match w.cell? ad with
    | some _ => if w.frozen? ad then .halt (.unsupported (.unsafePointer "a write to bytes that a string shares")) w else c.run P (w.setCell ad x)
    | none => match w.farStore P ad x (m == .atomic) with
     | .ok (w, _) => c.run P w
     | .error h => .halt h w) := fun w hx => by cases x <;> first | rfl | (cases hx)
  by_cases hx : isCell x = true
  ·rw [shape v hx] at hr
   cases hc : v.cell? ad with
   | none =>
    obtain ⟨s, hs⟩ := hp.farStore (P := P) ad x (m == .atomic)
    simp only [hc, hs] at hr
    cases hr
   | some y =>
    simp only [hc] at hr
    by_cases hz : v.frozen? ad = true
    ·rw [if_pos hz] at hr; cases hr
    ·rw [if_neg hz] at hr
     obtain ⟨h1, k, h2, h3⟩ := ih hf (hp.setCell ad x) hr
     refine ⟨h1, k, h2, fun τ d hw => ?_⟩
     rw [shape _ hx]
     have hc' : (aT2 v τ d).cell? ad = some y := hc
     have hz' : ¬ (aT2 v τ d).frozen? ad = true := hz
     simp only [hc', if_neg hz']
     exact h3 τ d hw
  ·exfalso
   cases x <;> first | exact hx rfl | (cases hr)
 | new o c ih =>
  intro v a v' hf hp hr
  obtain ⟨h1, k, h2, h3⟩ := ih v.heap.size (hf.2 _) (hp.push hf.1) hr
  exact ⟨h1, k, h2, fun τ d hw => h3 τ d hw⟩
 | shape r c ih =>
  intro v a v' hf hp hr
  obtain ⟨h1, k, h2, h3⟩ := ih _ (hf _) hp hr
  exact ⟨h1, k, h2, fun τ d hw => h3 τ d hw⟩
 | freeze ad n c ih =>
  intro v a v' hf hp hr
  have e : ∀ (w : World), (w.freeze ad n).tape = w.tape /\ (w.freeze ad n).drawn = w.drawn := fun w => by unfold World.freeze; split <;> exact ⟨rfl, rfl⟩
  have e2 : ∀ (τ : Nat -> Question -> Nat) (d : Nat), (aT2 v τ d).freeze ad n = aT2 (v.freeze ad n) τ d := fun τ d => by unfold World.freeze; split <;> rfl
  obtain ⟨h1, k, h2, h3⟩ := ih hf (hp.freeze ad n) hr
  rw [(e v).1] at h1
  rw [(e v).2] at h2
  refine ⟨h1, k, h2, fun τ d hw => ?_⟩
  show c.run P ((aT2 v τ d).freeze ad n) = _
  rw [e2]
  exact h3 τ d (by rw [(e v).1, (e v).2]; exact hw)
 | frozen ad c ih =>
  intro v a v' hf hp hr
  obtain ⟨h1, k, h2, h3⟩ := ih _ (hf _) hp hr
  exact ⟨h1, k, h2, fun τ d hw => h3 τ d hw⟩
 | getObj r c ih =>
  intro v a v' hf hp hr
  unfold Sem.run at hr
  cases ho : v.heap[r]? with
  | none => rw [ho] at hr; cases hr
  | some o =>
   by_cases hcells : ∃ cs t fr, o = .cells cs t fr
   ·obtain ⟨cs, t, fr, rfl⟩ := hcells
    rw [ho] at hr; cases hr
   ·have hr2 : (c o).run P v = .ok a v' := by
     rw [ho] at hr
     cases o <;> first | exact hr | exact absurd ⟨_, _, _, rfl⟩ hcells
    obtain ⟨h1, k, h2, h3⟩ := ih o (hf o (hp _ _ ho)) hp hr2
    refine ⟨h1, k, h2, fun τ d hw => ?_⟩
    unfold Sem.run
    have ho' : (aT2 v τ d).heap[r]? = some o := ho
    rw [ho']
    cases o <;> first | exact h3 τ d hw | exact absurd ⟨_, _, _, rfl⟩ hcells
 | setObj r x c ih =>
  intro v a v' hf hp hr
  unfold Sem.run at hr
  cases ho : v.heap[r]? with
  | none => rw [ho] at hr; cases hr
  | some o =>
   by_cases hcells : ∃ cs t fr, o = .cells cs t fr
   ·obtain ⟨cs, t, fr, rfl⟩ := hcells
    rw [ho] at hr; cases hr
   ·have hr2 : c.run P { v with heap := v.heap.setIfInBounds r x } = .ok a v' := by
     rw [ho] at hr
     cases o <;> first | exact hr | exact absurd ⟨_, _, _, rfl⟩ hcells
    obtain ⟨h1, k, h2, h3⟩ := ih hf.2 (hp.set hf.1) hr2
    refine ⟨h1, k, h2, fun τ d hw => ?_⟩
    unfold Sem.run
    have ho' : (aT2 v τ d).heap[r]? = some o := ho
    rw [ho']
    cases o <;> first | exact h3 τ d hw | exact absurd ⟨_, _, _, rfl⟩ hcells
 | choose q c ih =>
  intro v a v' hf hp hr
  unfold Sem.run at hr
  by_cases hq : q.forced = true
  ·rw [if_pos hq] at hr
   obtain ⟨h1, k, h2, h3⟩ := ih _ (hf _) hp hr
   refine ⟨h1, k, h2, fun τ d hw => ?_⟩
   unfold Sem.run
   rw [if_pos hq]
   exact h3 τ d hw
  ·rw [if_neg hq] at hr
   obtain ⟨h1, k, h2, h3⟩ := ih _ (hf _) (show Plain { v with drawn := v.drawn + 1 } from hp) hr
   refine ⟨h1, k + 1, by rw [h2]; simp only; omega, fun τ d hw => ?_⟩
   unfold Sem.run
   rw [if_neg hq]
   have e0 : τ d = v.tape v.drawn := by simpa using hw 0 (by omega)
   have := h3 τ (d + 1) fun i hi => by
    have := hw (i + 1) (by omega)
    rw [show d + 1 + i = d + (i + 1) by omega, this]
    show _ = v.tape (v.drawn + 1 + i)
    rw [show v.drawn + 1 + i = v.drawn + (i + 1) by omega]
   show (c (q.cut (τ d q))).run P (aT2 v τ (d + 1)) = _
   rw [e0, show d + (k + 1) = d + 1 + k by omega]
   exact this
 | sys cc c ih =>
  intro v a v' hf hp hr
  exact absurd hr ((hf _).2 _ _ _)
 | program c ih =>
  intro v a v' hf hp hr
  obtain ⟨h1, k, h2, h3⟩ := ih _ hf hp hr
  exact ⟨h1, k, h2, fun τ d hw => h3 τ d hw⟩
 | mark m c ih =>
  intro v a v' hf hp hr
  obtain ⟨h1, k, h2, h3⟩ := ih hf hp hr
  exact ⟨h1, k, h2, fun τ d hw => h3 τ d hw⟩
 | halt x =>
  intro v a v' hf hp hr
  have hr : Result.halt x v = .ok a v' := hr
  cases hr
end
end
section
open Go Go.Conc
abbrev Sit := Frame -> List Frame -> World -> Prop
inductive T (P : Program) (J Q : Sit) : Frame -> List Frame -> World -> Prop
 | stop (fr : Frame) (cs : List Frame) (v : World) : Q fr cs v -> T P J Q fr cs v
 | step (fr : Frame) (cs : List Frame) (v : World) : J fr cs v -> (∀ τ d, ∃ x v', (stepS P fr cs).run P (aT2 v τ d) = .ok x v') -> (∀ τ d x v', (stepS P fr cs).run P (aT2 v τ d) = .ok x v' -> T P J Q x.1 x.2 v') -> T P J Q fr cs v
inductive ReachS (P : Program) (Q : Sit) : Frame -> List Frame -> World -> Prop
 | here (fr : Frame) (cs : List Frame) (v : World) : Q fr cs v -> ReachS P Q fr cs v
 | next (fr : Frame) (cs : List Frame) (v : World) (x : Frame × List Frame) (v' : World) : (stepS P fr cs).run P v = .ok x v' -> ReachS P Q x.1 x.2 v' -> ReachS P Q fr cs v
section
variable {P : Program} {J Q : Sit}
theorem T.at2 (hJ : ∀ fr cs v τ d, J fr cs v -> J fr cs (aT2 v τ d)) (hQ : ∀ fr cs v τ d, Q fr cs v -> Q fr cs (aT2 v τ d)) {fr : Frame} {cs : List Frame} {v : World} (h : T P J Q fr cs v) (τ : Nat -> Question -> Nat) (d : Nat) : T P J Q fr cs (aT2 v τ d) := by
 cases h with
 | stop _ _ _ h => exact .stop _ _ _ (hQ _ _ _ _ _ h)
 | step _ _ _ hj h k => exact .step _ _ _ (hJ _ _ _ _ _ hj) (fun τ' d' => h τ' d') fun τ' d' => k τ' d'
theorem T.mono {J' Q' : Sit} (hJ : ∀ fr cs v, J fr cs v -> J' fr cs v) (hQ : ∀ fr cs v, Q fr cs v -> Q' fr cs v) {fr : Frame} {cs : List Frame} {v : World} (h : T P J Q fr cs v) : T P J' Q' fr cs v := by
 induction h with
 | stop _ _ _ h => exact .stop _ _ _ (hQ _ _ _ h)
 | step _ _ _ hj h _ ih => exact .step _ _ _ (hJ _ _ _ hj) h ih
structure Kept (P : Program) (J : Sit) : Prop where
 fin : ∀ fr cs v, J fr cs v -> Fin P (stepS P fr cs)
 plain : ∀ fr cs v, J fr cs v -> Plain v
 at2 : ∀ fr cs v τ d, J fr cs v -> J fr cs (aT2 v τ d)
 step : ∀ fr cs v x v', J fr cs v -> (stepS P fr cs).run P v = .ok x v' -> J x.1 x.2 v'
theorem ReachS.shift (hJ : Kept P J) (hQ : ∀ fr cs v τ d, Q fr cs v -> Q fr cs (aT2 v τ d)) {fr : Frame} {cs : List Frame} {v : World} (h : ReachS P Q fr cs v) :
  J fr cs v -> ∀ τ d, (∀ i, τ (d + i) = v.tape (v.drawn + i)) -> ReachS P Q fr cs (aT2 v τ d) := by
 induction h with
 | here _ _ _ h => exact fun _ τ d _ => .here _ _ _ (hQ _ _ _ _ _ h)
 | next fr cs v x v' hr _ ih =>
  intro hj τ d hw
  obtain ⟨h1, k, h2, h3⟩ := run_shift (hJ.fin _ _ _ hj) (hJ.plain _ _ _ hj) hr
  refine .next _ _ _ x _ (h3 τ d fun i _ => hw i) (ih (hJ.step _ _ _ _ _ hj hr) τ (d + k) fun i => ?_)
  rw [h1, h2, Nat.add_assoc, Nat.add_assoc]
  exact hw (k + i)
structure Bad (P : Program) (J Q : Sit) where
 fr : Frame
 cs : List Frame
 v : World
 j : J fr cs v
 all : ∀ τ d, ReachS P Q fr cs (aT2 v τ d)
 no : ¬ T P J Q fr cs v
theorem Bad.next (hJ : Kept P J) (hQ : ∀ fr cs v τ d, Q fr cs v -> Q fr cs (aT2 v τ d)) (b : Bad P J Q) :
  ∃ (b' : Bad P J Q) (σ : Nat -> Question -> Nat) (k : Nat), ∀ τ d, (∀ i, i < k -> τ (d + i) = σ i) -> ∃ v', (stepS P b.fr b.cs).run P (aT2 b.v τ d) = .ok (b'.fr, b'.cs) v' /\ v' = aT2 b'.v τ (d + k) := by
 have hne : ¬ ∀ τ d, ∃ x v', (stepS P b.fr b.cs).run P (aT2 b.v τ d) = .ok x v' /\ T P J Q x.1 x.2 v' := fun h => b.no (.step _ _ _ b.j (fun τ d => let ⟨x, v', h1, _⟩ := h τ d; ⟨x, v', h1⟩) fun τ d x v' hr => by
  obtain ⟨x2, v2, h1, h2⟩ := h τ d
  rw [h1] at hr
  injection hr with e1 e2
  subst e1 e2
  exact h2)
 have hnq : ∀ τ d, ¬ Q b.fr b.cs (aT2 b.v τ d) := fun τ d h => b.no (.stop _ _ _ (by have := hQ _ _ _ b.v.tape b.v.drawn h; exact this))
 obtain ⟨τ, hne⟩ := Classical.not_forall.1 hne
 obtain ⟨d, hne⟩ := Classical.not_forall.1 hne
 have hr := b.all τ d
 cases hr with
 | here _ _ _ h => exact absurd h (hnq τ d)
 | next _ _ _ x v' hr hx =>
  have hj := hJ.at2 _ _ _ τ d b.j
  obtain ⟨h1, k, h2, h3⟩ := run_shift (hJ.fin _ _ _ hj) (hJ.plain _ _ _ hj) hr
  have hno : ¬ T P J Q x.1 x.2 v' := fun h => hne ⟨x, v', hr, h⟩
  refine ⟨⟨x.1, x.2, v', hJ.step _ _ _ _ _ hj hr, fun τ' d' => ?_, hno⟩, fun i => τ (d + i), k, fun τ' d' hw => ⟨_, h3 τ' d' fun i hi => hw i hi, rfl⟩⟩
  let τ2 : Nat -> Question -> Nat := fun i => if i < k then τ (d + i) else τ' (d' + (i - k))
  have hr2 := h3 τ2 0 fun i hi => by
   show (if 0 + i < k then τ (d + (0 + i)) else _) = τ (d + i)
   rw [if_pos (by omega), Nat.zero_add]
  have hr3 := b.all τ2 0
  cases hr3 with
  | here _ _ _ h => exact absurd h (hnq _ _)
  | next _ _ _ x2 v2 hr4 hx2 =>
   have hr2 : (stepS P b.fr b.cs).run P (aT2 b.v τ2 0) = .ok x (aT2 v' τ2 (0 + k)) := hr2
   rw [hr2] at hr4
   injection hr4 with e1 e2
   subst e1 e2
   have := hx2.shift hJ hQ (hJ.at2 _ _ _ _ _ (hJ.step _ _ _ _ _ hj hr)) τ' d' fun i => by
    show τ' (d' + i) = (if 0 + k + i < k then _ else τ' (d' + (0 + k + i - k)))
    rw [if_neg (by omega), show 0 + k + i - k = i by omega]
   exact this
theorem bar (hJ : Kept P J) (hQ : ∀ fr cs v τ d, Q fr cs v -> Q fr cs (aT2 v τ d)) {fr : Frame} {cs : List Frame} {v : World} (hj : J fr cs v) (h : ∀ τ d, ReachS P Q fr cs (aT2 v τ d)) : T P J Q fr cs v := by
 classical
 refine Classical.byContradiction fun hno => ?_
 let b0 : Bad P J Q := ⟨fr, cs, v, hj, h, hno⟩
 have step := fun b : Bad P J Q => Bad.next hJ hQ b
 let nx : Bad P J Q -> Bad P J Q := fun b => Classical.choose (step b)
 let win : Bad P J Q -> Nat -> Question -> Nat := fun b => Classical.choose (Classical.choose_spec (step b))
 let len : Bad P J Q -> Nat := fun b => Classical.choose (Classical.choose_spec (Classical.choose_spec (step b)))
 have spec : ∀ b : Bad P J Q, ∀ τ d, (∀ i, i < len b -> τ (d + i) = win b i) -> ∃ v', (stepS P b.fr b.cs).run P (aT2 b.v τ d) = .ok ((nx b).fr, (nx b).cs) v' /\ v' = aT2 (nx b).v τ (d + len b) := fun b => Classical.choose_spec (Classical.choose_spec (Classical.choose_spec (step b)))
 let B : Nat -> Bad P J Q := fun n => Nat.rec b0 (fun _ b => nx b) n
 let D : Nat -> Nat := fun n => Nat.rec 0 (fun m d => d + len (B m)) n
 have hB : ∀ n, B (n + 1) = nx (B n) := fun _ => rfl
 have hD : ∀ n, D (n + 1) = D n + len (B n) := fun _ => rfl
 have mono : ∀ n m, n <= m -> D n <= D m := fun n m hnm => by
  induction hnm with
  | refl => exact Nat.le_refl _
  | step _ ih => exact Nat.le_trans ih (by rw [hD]; omega)
 let τ : Nat -> Question -> Nat := fun j => if hx : ∃ n, D n <= j /\ j < D (n + 1) then win (B (Classical.choose hx)) (j - D (Classical.choose hx)) else fun _ => 0
 have hτ : ∀ n i, i < len (B n) -> τ (D n + i) = win (B n) i := fun n i hi => by
  have hx : ∃ m, D m <= D n + i /\ D n + i < D (m + 1) := ⟨n, by omega, by rw [hD]; omega⟩
  show (if hx : ∃ m, D m <= D n + i /\ D n + i < D (m + 1) then win (B (Classical.choose hx)) (D n + i - D (Classical.choose hx)) else fun _ => 0) = _
  rw [dif_pos hx]
  have hs := Classical.choose_spec hx
  generalize Classical.choose hx = m at hs ⊢
  have : m = n := by
   rcases Nat.lt_trichotomy m n with hlt | e | hgt
   ·have := mono (m + 1) n hlt; omega
   ·exact e
   ·have h5 := mono (n + 1) m hgt
    have h6 := hs.1
    have h7 := hD n
    omega
  subst this
  rw [show D m + i - D m = i by omega]
 have key : ∀ (fr : Frame) (cs : List Frame) (w : World), ReachS P Q fr cs w -> ∀ n, fr = (B n).fr -> cs = (B n).cs -> w = aT2 (B n).v τ (D n) -> False := by
  intro fr cs w hr
  induction hr with
  | here fr cs w hq =>
   rintro n rfl rfl rfl
   exact (B n).no (.stop _ _ _ (by have := hQ _ _ _ (B n).v.tape (B n).v.drawn hq; exact this))
  | next fr cs w x w' hr _ ih =>
   rintro n rfl rfl rfl
   obtain ⟨v', h1, h2⟩ := spec (B n) τ (D n) fun i hi => hτ n i hi
   rw [h1] at hr
   injection hr with e1 e2
   subst e1 e2
   exact ih (n + 1) rfl rfl (by rw [h2, hD])
 exact key _ _ _ (h τ 0) 0 rfl rfl rfl
end
end
section
open Go Go.Conc
def okC (P : Program) (G Sb : Nat -> Bool) : Code -> Bool
 | .region _ ops _ => ops.all fun o => okOp P (okX G Sb) Sb o.op
 | .seq a b => okC P G Sb a && okC P G Sb b
 | .cond c a b => okX G Sb c && okC P G Sb a && okC P G Sb b
 | .block _ c | .loop c | .scope c => okC P G Sb c
 | .rangeFunc .. => false
 | _ => true
def okI (P : Program) (G Sb : Nat -> Bool) : Item -> Bool
 | .code c | .inLoop c | .inScope c => okC P G Sb c
 | .inBlock _ => true
 | .inRegion ops _ => ops.all fun o => okOp P (okX G Sb) Sb o.op
 | _ => false
structure Ctx (P : Program) (S : FuncId -> Prop) (G Sb : Nat -> Bool) : Prop where
 zero : ZeroOk P S
 fn : ∀ N0, FnOk P S G N0
 fin : FnFin P S
 sb : ∀ f, Sb f = true -> S f
 body : ∀ f, S f -> ∀ fn c, P.funcs[f]? = some fn -> fn.body = some c -> okC P G Sb c = true
structure OkFr (P : Program) (G Sb : Nat -> Bool) (f : Frame) : Prop where
 kind : f.kind = .normal
 fn : ∃ fn, P.funcs[f.fn]? = some fn
 items : ∀ i ∈ f.todo, okI P G Sb i = true
def AtCall (f : Frame) : Prop := f.mode = .run /\ ∃ ops i r k, f.todo = .inRegion ops (i :: r) :: k
def Self (P : Program) (S : FuncId -> Prop) (G : Nat -> Bool) (fr : Frame) (cs : List Frame) (v : World) : Prop :=
 Plain v /\ ∃ N0 ρ, WRel P S N0 ρ v v /\ GlOk G ρ /\ FRel S ρ fr fr /\ FsRel S ρ cs cs
def cBad : Frame := { fn := 0, tmps := #[], todo := [.code (.refuse "")], defers := [{ target := .nil, args := #[] }], mode := .run, kind := .normal }
def JI (P : Program) (S : FuncId -> Prop) (G Sb : Nat -> Bool) : Sit := fun fr cs v =>
 ∃ fs, cs = fs ++ [cBad] /\ OkFr P G Sb fr /\ (fr.mode = .run ∨ fr.mode = .returning) /\ (∀ f ∈ fs, OkFr P G Sb f /\ AtCall f) /\ Self P S G fr fs v
section
variable {P : Program} {S : FuncId -> Prop} {G Sb : Nat -> Bool}
theorem exitTo_mem {id : Nat} : ∀ {k k' : List Item}, exitTo id k = some k' -> ∀ i ∈ k', i ∈ k
 | [], k', h, i, hi => by cases h
 | x :: k, k', h, i, hi => by
  by_cases hx : ∃ b, x = .inBlock b
  ·obtain ⟨b, rfl⟩ := hx
   have h : (if b == id then some k else exitTo id k) = some k' := h
   split at h
   ·injection h with h; subst h; exact List.mem_cons_of_mem _ hi
   ·exact List.mem_cons_of_mem _ (exitTo_mem h i hi)
  ·have h : exitTo id k = some k' := by
    rw [<- h]
    cases x <;> first | rfl | exact absurd ⟨_, rfl⟩ hx
   exact List.mem_cons_of_mem _ (exitTo_mem h i hi)
theorem findLabel_ok {l : Nat} : ∀ {c r : Code}, findLabel c l = some r -> okC P G Sb c = true -> okC P G Sb r = true
 | .seq a b, r, h, hc => by
  have hc : (okC P G Sb a && okC P G Sb b) = true := hc
  simp only [Bool.and_eq_true] at hc
  have h : (match findLabel a l with | some rest => some (.seq rest b) | none => findLabel b l) = some r := h
  cases ha : findLabel a l with
  | some rest =>
   rw [ha] at h
   injection h with h
   subst h
   show (okC P G Sb rest && okC P G Sb b) = true
   rw [findLabel_ok ha hc.1, hc.2]; rfl
  | none =>
   rw [ha] at h
   exact findLabel_ok h hc.2
 | .label l', r, h, _ => by
  have h : (if l' == l then some Code.skip else none) = some r := h
  split at h
  ·injection h with h; subst h; rfl
  ·cases h
 | .skip, r, h, _ | .ret, r, h, _ | .exit _, r, h, _ | .goto _, r, h, _ | .region .., r, h, _ | .cond .., r, h, _ | .block .., r, h, _ | .loop _, r, h, _ | .scope _, r, h, _ | .rangeFunc .., r, h, _ | .refuse _, r, h, _ => by cases h
theorem gotoIn_ok {l : Nat} : ∀ {k k' : List Item}, gotoIn l k = some k' -> (∀ i ∈ k, okI P G Sb i = true) -> ∀ i ∈ k', okI P G Sb i = true
 | [], k', h, _ => by cases h
 | x :: k, k', h, hk => by
  have tail : gotoIn l k = some k' -> ∀ i ∈ k', okI P G Sb i = true := fun h => gotoIn_ok h fun i hi => hk i (List.mem_cons_of_mem _ hi)
  by_cases hx : ∃ c, x = .inScope c
  ·obtain ⟨c, rfl⟩ := hx
   have h : (match findLabel c l with | some rest => some (.code rest :: .inScope c :: k) | none => gotoIn l k) = some k' := h
   cases hf : findLabel c l with
   | some rest =>
    rw [hf] at h
    injection h with h
    subst h
    intro i hi
    rcases List.mem_cons.1 hi with rfl | hi
    ·exact findLabel_ok hf (hk _ (List.mem_cons_self ..))
    ·exact hk i hi
   | none => rw [hf] at h; exact tail h
  ·have h : gotoIn l k = some k' := by
    rw [<- h]
    cases x <;> first | rfl | exact absurd ⟨_, rfl⟩ hx
   exact tail h
theorem OkFr.head {f : Frame} (h : OkFr P G Sb f) : okHead P G Sb f := by
 unfold okHead
 split
 ·rename_i c x y k hm ht
  have := h.items _ (by rw [ht]; exact List.mem_cons_self ..)
  have h2 : (okX G Sb c && okC P G Sb x && okC P G Sb y) = true := this
  simp only [Bool.and_eq_true] at h2
  exact h2.1.1
 ·rename_i ops i r k hm ht
  intro o ho
  have := h.items _ (by rw [ht]; exact List.mem_cons_self ..)
  have h2 : (ops.all fun o => okOp P (okX G Sb) Sb o.op) = true := this
  exact Array.all_eq_true_iff_forall_mem.1 h2 o (Array.mem_of_getElem? ho)
 ·trivial
theorem Sim.det {α : Type} {N0 : Nat} {ρ : Ren} {A : Ren -> α -> α -> Prop} {t : Sem α} (h : Sim P S N0 ρ A t t) {v : World} (hw : WRel P S N0 ρ v v) {a : α} {v' : World} (hr : t.run P v = .ok a v') : ∃ ρ', Ext ρ ρ' /\ A ρ' a a /\ WRel P S N0 ρ' v' v' := by
 obtain ⟨ρ₂, b, w', evs, h1, h2, h3, h4, h5⟩ := h ρ v v (Ext.refl _) hw a v' hr
 have := congrArg Prod.fst (h2 #[])
 rw [Sem.runT_eq] at this
 rw [show t.run P v = .ok b w' from this] at hr
 injection hr with e1 e2
 subst e1 e2
 exact ⟨ρ₂, h1, h3, h4⟩
theorem Fin.stepS (hC : Ctx P S G Sb) {fr : Frame} {cs : List Frame} {v : World} (ho : okHead P G Sb fr) (hs : Self P S G fr cs v) : Fin P (stepS P fr cs) := by
 obtain ⟨_, N0, ρ, hw, hG, hf, hl⟩ := hs
 have hev := fun x hx => hf.eval hG hC.sb x hx
 unfold Go.Proofs.YtlipmagkplbkdaaDoor.stepS
 unfold okHead at ho
 split
 ·rename_i hm
  rw [hm] at ho
  split
  case h_8 => split <;> first | exact Fin.pure _ | exact Fin.stuck _
  case h_13 => split <;> first | exact Fin.pure _ | exact Fin.stuck _
  case h_14 => exact Fin.ite (fun _ => Fin.bind (Fin.choose _) fun _ => Fin.pure _) fun _ => Fin.pure _
  case h_16 ops i rest k ht =>
   rw [ht] at ho
   simp only at ho
   split
   ·exact Fin.pure _
   ·rename_i o hop
    refine Fin.ite (fun _ => Fin.bind (Fin.execOp hC.fin hev o (ho o hop)) fun nx => ?_) fun _ => Fin.pure _
    cases nx <;> first | exact Fin.pure _ | exact Fin.stuck _
  case h_17 => split <;> first | exact Fin.pure _ | exact Fin.stuck _
  case h_18 => exact Fin.stuck _
  all_goals exact Fin.pure _
 ·split
  ·split
   ·rename_i fn hk hfn _ _ _ _ _
    refine Fin.bind ?_ fun _ => Fin.pure _
    unfold Go.results
    refine Fin.bind (Fin.arrMapM (fun a => ?_) _) fun _ => Fin.pure _
    cases a with
    | tmp t => exact Fin.pure _
    | cell a t => exact Fin.bind (Fin.asAddr _) fun _ => Fin.loadVar _ _
   ·exact Fin.stuck _
  ·exact Fin.stuck _
 ·exact Fin.stuck _
theorem Self.step (hC : Ctx P S G Sb) {fr : Frame} {cs : List Frame} {v : World} (ho : okHead P G Sb fr) (hs : Self P S G fr cs v) {x : Frame × List Frame} {v' : World} (hr : (stepS P fr cs).run P v = .ok x v') : Self P S G x.1 x.2 v' := by
 have hfin := Fin.stepS hC ho hs
 obtain ⟨hp, N0, ρ, hw, hG, hf, hl⟩ := hs
 obtain ⟨ρ', e, hA, hw'⟩ := (Sim.stepS hC.zero (hC.fn N0) hG hC.sb ho hf hl).det hw hr
 have hp' := fin_run hfin hp
 rw [hr] at hp'
 exact ⟨hp', N0, ρ', hw', hG.mono e, hA.1, hA.2⟩
theorem Self.at2 {fr : Frame} {cs : List Frame} {v : World} (hs : Self P S G fr cs v) (τ : Nat -> Question -> Nat) (d : Nat) : Self P S G fr cs (aT2 v τ d) := by
 obtain ⟨hp, N0, ρ, hw, hG, hf, hl⟩ := hs
 exact ⟨hp, N0, ρ, ⟨hw.inj, hw.func, hw.dom, hw.cell, rfl, rfl, hw.low, hw.glob, hw.lowW, hw.same, hw.nl⟩, hG, hf, hl⟩
end
end
section
open Go Go.Conc
section
variable {P : Program} {S : FuncId -> Prop} {G Sb : Nat -> Bool}
theorem run_bind_ok {α β : Type} {P : Program} {t : Sem α} {f : α -> Sem β} {w w' : World} {b : β} (h : (t >>= f).run P w = .ok b w') : ∃ a w1, t.run P w = .ok a w1 /\ (f a).run P w1 = .ok b w' := by
 have h : (t.bind f).run P w = .ok b w' := h
 rw [Sem.run_bind'] at h
 cases ht : t.run P w with
 | ok a w1 => rw [ht] at h; exact ⟨a, w1, rfl, h⟩
 | halt x y => rw [ht] at h; cases h
theorem run_pure_ok {α : Type} {P : Program} {a b : α} {w w' : World} (h : (Pure.pure a : Sem α).run P w = .ok b w') : a = b /\ w = w' := by
 have h : Result.ok a w = .ok b w' := h
 injection h with h1 h2
 exact ⟨h1, h2⟩
theorem run_stuck_ok {α : Type} {P : Program} {s : String} {b : α} {w w' : World} (h : (Go.stuck s : Sem α).run P w = .ok b w') : False := by
 have h : Result.halt (.stuck s) w = .ok b w' := h
 cases h
theorem OkFr.finish {f : Frame} (h : OkFr P G Sb f) {ops : Array Oper} {i : Nat} {r : List Nat} {k : List Item} (ht : f.todo = .inRegion ops (i :: r) :: k) (v : Value) : OkFr P G Sb (f.finish v) := by
 refine ⟨?_, ?_, ?_⟩
 ·unfold Frame.finish; rw [ht]; exact h.kind
 ·unfold Frame.finish; rw [ht]; exact h.fn
 ·unfold Frame.finish
  rw [ht]
  intro x hx
  have hx : x ∈ .inRegion ops r :: k := hx
  rcases List.mem_cons.1 hx with e | e
  ·have := h.items (.inRegion ops (i :: r)) (by rw [ht]; exact List.mem_cons_self ..)
   rw [e]; exact this
  ·exact h.items x (by rw [ht]; exact List.mem_cons_of_mem _ e)
theorem finish_mode {f : Frame} {ops : Array Oper} {i : Nat} {r : List Nat} {k : List Item} (ht : f.todo = .inRegion ops (i :: r) :: k) (v : Value) : (f.finish v).mode = f.mode := by unfold Frame.finish; rw [ht]
theorem okFr_enter (hC : Ctx P S G Sb) {f : FuncId} (hf : S f) (args : Array Value) : OkFr P G Sb (Frame.enter P f args .normal) := by
 obtain ⟨fn, h1, h2⟩ := hC.fn 0 f hf
 refine ⟨rfl, ⟨fn, h1⟩, fun i hi => ?_⟩
 have hi : i ∈ [Item.code (((P.funcs[f]?).bind (·.body)).getD (.refuse "unsupported: a function without a Go body is entered"))] := hi
 simp only [List.mem_cons, List.not_mem_nil, or_false] at hi
 subst hi
 rw [h1]
 cases hb : fn.body with
 | none => simp [hb, okI, okC]
 | some c => simp only [Option.bind_some, hb, Option.getD_some]; exact hC.body f hf fn c h1 hb
theorem JI.kept (hC : Ctx P S G Sb) : Kept P (JI P S G Sb) where
 fin fr cs v h := by
  obtain ⟨fs, rfl, ho, hm, hfs, hs⟩ := h
  have hfin := Fin.stepS hC ho.head hs
  revert hfin
  unfold Go.Proofs.YtlipmagkplbkdaaDoor.stepS
  rcases hm with hm | hm
  ·rw [hm]
   simp only
   split
   case h_8 => intro h; split <;> first | exact Fin.pure _ | exact Fin.stuck _
   case h_13 => intro h; split <;> first | exact Fin.pure _ | exact Fin.stuck _
   case h_14 => intro _; exact Fin.ite (fun _ => Fin.bind (Fin.choose _) fun _ => Fin.pure _) fun _ => Fin.pure _
   case h_16 ops i rest k ht =>
    intro _
    split
    ·exact Fin.pure _
    ·rename_i o hop
     obtain ⟨_, N0, ρ, hw, hG, hf, hl⟩ := hs
     have hev := fun x hx => hf.eval hG hC.sb x hx
     have hh := ho.head
     unfold okHead at hh
     rw [hm, ht] at hh
     refine Fin.ite (fun _ => Fin.bind (Fin.execOp hC.fin hev o (hh o hop)) fun nx => ?_) fun _ => Fin.pure _
     cases nx <;> first | exact Fin.pure _ | exact Fin.stuck _
   case h_17 => intro h; split <;> first | exact Fin.pure _ | exact Fin.stuck _
   case h_18 => intro _; exact Fin.stuck _
   all_goals intro _; exact Fin.pure _
  ·rw [hm]
   simp only
   intro _
   split
   ·split
    ·refine Fin.bind ?_ fun _ => Fin.pure _
     unfold Go.results
     refine Fin.bind (Fin.arrMapM (fun a => ?_) _) fun _ => Fin.pure _
     cases a with
     | tmp t => exact Fin.pure _
     | cell a t => exact Fin.bind (Fin.asAddr _) fun _ => Fin.loadVar _ _
    ·exact Fin.stuck _
   ·exact Fin.stuck _
 plain fr cs v h := by obtain ⟨fs, rfl, ho, hm, hfs, hs⟩ := h; exact hs.1
 at2 fr cs v τ d h := by obtain ⟨fs, rfl, ho, hm, hfs, hs⟩ := h; exact ⟨fs, rfl, ho, hm, hfs, hs.at2 τ d⟩
 step fr cs v x v' h hr := by
  obtain ⟨fs, rfl, ho, hm, hfs, hs⟩ := h
  have hh := ho.head
  have hit := ho.items
  have key : ∀ (y : Frame × List Frame), (stepS P fr fs).run P v = .ok y v' -> x = (y.1, y.2 ++ [cBad]) -> OkFr P G Sb y.1 -> (y.1.mode = .run ∨ y.1.mode = .returning) -> (∀ f ∈ y.2, OkFr P G Sb f /\ AtCall f) -> JI P S G Sb x.1 x.2 v' := fun y hy hx h1 h2 h3 => by
   subst hx
   exact ⟨y.2, rfl, h1, h2, h3, Self.step hC hh hs hy⟩
  have hunf : ∀ cs, stepS P fr cs = stepS P fr cs := fun _ => rfl
  unfold Go.Proofs.YtlipmagkplbkdaaDoor.stepS at hr key
  rcases hm with hm | hm
  ·rw [hm] at hr key
   simp only at hr key
   have mv : ∀ (t : List Item), (∀ i ∈ t, okI P G Sb i = true) -> ∀ m, OkFr P G Sb { fr with todo := t, mode := m } := fun t h m => ⟨ho.kind, ho.fn, h⟩
   have tl : ∀ {i : Item} {k : List Item}, fr.todo = i :: k -> ∀ j ∈ k, okI P G Sb j = true := fun e j hj => hit j (by rw [e]; exact List.mem_cons_of_mem _ hj)
   have hd : ∀ {i : Item} {k : List Item}, fr.todo = i :: k -> okI P G Sb i = true := fun e => hit _ (by rw [e]; exact List.mem_cons_self ..)
   have cI : ∀ {c : Code}, okC P G Sb c = true -> okI P G Sb (.code c) = true := fun h => h
   have lI : ∀ {c : Code}, okC P G Sb c = true -> okI P G Sb (.inLoop c) = true := fun h => h
   have sI : ∀ {c : Code}, okC P G Sb c = true -> okI P G Sb (.inScope c) = true := fun h => h
   have cons : ∀ {i : Item} {k : List Item}, okI P G Sb i = true -> (∀ j ∈ k, okI P G Sb j = true) -> ∀ j ∈ i :: k, okI P G Sb j = true := fun h1 h2 j hj => by
    rcases List.mem_cons.1 hj with e | e
    ·rw [e]; exact h1
    ·exact h2 j e
   split at hr
   case h_1 ht =>
    obtain ⟨rfl, rfl⟩ := run_pure_ok hr
    simp only [ht] at key
    have := key _ rfl rfl (mv [] (fun i hi => by cases hi) _) (.inr rfl) hfs
    simpa only [ht] using this
   case h_2 k ht =>
    obtain ⟨rfl, rfl⟩ := run_pure_ok hr
    simp only [ht] at key
    have := key _ rfl rfl (mv _ (by rw [ht] at hit; exact hit) _) (.inr rfl) hfs
    simpa only [ht] using this
   case h_8 c a b k ht =>
    simp only [ht] at key
    have h1 : (okX G Sb c && okC P G Sb a && okC P G Sb b) = true := hd ht
    simp only [Bool.and_eq_true] at h1
    cases hc : fr.eval c with
    | bool t =>
     simp only [hc] at hr key
     obtain ⟨rfl, rfl⟩ := run_pure_ok hr
     exact key _ rfl rfl (mv _ (cons (by cases t <;> first | exact h1.2 | exact h1.1.2) (tl ht)) _) (.inl rfl) hfs
    | _ => simp only [hc] at hr; exact (run_stuck_ok hr).elim
   case h_13 id k ht =>
    simp only [ht] at key
    cases he : exitTo id k with
    | none => rw [he] at hr; exact (run_stuck_ok hr).elim
    | some k' =>
     simp only [he] at hr key
     obtain ⟨rfl, rfl⟩ := run_pure_ok hr
     exact key _ rfl rfl (mv _ (fun i hi => tl ht i (exitTo_mem he i hi)) _) (.inl rfl) hfs
   case h_14 id ops draw k ht =>
    simp only [ht] at key
    have h1 : ∀ t, okI P G Sb (.inRegion ops t) = true := fun t => by have := hd ht; exact this
    by_cases hdr : draw = true
    ·subst hdr
     simp only [if_true] at hr key
     obtain ⟨t, w1, h4, h5⟩ := run_bind_ok hr
     obtain ⟨rfl, rfl⟩ := run_pure_ok h5
     refine key ({ fr with todo := .inRegion ops (Region.schedule (P.follows .mixedOrders) ops t) :: k, mode := .run }, fs) ?_ rfl (mv _ (cons (h1 _) (tl ht)) _) (.inl rfl) hfs
     show Sem.run P (Sem.bind _ _) v = _
     rw [Sem.run_bind', h4]
     rfl
    ·have hdr : draw = false := by simpa using hdr
     subst hdr
     simp only [Bool.false_eq_true, if_false] at hr key
     obtain ⟨rfl, rfl⟩ := run_pure_ok hr
     exact key _ rfl rfl (mv _ (cons (h1 _) (tl ht)) _) (.inl rfl) hfs
   case h_16 ops i rest k ht =>
    simp only [ht] at key
    have hfi := fun u => (⟨ho.finish ht u, .inl ((finish_mode ht u).trans hm)⟩ : OkFr P G Sb (fr.finish u) /\ ((fr.finish u).mode = .run ∨ (fr.finish u).mode = .returning))
    cases hop : ops[i]? with
    | none =>
     simp only [hop] at hr key
     obtain ⟨rfl, rfl⟩ := run_pure_ok hr
     exact key _ rfl rfl (hfi _).1 (hfi _).2 hfs
    | some o =>
     simp only [hop] at hr key
     by_cases hw : Region.wanted o (yielded ops fr.tmps) = true
     ·simp only [hw, if_true] at hr key
      obtain ⟨nx, w1, h4, h5⟩ := run_bind_ok hr
      have hb : ∀ (f : Next -> Sem (Frame × List Frame)) y, (f nx).run P w1 = .ok y v' -> (execOp fr.eval o >>= f).run P v = .ok y v' := fun f y hy => by
       show Sem.run P (Sem.bind _ _) v = _
       rw [Sem.run_bind', h4]
       exact hy
      cases nx with
      | value u =>
       obtain ⟨rfl, rfl⟩ := run_pure_ok h5
       exact key _ (hb _ _ rfl) rfl (hfi _).1 (hfi _).2 hfs
      | skip =>
       obtain ⟨rfl, rfl⟩ := run_pure_ok h5
       exact key _ (hb _ _ rfl) rfl (hfi _).1 (hfi _).2 hfs
      | enter f args =>
       obtain ⟨rfl, rfl⟩ := run_pure_ok h5
       have hSf : S f := by
        obtain ⟨_, N0, ρ, hwr, hG, hf, hl⟩ := hs
        have hev := fun x hx => hf.eval hG hC.sb x hx
        unfold okHead at hh
        rw [hm, ht] at hh
        obtain ⟨ρ', _, hN, _⟩ := (Sim.execOp hC.zero (hC.fn N0) hG hC.sb hev o (hh o hop)).det hwr h4
        cases hN with
        | enter _ _ _ h _ => exact h
       refine key (Frame.enter P f args .normal, fr :: fs) (hb _ _ rfl) rfl (okFr_enter hC hSf args) (.inl rfl) fun g hg => ?_
       rcases List.mem_cons.1 hg with e | e
       ·rw [e]; exact ⟨ho, hm, ops, i, rest, k, ht⟩
       ·exact hfs g e
      | _ => exact (run_stuck_ok h5).elim
     ·have hw : Region.wanted o (yielded ops fr.tmps) = false := by simpa using hw
      simp only [hw, Bool.false_eq_true, if_false] at hr key
      obtain ⟨rfl, rfl⟩ := run_pure_ok hr
      exact key _ rfl rfl (hfi _).1 (hfi _).2 hfs
   case h_17 id k ht =>
    simp only [ht] at key
    cases he : gotoIn id k with
    | none => rw [he] at hr; exact (run_stuck_ok hr).elim
    | some k' =>
     simp only [he] at hr key
     obtain ⟨rfl, rfl⟩ := run_pure_ok hr
     exact key _ rfl rfl (mv _ (gotoIn_ok he (tl ht)) _) (.inl rfl) hfs
   case h_18 => exact (run_stuck_ok hr).elim
   case h_7 a b k ht =>
    simp only [ht] at key
    obtain ⟨rfl, rfl⟩ := run_pure_ok hr
    have h1 : (okC P G Sb a && okC P G Sb b) = true := hd ht
    rw [Bool.and_eq_true] at h1
    exact key _ rfl rfl (mv _ (cons (cI h1.1) (cons (cI h1.2) (tl ht))) _) (.inl rfl) hfs
   case h_9 id c k ht =>
    simp only [ht] at key
    obtain ⟨rfl, rfl⟩ := run_pure_ok hr
    have h1 : okC P G Sb c = true := hd ht
    exact key _ rfl rfl (mv _ (cons (cI h1) (cons rfl (tl ht))) _) (.inl rfl) hfs
   case h_10 c k ht =>
    simp only [ht] at key
    obtain ⟨rfl, rfl⟩ := run_pure_ok hr
    have h1 : okC P G Sb c = true := hd ht
    exact key _ rfl rfl (mv _ (cons (cI h1) (cons (lI h1) (tl ht))) _) (.inl rfl) hfs
   case h_11 c k ht =>
    simp only [ht] at key
    obtain ⟨rfl, rfl⟩ := run_pure_ok hr
    have h1 : okC P G Sb c = true := hd ht
    exact key _ rfl rfl (mv _ (cons (cI h1) (cons (lI h1) (tl ht))) _) (.inl rfl) hfs
   case h_12 c k ht =>
    simp only [ht] at key
    obtain ⟨rfl, rfl⟩ := run_pure_ok hr
    have h1 : okC P G Sb c = true := hd ht
    exact key _ rfl rfl (mv _ (cons (cI h1) (cons (sI h1) (tl ht))) _) (.inl rfl) hfs
   all_goals
    rename_i ht
    simp only [ht] at key
    obtain ⟨rfl, rfl⟩ := run_pure_ok hr
    exact key _ rfl rfl (mv _ (tl ht) _) (.inl rfl) hfs
  ·rw [hm] at hr key
   simp only [ho.kind] at hr key
   cases fs with
   | nil =>
    exfalso
    simp only [List.nil_append] at hr
    cases hfn : P.funcs[fr.fn]? with
    | none => rw [hfn] at hr; exact run_stuck_ok hr
    | some fn => rw [hfn] at hr; exact run_stuck_ok hr
   | cons c fs =>
    obtain ⟨fn, hfn⟩ := ho.fn
    obtain ⟨hc1, hc2, ops, i, r, k, hck⟩ := hfs c (List.mem_cons_self ..)
    simp only [hfn, List.cons_append, hck] at hr key
    obtain ⟨u, w1, h4, h5⟩ := run_bind_ok hr
    obtain ⟨rfl, rfl⟩ := run_pure_ok h5
    refine key (c.finish u, fs) ?_ rfl (hc1.finish hck u) (.inl ((finish_mode hck u).trans hc2)) fun g hg => hfs g (List.mem_cons_of_mem _ hg)
    show Sem.run P (Sem.bind _ _) v = _
    rw [Sem.run_bind', h4]
    rfl
end
end
end Go.Proofs.YtlipmagkplbkdaaDoor
