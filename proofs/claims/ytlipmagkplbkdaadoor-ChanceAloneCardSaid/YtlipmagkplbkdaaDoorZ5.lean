/- Texts of the proof that the statement of ChanceAlone holds, several in one. -/
import Derived.Test.YtlipmagkplbkdaaDoorZ3
import Derived.Test.YtlipmagkplbkdaaDoorZ4
import Derived.Laws.StandIn
set_option linter.unusedVariables false
set_option linter.unusedSimpArgs false
set_option linter.unusedSectionVars false
set_option maxRecDepth 100000
set_option maxHeartbeats 8000000
namespace Go.Proofs.YtlipmagkplbkdaaDoor
section
open Go Go.Conc Go.RowKit
structure Trn {α : Type} (E : Rp α) : Prop where
 turn : ∀ {S : FuncId -> Prop} {ρ : Ren} {v v' : World} {cs cs' : List Value} {x : α}, HRel S ρ v v' -> LsRel S ρ cs cs' -> E.R (Old v) v cs x -> E.R (Old v') v' cs' x
structure Eqv {α : Type} (E : Rp α) : Prop where
 same : ∀ {v v' : World} {cs : List Value} {x : α}, (∀ a, a.block < v.heap.size -> v'.cell? a = v.cell? a) -> v.heap.size <= v'.heap.size -> E.R (Old v) v cs x -> E.R (Old v') v' cs x
structure Kp (v v' : World) : Prop where
 size : v.heap.size <= v'.heap.size
 cell : ∀ a, a.block < v.heap.size -> v'.cell? a = v.cell? a
section
variable {α : Type} {E : Rp α} {S : FuncId -> Prop} {ρ : Ren} {v v' : World}
theorem turn_list {c : Nat} : ∀ {cs : List Value} {o : Nat}, (∀ j u, cs[j]? = some u -> ∃ u', v'.cell? ⟨c, o + j, none⟩ = some u' /\ VRel S ρ u u') -> ∃ cs', LsRel S ρ cs cs' /\ ∀ j u', cs'[j]? = some u' -> v'.cell? ⟨c, o + j, none⟩ = some u'
 | [], o, _ => ⟨[], .nil, fun j u' h => by simp at h⟩
 | u :: cs, o, h => by
  obtain ⟨u', h1, h2⟩ := h 0 u rfl
  obtain ⟨cs', h3, h4⟩ := turn_list (cs := cs) (o := o + 1) fun j u hj => by
   obtain ⟨u', k1, k2⟩ := h (j + 1) u (by simpa using hj)
   exact ⟨u', by rw [show o + 1 + j = o + (j + 1) by omega]; exact k1, k2⟩
  refine ⟨u' :: cs', .cons h2 h3, fun j w hj => ?_⟩
  cases j with
  | zero => simp only [List.getElem?_cons_zero, Option.some.injEq] at hj; subst hj; exact h1
  | succ j => rw [show o + (j + 1) = o + 1 + j by omega]; exact h4 j w (by simpa using hj)
theorem SlAt.turn (hE : Trn E) (h : HRel S ρ v v') {A : Option Addr} {n cap : Nat} {xs : List α} {y : Value} (hy : VRel S ρ (.slice A n cap) y) (hn : n = xs.length) (hs : SlAt E (Old v) v A cap xs) : ∃ A', y = .slice A' n cap /\ SlAt E (Old v') v' A' cap xs := by
 cases hy with
 | nils => exact ⟨none, rfl, hs.le, hs.mx, fun _ => hs.nil rfl, fun i x hx => by obtain ⟨b, o, cs, e, _⟩ := hs.el i x hx; cases e⟩
 | sl b c off sp _ _ hbc =>
  refine ⟨some ⟨c, off, sp⟩, rfl, hs.le, hs.mx, (fun e => by cases e), fun i x hx => ?_⟩
  obtain ⟨b', o, cs, e, h1, h2, h3⟩ := hs.el i x hx
  injection e with e
  injection e with e1 e2 e3
  subst e1 e2 e3
  obtain ⟨cs', h4, h5⟩ := turn_list (v' := v') (S := S) (ρ := ρ) (c := c) (cs := cs) (o := off + i * E.n) fun j u hj => by
   obtain ⟨u', k1, k2⟩ := h.cell b c hbc _ u (h3 j u hj)
   exact ⟨u', k1, k2⟩
  exact ⟨c, off, cs', rfl, h.dom b c hbc, hE.turn h h4 h2, h5⟩
 | sl0 a =>
  have : xs = [] := List.eq_nil_of_length_eq_zero hn.symm
  subst this
  exact ⟨some a, rfl, hs.le, hs.mx, (fun e => by cases e), fun i x hx => by simp at hx⟩
theorem SlAt.same (hE : Eqv E) (hc : ∀ a, a.block < v.heap.size -> v'.cell? a = v.cell? a) (hz : v.heap.size <= v'.heap.size) {A : Option Addr} {cap : Nat} {xs : List α} (hs : SlAt E (Old v) v A cap xs) : SlAt E (Old v') v' A cap xs :=
 ⟨hs.le, hs.mx, hs.nil, fun i x hx => by
  obtain ⟨b, o, cs, h1, h2, h3, h4⟩ := hs.el i x hx
  exact ⟨b, o, cs, h1, Nat.lt_of_lt_of_le h2 hz, hE.same hc hz h3, fun j c hj => (hc ⟨b, o + i * E.n + j, none⟩ h2).trans (h4 j c hj)⟩⟩
theorem lsRel_one {u : Value} {cs' : List Value} (h : LsRel S ρ [u] cs') : ∃ u', cs' = [u'] /\ VRel S ρ u u' := by
 cases h with
 | cons h1 h2 => cases h2; exact ⟨_, rfl, h1⟩
theorem lsRel_cons {u : Value} {cs cs' : List Value} (h : LsRel S ρ (u :: cs) cs') : ∃ u' l, cs' = u' :: l /\ VRel S ρ u u' /\ LsRel S ρ cs l := by
 cases h with
 | cons h1 h2 => exact ⟨_, _, rfl, h1, h2⟩
theorem vRel_int {k : IntKind} {n : Int} {u : Value} (h : VRel S ρ (.int k n) u) : u = .int k n := by cases h; rfl
theorem vRel_bool {b : Bool} {u : Value} (h : VRel S ρ (.bool b) u) : u = .bool b := by cases h; rfl
theorem vRel_str {s : ByteArray} {u : Value} (h : VRel S ρ (.string s) u) : u = .string s := by cases h; rfl
theorem Trn.sl (hE : Trn E) : Trn (pSl E) where
 turn h hl := fun ⟨A, cap, e, hs⟩ => by
  subst e
  obtain ⟨u', rfl, hu⟩ := lsRel_one hl
  obtain ⟨A', rfl, h2⟩ := hs.turn hE h hu rfl
  exact ⟨A', cap, rfl, h2⟩
theorem Eqv.sl (hE : Eqv E) : Eqv (pSl E) where
 same hc hz := fun ⟨A, cap, e, hs⟩ => ⟨A, cap, e, hs.same hE hc hz⟩
end
theorem trn_i (k : IntKind) : Trn (pI k) where
 turn h hl := fun ⟨e, hf⟩ => by
  subst e
  obtain ⟨u', rfl, hu⟩ := lsRel_one hl
  rw [vRel_int hu]
  exact ⟨rfl, hf⟩
theorem eqv_i (k : IntKind) : Eqv (pI k) where
 same hc hz h := h
theorem eqv_mod : Eqv pMod where
 same hc hz := fun ⟨A, c, e, hf, hs⟩ => ⟨A, c, e, hf, hs.same (eqv_i _) hc hz⟩
theorem eqv_frm : Eqv pFrm where
 same hc hz := fun ⟨A, c, e, hf, hs⟩ => ⟨A, c, e, hf, hs.same (eqv_i _) hc hz⟩
theorem eqv_shp : Eqv pShp where
 same hc hz := fun ⟨A, c, e, hf, hs⟩ => ⟨A, c, e, hf, hs.same eqv_frm hc hz⟩
theorem eqv_rul : Eqv pRul where
 same hc hz := fun ⟨A, c, A2, c2, e, hf, hs, hs2⟩ => ⟨A, c, A2, c2, e, hf, hs.same eqv_frm hc hz, hs2.same eqv_shp hc hz⟩
structure Inn {α : Type} (E : Rp α) : Prop where
 pos : 0 < E.n
 into : ∀ {v v' : World} {F' : Nat -> Prop} {cs : List Value} {x : α}, (∀ a u, v.cell? a = some u -> F' a.block /\ v'.cell? a = some u) -> E.R (Old v) v cs x -> E.R F' v' cs x
theorem SlAt.into {α : Type} {E : Rp α} (hE : Inn E) {v v' : World} {F' : Nat -> Prop} {A : Option Addr} {cap : Nat} {xs : List α} (hc : ∀ a u, v.cell? a = some u -> F' a.block /\ v'.cell? a = some u) (hs : SlAt E (Old v) v A cap xs) : SlAt E F' v' A cap xs :=
 ⟨hs.le, hs.mx, hs.nil, fun i x hx => by
  obtain ⟨b, o, cs, h1, h2, h3, h4⟩ := hs.el i x hx
  have hl := E.len h3
  have hp := hE.pos
  have h0 : cs[0]? = some cs[0] := List.getElem?_eq_getElem (by omega)
  exact ⟨b, o, cs, h1, (hc _ _ (h4 0 _ h0)).1, hE.into hc h3, fun j c hj => (hc _ _ (h4 j c hj)).2⟩⟩
theorem inn_i (k : IntKind) : Inn (pI k) := ⟨Nat.one_pos, fun _ h => h⟩
theorem shut_cell (v : World) (a : Addr) : (shut v).cell? a = v.cell? a := by
 unfold World.cell?
 show (match (v.heap.map shutO)[a.block]? with | some (.cells c _ _) => if a.spot.isSome then none else c[a.off]? | _ => none) = _
 rw [Array.getElem?_map]
 cases v.heap[a.block]? with
 | none => rfl
 | some o => cases o <;> rfl
theorem shut_size (v : World) : (shut v).heap.size = v.heap.size := Array.size_map ..
theorem SlAt.shut {α : Type} {E : Rp α} (hE : Eqv E) {v : World} {A : Option Addr} {cap : Nat} {xs : List α} (hs : SlAt E (Old v) v A cap xs) : SlAt E (Old (Go.Proofs.YtlipmagkplbkdaaDoor.shut v)) (Go.Proofs.YtlipmagkplbkdaaDoor.shut v) A cap xs :=
 hs.same hE (fun a _ => shut_cell v a) (Nat.le_of_eq (shut_size v).symm)
theorem SlAt.kp {α : Type} {E : Rp α} (hE : Eqv E) {v v' : World} {A : Option Addr} {cap : Nat} {xs : List α} (hs : SlAt E (Old v) v A cap xs) (h : Kp v v') : SlAt E (Old v') v' A cap xs := hs.same hE h.cell h.size
theorem Kp.refl (v : World) : Kp v v := ⟨Nat.le_refl _, fun _ _ => rfl⟩
theorem Kp.trans {a b c : World} (h : Kp a b) (k : Kp b c) : Kp a c := ⟨Nat.le_trans h.size k.size, fun x hx => (k.cell x (Nat.lt_of_lt_of_le hx h.size)).trans (h.cell x hx)⟩
theorem Kp.shut (v : World) : Kp v (Go.Proofs.YtlipmagkplbkdaaDoor.shut v) := ⟨Nat.le_of_eq (shut_size v).symm, fun a _ => shut_cell v a⟩
theorem Kp.at2 (v : World) (τ : Nat -> Question -> Nat) (d : Nat) : Kp v (aT2 v τ d) := ⟨Nat.le_refl _, fun _ _ => rfl⟩
theorem Kp.grow {v v' : World} (h : Grow v v') : Kp v v' := ⟨h.size, fun a ha => World.cell?_of_block (h.keep _ ha)⟩
theorem Kp.below {v v' : World} (h : Below v.heap.size v v') : Kp v v' := ⟨h.size, fun a ha => World.cell?_of_block (h.block _ ha)⟩
theorem Kp.alloc (v : World) (o : Obj) : Kp v (v.alloc o) := .below ((Below.refl _ v).alloc (Nat.le_refl _) o)
theorem SlAt.grow {α : Type} {E : Rp α} {v v' : World} {A : Option Addr} {cap : Nat} {xs : List α} (hs : SlAt E (Old v) v A cap xs) (hg : Grow v v') : SlAt E (Old v') v' A cap xs :=
 (hs.keep fun k hk => hg.keep k hk).wide fun k hk => Nat.lt_of_lt_of_le hk hg.size
theorem SlAt.at2 {α : Type} {E : Rp α} {v : World} {A : Option Addr} {cap : Nat} {xs : List α} (hs : SlAt E (Old v) v A cap xs) (τ : Nat -> Question -> Nat) (d : Nat) : SlAt E (Old (aT2 v τ d)) (aT2 v τ d) A cap xs := hs.keep fun k hk => rfl
end
section
open Go Go.Conc Go.RowKit
section
variable {P : Program} {S : FuncId -> Prop} {G Sb : Nat -> Bool} {F : Value -> Prop} {Γ : List Post} {ch : Option Nat} {X : Sit}
def TS (P : Program) (S : FuncId -> Prop) (G Sb : Nat -> Bool) (C : Nat) (Q : Post) : Sit := fun fr cs v => Self P S G fr cs v -> T P (HD P G Sb) (AtSend P G Sb C Q) fr cs v
structure Walk (P : Program) (S : FuncId -> Prop) (G Sb : Nat -> Bool) (X : Sit) : Prop extends WalkL P S G Sb X where
 selfS : ∀ fr cs v, (Self P S G fr cs v -> X fr cs v) -> X fr cs v
theorem Walk.of (h : Back P G Sb X) (h2 : ∀ fr cs v τ d, X fr cs v -> X fr cs (aT2 v τ d)) (h3 : ∀ fr cs v, (Self P S G fr cs v -> X fr cs v) -> X fr cs v) : Walk P S G Sb X :=
 { back := fun fr cs v ho _ h1 k => h fr cs v ho h1 k, at2 := h2, self := fun fr cs v h => h3 fr cs v fun hs => h hs.weak, selfS := h3 }
theorem MS.walk (hC : Ctx P S G Sb) : Walk P S G Sb (MS P S G Sb F Γ ch) := .of (MS.back hC) (fun _ _ _ τ d h => h.at2 τ d) fun fr cs v h hs => h hs hs
theorem TS.walk (hC : Ctx P S G Sb) {C : Nat} {Q : Post} (hQ : InvQ S Q) : Walk P S G Sb (TS P S G Sb C Q) :=
 .of (fun fr cs v hh h k hs => .step _ _ _ hh h fun τ d x v' hr => k τ d x v' hr (Self.step hC hh (hs.at2 τ d) hr)) (fun fr cs v τ d h hs => (h (by have := hs.at2 v.tape v.drawn; exact this)).at2 (fun _ _ _ _ _ h => h) (AtSend.at2 hQ) τ d) fun fr cs v h hs => h hs hs
variable {b : Frame} {a : Act} {k : List Item} {cs : List Frame} {v v' : World}
theorem Self.str {fr : Frame} (h : Self P S G fr cs v) : Strict fr := by
 obtain ⟨_, _, _, _, _, hf, _⟩ := h
 exact hf.str
theorem Walk.back' (hX : Walk P S G Sb X) {fr : Frame} {ops : Array Oper} {i : Nat} {r : List Nat} {o : Oper} {fn : Func} {x : Value} (hm : fr.mode = .returning) (hk : fr.kind = .normal) (hf : P.funcs[fr.fn]? = some fn) (ho : ops[i]? = some o)
  (hr : ∀ τ d, (results fn fr.tmps).run P (aT2 v τ d) = .ok x (aT2 v τ d)) (h : X (b.at (a.put o.dst x) (.inRegion ops r :: k)) cs v) : X fr (b.at a (.inRegion ops (i :: r) :: k) :: cs) v :=
 hX.selfS _ _ _ fun hs => WalkL.back' hX.toWalkL hm hs.str hk hf ho hr h
end
end
section
open Go Go.Conc Go.RowKit
section
variable {P : Program} {S : FuncId -> Prop} {G Sb : Nat -> Bool} {F : Value -> Prop} {Γ : List Post} {ch : Option Nat} {X : Sit} {b : Frame} {a : Act} {k : List Item} {cs : List Frame} {v v' : World}
theorem Walk.wp (hC : Ctx P S G Sb) (hX : Walk P S G Sb X) {c : Code} (hb : b.kind = .normal) (hf : ∃ fn, P.funcs[b.fn]? = some fn) (hc : okC P G Sb c = true) (h : ∀ τ d, c.wp P (Leads X b k cs) a (aT2 v τ d)) : X (b.at a (.code c :: k)) cs v :=
 hX.selfS _ _ _ fun hs => WalkL.wp hC hX.toWalkL hb hs.str.1 hf hc h
theorem Walk.wpOps (hC : Ctx P S G Sb) (hX : Walk P S G Sb X) {ops : Array Oper} {l : List Nat} (hb : b.kind = .normal) (hf : ∃ fn, P.funcs[b.fn]? = some fn) (hc : (ops.all fun o => okOp P (okX G Sb) Sb o.op) = true)
  (h : ∀ τ d, Go.wpOps P ops (Leads X b k cs) l a (aT2 v τ d)) : X (b.at a (.inRegion ops l :: k)) cs v :=
 hX.selfS _ _ _ fun hs => WalkL.wpOps hC hX.toWalkL hb hs.str.1 hf hc h
theorem head_at {ops : Array Oper} {i : Nat} {r : List Nat} {o : Oper} (ho : ops[i]? = some o) (hw : Region.wanted o (yielded ops a.tmps) = true) : Head (b.at a (.inRegion ops (i :: r) :: k)) o := ⟨rfl, ops, i, r, k, rfl, ho, hw⟩
theorem Self.finish {ops : Array Oper} {i : Nat} {r : List Nat} {o : Oper} {x : Value} (ho : ops[i]? = some o) (h : Self P S G (b.at a (.inRegion ops (i :: r) :: k)) cs v) (hx : ∀ ρ, VRel S ρ x x) : Self P S G (b.at (a.put o.dst x) (.inRegion ops r :: k)) cs v := by
 obtain ⟨hp, N0, ρ, hw, hG, hf, hl⟩ := h
 have hfin : (b.at a (.inRegion ops (i :: r) :: k)).finish x = b.at (a.put o.dst x) (.inRegion ops r :: k) := by rw [Frame.finish_at, ho]; rfl
 refine ⟨hp, N0, ρ, hw, hG, ?_, hl⟩
 rw [<- hfin]
 exact hf.finish rfl (hx ρ)
theorem Self.shut {fr : Frame} (h : Self P S G fr cs v) : Self P S G fr cs (shut v) := by
 obtain ⟨hp, N0, ρ, hw, hG, hf, hl⟩ := h
 exact Self.of (N0 := v.heap.size) hp.shut hw.shut hG hf hl
theorem MS.enter (hC : Ctx P S G Sb) {ops : Array Oper} {i : Nat} {r : List Nat} {o : Oper} {f : FuncId} {as : Array Operand} {ats : Array TypeId} (ho : ops[i]? = some o) (hw : Region.wanted o (yielded ops a.tmps) = true) (hop : o.op = .call { callee := .value (.func f), args := as, argTypes := ats })
  (ha : as.all (okX G Sb) = true) (hfn : ∃ fn c, P.funcs[f]? = some fn /\ fn.body = some c /\ (fn.name == "runtime.NumGoroutine") = false) (h : MS P S G Sb F Γ ch (Frame.enter P f (as.map a.eval) .normal) (b.at a (.inRegion ops (i :: r) :: k) :: cs) v) : MS P S G Sb F Γ ch (b.at a (.inRegion ops (i :: r) :: k)) cs v := fun hs => by
 have he : (as.map (b.at a (.inRegion ops (i :: r) :: k)).eval) = as.map a.eval := Array.map_congr_left fun x _ => Frame.eval_at b a _ x
 refine .enter _ _ _ _ _ o f as ats (head_at ho hw) hop ha hfn ?_
 rw [he]
 refine h ?_
 obtain ⟨hp, N0, ρ, hwr, hG, hf, hl⟩ := hs
 refine ⟨hp, N0, ρ, hwr, hG, ?_, .cons hf hl⟩
 rw [<- he]
 exact .enter f .normal (by simp) (map_rel hf hG hC.sb ha)
theorem MS.chan {ops : Array Oper} {i : Nat} {r : List Nat} {o : Oper} (ho : ops[i]? = some o) (hw : Region.wanted o (yielded ops a.tmps) = true)
  (he : ∀ (f0 : Frame) w es, (execOp f0.eval o).runT P w es = (.ok (.value (.chan (some w.heap.size))) { w with heap := w.heap.push (.chan 3 #[] false 0 0 false) }, es))
  (h : ∀ C, MS P S G Sb F [] (some C) (b.at (a.put o.dst (.chan (some C))) (.inRegion ops r :: k)) cs v) : MS P S G Sb F [] ch (b.at a (.inRegion ops (i :: r) :: k)) cs v := fun hs =>
 .chan _ _ _ _ o (head_at ho hw) he fun C => by
  have hfin : (b.at a (.inRegion ops (i :: r) :: k)).finish (.chan (some C)) = b.at (a.put o.dst (.chan (some C))) (.inRegion ops r :: k) := by rw [Frame.finish_at, ho]; rfl
  rw [hfin]
  exact h C (hs.finish ho fun ρ => .chan _)
theorem MS.fork (hC : Ctx P S G Sb) {C : Nat} {ops : Array Oper} {i : Nat} {r : List Nat} {o : Oper} {x : Operand} {ats : Array TypeId} {f : FuncId} {caps : Array Value} {Q : Post} (ho : ops[i]? = some o) (hw : Region.wanted o (yielded ops a.tmps) = true)
  (hop : o.op = .go { callee := .value x, args := #[], argTypes := ats }) (hx : okX G Sb x = true) (hev : a.eval x = .func (.func f) #[] caps) (hfn : ∃ fn c, P.funcs[f]? = some fn /\ fn.body = some c /\ (fn.name == "runtime.NumGoroutine") = false) (hΓ : Γ.length < 3) (hQ : InvQ S Q)
  (hT : TS P S G Sb C Q (Frame.enter P f caps .deferred) [] (Go.Proofs.YtlipmagkplbkdaaDoor.shut v)) (h : MS P S G Sb F (Γ ++ [Q]) (some C) (b.at (a.put o.dst undef) (.inRegion ops r :: k)) cs (Go.Proofs.YtlipmagkplbkdaaDoor.shut v)) : MS P S G Sb F Γ (some C) (b.at a (.inRegion ops (i :: r) :: k)) cs v := fun hs => by
 have hfin : (b.at a (.inRegion ops (i :: r) :: k)).finish undef = b.at (a.put o.dst undef) (.inRegion ops r :: k) := by rw [Frame.finish_at, ho]; rfl
 have hev' : (b.at a (.inRegion ops (i :: r) :: k)).eval x = .func (.func f) #[] caps := (Frame.eval_at b a _ x).trans hev
 refine .fork _ _ _ _ _ o x ats f caps Q (head_at ho hw) hop hx hev' hfn hΓ hQ (hT ?_) ?_
 ·obtain ⟨hp, N0, ρ, hwr, hG, hf, hl⟩ := hs
  have hv := hf.eval hG hC.sb x hx
  rw [hev'] at hv
  cases hv with
  | func _ _ _ _ _ h0 h1 h2 h3 h4 => exact Self.of (N0 := v.heap.size) hp.shut hwr.shut hG (.enter f .deferred (by simp) ⟨h3, h4⟩) .nil
 ·rw [hfin]
  exact h ((hs.finish ho fun ρ => .tuple _ _ rfl fun i h => by simp at h).shut)
theorem MS.recv {C : Nat} {ops : Array Oper} {i : Nat} {r : List Nat} {o : Oper} {x : Operand} {z : Value} (ho : ops[i]? = some o) (hw : Region.wanted o (yielded ops a.tmps) = true) (hx : okX G Sb x = true) (hev : a.eval x = .chan (some C))
  (he : ∀ (ev : Operand -> Value) w es, ev x = .chan (some C) -> (execOp ev o).runT P w es = (.ok (.comm #[rcase C z] true (.recv false)) w, es)) (hΓ : Γ ≠ [])
  (h : ∀ Γ1 Q Γ2, Γ = Γ1 ++ Q :: Γ2 -> ∀ v' y, Grow v v' -> Q y (hide v v') -> MS P S G Sb F (Γ1 ++ Γ2) (some C) (b.at (a.put o.dst y) (.inRegion ops r :: k)) cs v') : MS P S G Sb F Γ (some C) (b.at a (.inRegion ops (i :: r) :: k)) cs v := fun hs => by
 have hfin : ∀ y, (b.at a (.inRegion ops (i :: r) :: k)).finish y = b.at (a.put o.dst y) (.inRegion ops r :: k) := fun y => by rw [Frame.finish_at, ho]; rfl
 refine .recv _ _ _ _ _ o x z (head_at ho hw) hx ((Frame.eval_at b a _ x).trans hev) he hΓ fun Γ1 Q Γ2 e v' y hg hq hs' => ?_
 rw [hfin] at hs' ⊢
 exact h Γ1 Q Γ2 e v' y hg hq hs'
theorem MS.fin {fr : Frame} {fn : Func} {x : Value} (hm : fr.mode = .returning) (hd : fr.defers = []) (hk : fr.kind = .normal) (hf : P.funcs[fr.fn]? = some fn) (hr : ∀ τ d, (results fn fr.tmps).run P (aT2 v τ d) = .ok x (aT2 v τ d)) (hin : P.inits.idxOf? fr.fn = none) (hx : F x) : MS P S G Sb F [] ch fr [] v := fun _ =>
 .fin _ _ _ x (fun τ d => ⟨hm, hd, hk, fn, hf, hr τ d⟩) hin hx
theorem TS.send {C : Nat} {Q : Post} {ops : Array Oper} {i : Nat} {o : Oper} {chx xop : Operand} {q : Nat} (hb : b.kind = .deferred) (ho : ops[i]? = some o) (hw : Region.wanted o (yielded ops a.tmps) = true) (hop : o.op = .send chx xop) (h1 : okX G Sb chx = true) (h2 : okX G Sb xop = true)
  (hc : a.eval chx = .chan (some C)) (hq : Q (a.eval xop) v) (hl : ∀ tmps, QuitsIn P q (Go.Conc.G { fn := b.fn, tmps, todo := .inRegion ops [] :: k, defers := [], mode := .run, kind := .deferred } [exitFrame P])) : TS P S G Sb C Q (b.at a (.inRegion ops [i] :: k)) [] v := fun _ =>
 .stop _ _ _ ⟨rfl, rfl, hb, ops, i, k, o, chx, xop, q, rfl, ho, hw, hop, h1, h2, (Frame.eval_at b a _ chx).trans hc, by rw [Frame.eval_at]; exact hq, hl⟩
theorem run_of_tree (hC : Ctx P S G Sb) {W : World} {N : Nat} {ρ : Ren} {f : FuncId} {args args' : Array Value} {B0 : Nat} (hF : ∀ ρ x y, VRel S ρ x y -> F x -> F y) (hw : WRel P S N ρ (aT2 v W.tape W.drawn) W) (hp : Plain v) (hG : GlOk G ρ) (hA : AsRel S ρ args args')
  (hcl : ∀ b o, b < N -> v.heap[b]? = some o -> shutO o = o) (hfl : ∀ b c, N <= b -> ρ b c -> B0 <= c) (hB : B0 <= W.heap.size) (hM : MS P S G Sb F [] none (Frame.enter P f args .normal) [] v) :
  Ends P (fun y w' => F y /\ Below B0 W w') (solo (Go.Conc.G (Frame.enter P f args' .normal) []) W) #[] := by
 have hf : FRel S ρ (Frame.enter P f args .normal) (Frame.enter P f args' .normal) := .enter f .normal (by simp) hA
 have hs : Self P S G (Frame.enter P f args .normal) [] v := by
  have := (Self.of (cs := []) (v := aT2 v W.tape W.drawn) hp hw hG hf .nil).at2 v.tape v.drawn
  exact this
 exact machine hC hF (hM hs) 0 [] _ W none #[] _ (inv_start (C := 0) hw hp hG hf .nil hcl hfl hB)
end
end
section
open Go Go.Conc Go.RowKit
def Gw (w w' : World) : Prop := w.heap.size <= w'.heap.size /\ ∀ k, k < w.heap.size -> w'.heap[k]? = w.heap[k]?
theorem Gw.refl (w : World) : Gw w w := ⟨Nat.le_refl _, fun _ _ => rfl⟩
theorem Gw.trans {a b c : World} (h : Gw a b) (k : Gw b c) : Gw a c := ⟨Nat.le_trans h.1 k.1, fun i hi => (k.2 i (Nat.lt_of_lt_of_le hi h.1)).trans (h.2 i hi)⟩
theorem Gw.at2 (w : World) (τ : Nat -> Question -> Nat) (d : Nat) : Gw w (aT2 w τ d) := ⟨Nat.le_refl _, fun _ _ => rfl⟩
def anyQ (l : List Oper) (sz : Nat) : Bool :=
 dstQ l && (List.range l.length).all fun i => match l[i]? with
  | some o => o.guard.isNone && (o.after.all fun e => !Region.binds .any e || decide (e.on < i)) && (match o.dst with | some d => decide (d < sz) | none => true) &&
   (decide (i + 1 = l.length) || (o.dst.isSome && (List.range l.length).any fun j => decide (i < j) && edgeQ l j i))
  | none => true
section
variable {P : Program} {S : FuncId -> Prop} {G Sb : Nat -> Bool} {X : Sit} {b : Frame} {k : List Item} {cs : List Frame} {l : List Oper} {tm : Array Value} {df : List Deferred} {w0 : World} {Φ : Nat -> Value -> World -> Prop}
structure AtT (Φ : Nat -> Value -> World -> Prop) (l : List Oper) (tm : Array Value) (df : List Deferred) (w0 : World) (i : Nat) (a : Act) (w : World) : Prop where
 gw : Gw w0 w
 df : a.defers = df
 sz : a.tmps.size = tm.size
 out : ∀ s, (∀ o ∈ l, o.dst ≠ some s) -> a.tmps[s]? = tm[s]?
 get : ∀ j, edgeQ l i j = true -> Φ j (slotL l a.tmps j) w
structure InvT (Φ : Nat -> Value -> World -> Prop) (l : List Oper) (tm : Array Value) (df : List Deferred) (w0 : World) (listed : Array Bool) (a : Act) (w : World) : Prop where
 ls : listed.size = l.length
 past : ∀ i j, i < l.length -> listed.getD i false = true -> edgeQ l i j = true -> listed.getD j false = true
 gw : Gw w0 w
 df : a.defers = df
 sz : a.tmps.size = tm.size
 out : ∀ s, (∀ o ∈ l, o.dst ≠ some s) -> a.tmps[s]? = tm[s]?
 get : ∀ j, j < l.length -> listed.getD j false = true -> Φ j (slotL l a.tmps j) w
theorem Walk.any (hq : anyQ l tm.size = true) (hstab : ∀ i x w w', Φ i x w -> Gw w w' -> Φ i x w')
  (hstep : ∀ i o, l[i]? = some o -> i + 1 < l.length -> ∀ a w rest, AtT Φ l tm df w0 i a w -> (∀ x w', Φ i x w' -> Gw w w' -> X (b.at (a.put o.dst x) (.inRegion l.toArray rest :: k)) cs w') -> X (b.at a (.inRegion l.toArray (i :: rest) :: k)) cs w)
  (hlast : ∀ i, i + 1 = l.length -> ∀ a w, AtT Φ l tm df w0 i a w -> X (b.at a (.inRegion l.toArray [i] :: k)) cs w) :
  ∀ (fuel t : Nat) (listed : Array Bool) (a : Act) (w : World), InvT Φ l tm df w0 listed a w -> fuel = listed.toList.count false -> 0 < fuel -> (∀ z, z + 1 = l.length -> listed.getD z false = false) -> X (b.at a (.inRegion l.toArray (Region.linearise.go .any l.toArray fuel t listed []) :: k)) cs w := by
 unfold anyQ at hq
 simp only [Bool.and_eq_true] at hq
 obtain ⟨hd, hall⟩ := hq
 have hat : ∀ {i o}, l[i]? = some o -> o.guard = none /\ (∀ e ∈ o.after, Region.binds .any e = true -> e.on < i) /\ (∀ d, o.dst = some d -> d < tm.size) /\ (i + 1 = l.length ∨ (o.dst ≠ none /\ ∃ j, i < j /\ j < l.length /\ edgeQ l j i = true)) := fun {i o} ho => by
  have hi := (List.getElem?_eq_some_iff.1 ho).1
  have h1 := List.all_eq_true.1 hall i (List.mem_range.2 hi)
  rw [ho] at h1
  simp only [Bool.and_eq_true] at h1
  obtain ⟨⟨⟨g1, g2⟩, g3⟩, g4⟩ := h1
  refine ⟨by simpa using g1, fun e he hb => ?_, fun d hdd => ?_, ?_⟩
  ·have := Array.all_eq_true_iff_forall_mem.1 g2 e he
   rw [hb] at this
   simpa using this
  ·rw [hdd] at g3; simpa using g3
  ·rw [Bool.or_eq_true] at g4
   rcases g4 with g4 | g4
   ·exact .inl (by simpa using g4)
   ·rw [Bool.and_eq_true] at g4
    obtain ⟨g5, g4⟩ := g4
    obtain ⟨j, hj, hj2⟩ := List.any_eq_true.1 g4
    rw [Bool.and_eq_true] at hj2
    exact .inr ⟨fun e => (by rw [e] at g5; cases g5), j, by simpa using hj2.1, List.mem_range.1 hj, hj2.2⟩
 have hready : ∀ {listed : Array Bool}, listed.size = l.length -> Region.ready .any l.toArray listed = [] -> ∀ j, j < l.length -> listed.getD j false = true := fun {listed} hs hr => by
  intro j
  induction j using Nat.strongRecOn with
  | ind j ih =>
   intro hj
   by_cases hb : listed.getD j false = true
   ·exact hb
   ·exfalso
    have ho : l[j]? = some l[j] := List.getElem?_eq_getElem hj
    have : j ∈ Region.ready .any l.toArray listed := mem_ready.2 ⟨by
     rw [Array.getD_eq_getD_getElem?, Array.getElem?_eq_getElem (by omega)] at hb ⊢
     simpa using hb, l[j], by rw [List.getElem?_toArray]; exact ho, fun e he hbd => ih e.on ((hat ho).2.1 e he hbd) (by have := (hat ho).2.1 e he hbd; omega)⟩
    rw [hr] at this
    cases this
 have hnone : ∀ {listed : Array Bool}, listed.size = l.length -> (∀ j, j < l.length -> listed.getD j false = true) -> Region.ready .any l.toArray listed = [] := fun {listed} hs hA => List.eq_nil_iff_forall_not_mem.2 fun i hi => by
  obtain ⟨h1, o, ho, _⟩ := mem_ready.1 hi
  rw [List.getElem?_toArray] at ho
  have hil := (List.getElem?_eq_some_iff.1 ho).1
  have h2 := hA i hil
  have hi2 : i < listed.size := by omega
  rw [Array.getD_eq_getD_getElem?, Array.getElem?_eq_getElem hi2] at h1 h2
  simp only [Option.getD_some] at h1 h2
  rw [h1] at h2; cases h2
 intro fuel
 induction fuel with
 | zero => intro t listed a w _ _ h0; omega
 | succ fuel ih =>
  intro t listed a w hI hc _ hz
  have hne : Region.ready .any l.toArray listed ≠ [] := fun hr => by
   have hA := hready hI.ls hr
   cases hl : l.length with
   | zero =>
    have h3 : listed.toList.count false = 0 := by
     have : listed = #[] := Array.eq_empty_of_size_eq_zero (by rw [hI.ls, hl])
     rw [this]; rfl
    omega
   | succ n =>
    have h1 := hz n hl.symm
    rw [hA n (by omega)] at h1
    cases h1
  have hlt : t % (Region.ready .any l.toArray listed).length < (Region.ready .any l.toArray listed).length := Nat.mod_lt _ (List.length_pos_iff.2 hne)
  have hgo : ∃ i t', i ∈ Region.ready .any l.toArray listed /\ Region.linearise.go .any l.toArray (fuel + 1) t listed [] = i :: Region.linearise.go .any l.toArray fuel t' (listed.setIfInBounds i true) [] := by
   refine ⟨(Region.ready .any l.toArray listed)[t % (Region.ready .any l.toArray listed).length], t / (Region.ready .any l.toArray listed).length, List.getElem_mem hlt, ?_⟩
   simp only [Region.linearise.go]
   change (match (Region.ready .any l.toArray listed)[t % (Region.ready .any l.toArray listed).length]? with
    | some i => Region.linearise.go .any l.toArray fuel (t / (Region.ready .any l.toArray listed).length) (listed.setIfInBounds i true) [i]
    | none => [].reverse) = _
   rw [List.getElem?_eq_getElem hlt]
   simp only
   rw [linearise_go_acc, List.reverse_singleton, List.singleton_append]
  obtain ⟨i, t', hi, hgo⟩ := hgo
  rw [hgo]
  obtain ⟨h1, o, ho, hedge⟩ := mem_ready.1 hi
  have hol : l[i]? = some o := by rw [List.getElem?_toArray] at ho; exact ho
  have hil := (List.getElem?_eq_some_iff.1 hol).1
  have hi2 : i < listed.size := by rw [hI.ls]; exact hil
  have hif : listed.getD i false = false := by
   rw [Array.getD_eq_getD_getElem?, Array.getElem?_eq_getElem hi2] at h1 ⊢
   exact h1
  have hlst : ∀ j, edgeQ l i j = true -> listed.getD j false = true := fun j hj => by
   unfold edgeQ at hj
   rw [hol] at hj
   simp only [Array.any_eq_true', Bool.and_eq_true, beq_iff_eq] at hj
   obtain ⟨e, he, hb, rfl⟩ := hj
   exact hedge e he hb
  have hjl : ∀ j, edgeQ l i j = true -> j < l.length := fun j hj => by
   have hj0 := hj
   unfold edgeQ at hj
   rw [hol] at hj
   simp only [Array.any_eq_true', Bool.and_eq_true, beq_iff_eq] at hj
   obtain ⟨e, he, hb, rfl⟩ := hj
   have := (hat hol).2.1 e he hb
   omega
  have hAt : AtT Φ l tm df w0 i a w := ⟨hI.gw, hI.df, hI.sz, hI.out, fun j hj => hI.get j (hjl j hj) (hlst j hj)⟩
  have hset : ∀ j, (listed.setIfInBounds i true).getD j false = if j = i then true else listed.getD j false := fun j => by
   rw [Array.getD_eq_getD_getElem?, Array.getElem?_setIfInBounds]
   by_cases hji : j = i
   ·subst hji; rw [if_pos rfl, if_pos rfl, if_pos hi2]; rfl
   ·rw [if_neg (fun e => hji e.symm), if_neg hji, <- Array.getD_eq_getD_getElem?]
  have hcount : (listed.setIfInBounds i true).toList.count false + 1 = listed.toList.count false := by
   rw [Array.toList_setIfInBounds]
   refine count_set ?_
   rw [Array.getElem?_toList, Array.getElem?_eq_getElem hi2]
   rw [Array.getD_eq_getD_getElem?, Array.getElem?_eq_getElem hi2] at hif
   simpa using hif
  by_cases hlst2 : i + 1 = l.length
  ·
   have hA : ∀ n j, l.length - j = n -> j < l.length -> j ≠ i -> listed.getD j false = true := by
    intro n
    induction n using Nat.strongRecOn with
    | ind n ihn =>
     intro j hn hjl hji
     rcases (hat (List.getElem?_eq_getElem hjl)).2.2.2 with e | ⟨_, m, h3, h4, h5⟩
     ·omega
     ·by_cases hmi : m = i
      ·subst hmi; exact hlst j h5
      ·exact hI.past m j h4 (ihn (l.length - m) (by omega) m rfl h4 hmi) h5
   have hB : ∀ j, j < l.length -> (listed.setIfInBounds i true).getD j false = true := fun j hj => by
    rw [hset]
    by_cases hji : j = i
    ·rw [if_pos hji]
    ·rw [if_neg hji]; exact hA _ j rfl hj hji
   have hr := hnone (listed := listed.setIfInBounds i true) (by rw [Array.size_setIfInBounds]; exact hI.ls) hB
   have hnil : Region.linearise.go .any l.toArray fuel t' (listed.setIfInBounds i true) [] = [] := by
    cases fuel with
    | zero => rfl
    | succ f =>
     simp only [Region.linearise.go]
     change (match (Region.ready .any l.toArray (listed.setIfInBounds i true))[t' % (Region.ready .any l.toArray (listed.setIfInBounds i true)).length]? with
      | some i' => Region.linearise.go .any l.toArray f (t' / (Region.ready .any l.toArray (listed.setIfInBounds i true)).length) ((listed.setIfInBounds i true).setIfInBounds i' true) [i']
      | none => [].reverse) = _
     rw [hr]
     rfl
   rw [hnil]
   exact hlast i hlst2 a w hAt
  ·refine hstep i o hol (by omega) a w _ hAt fun x w' hx hg => ?_
   have hslot : ∀ j, slotL l (a.put o.dst x).tmps j = if j = i /\ o.dst ≠ none then x else slotL l a.tmps j := fun j => by
    unfold slotL Act.put
    cases hdo : o.dst with
    | none => simp
    | some d =>
     have hds := (hat hol).2.2.1 d hdo
     simp only
     by_cases hji : j = i
     ·subst hji
      rw [hol]
      simp only [Option.bind_some, hdo]
      rw [if_pos (by simp), Array.getD_eq_getD_getElem?, Array.getElem?_setIfInBounds_self_of_lt (by rw [hI.sz]; exact hds)]
      rfl
     ·rw [if_neg (fun e => hji e.1)]
      cases hlj : l[j]? with
      | none => rfl
      | some p =>
       simp only [Option.bind_some]
       cases hdp : p.dst with
       | none => rfl
       | some d' =>
        simp only
        have hne : d ≠ d' := fun e => hji (dstQ_at hd hlj hol (hdp.trans (e ▸ rfl)) hdo)
        rw [Array.getD_eq_getD_getElem?, Array.getElem?_setIfInBounds_ne hne, <- Array.getD_eq_getD_getElem?]
   have hI' : InvT Φ l tm df w0 (listed.setIfInBounds i true) (a.put o.dst x) w' := by
    refine ⟨by rw [Array.size_setIfInBounds]; exact hI.ls, fun m j hm hml hmj => ?_, hI.gw.trans hg, by cases o.dst <;> exact hI.df, ?_, fun s hs => ?_, fun j hj hjl2 => ?_⟩
    ·rw [hset] at hml ⊢
     by_cases hji : j = i
     ·rw [if_pos hji]
     ·rw [if_neg hji]
      by_cases hmi : m = i
      ·subst hmi; exact hlst j hmj
      ·rw [if_neg hmi] at hml; exact hI.past m j hm hml hmj
    ·cases hdo : o.dst with
     | none => exact hI.sz
     | some d => show (a.tmps.setIfInBounds d x).size = _; rw [Array.size_setIfInBounds]; exact hI.sz
    ·cases hdo : o.dst with
     | none => exact hI.out s hs
     | some d =>
      show (a.tmps.setIfInBounds d x)[s]? = _
      rw [Array.getElem?_setIfInBounds_ne fun e => hs o (List.mem_of_getElem? hol) (by rw [hdo, e])]
      exact hI.out s hs
    ·rw [hslot]
     rw [hset] at hjl2
     by_cases hji : j = i
     ·subst hji
      by_cases hdo : o.dst ≠ none
      ·rw [if_pos ⟨rfl, hdo⟩]; exact hx
      ·rcases (hat hol).2.2.2 with e | ⟨h3, _⟩
       ·exact absurd e hlst2
       ·exact absurd h3 hdo
     ·rw [if_neg hji] at hjl2
      rw [if_neg (fun e => hji e.1)]
      exact hstab _ _ _ _ (hI.get j hj hjl2) hg
   refine ih t' _ _ _ hI' (by omega) ?_ fun z hzl => ?_
   ·have : listed.toList.count false ≠ 1 := fun h1 => by
     have hz1 := hz (l.length - 1) (by omega)
     have hc0 : (listed.setIfInBounds i true).toList.count false = 0 := by omega
     have h3 := List.count_eq_zero.1 hc0
     have hzi : l.length - 1 ≠ i := by omega
     have h4 := hset (l.length - 1)
     rw [if_neg hzi, hz1] at h4
     have hlt3 : l.length - 1 < (listed.setIfInBounds i true).size := by rw [Array.size_setIfInBounds, hI.ls]; omega
     rw [Array.getD_eq_getD_getElem?, Array.getElem?_eq_getElem hlt3] at h4
     simp only [Option.getD_some] at h4
     have hm := Array.getElem_mem hlt3
     rw [h4] at hm
     exact h3 (Array.mem_toList_iff.2 hm)
    omega
   ·rw [hset, if_neg (by omega)]; exact hz z hzl
theorem Walk.orders (hX : Walk P S G Sb X) (hmix : P.follows .mixedOrders = true) {n : Nat} (hq : anyQ l tm.size = true) (hl : 0 < l.length) (hstab : ∀ i x w w', Φ i x w -> Gw w w' -> Φ i x w')
  (hstep : ∀ i o, l[i]? = some o -> i + 1 < l.length -> ∀ a w rest, AtT Φ l tm df w0 i a w -> (∀ x w', Φ i x w' -> Gw w w' -> X (b.at (a.put o.dst x) (.inRegion l.toArray rest :: k)) cs w') -> X (b.at a (.inRegion l.toArray (i :: rest) :: k)) cs w)
  (hlast : ∀ i, i + 1 = l.length -> ∀ a w, AtT Φ l tm df w0 i a w -> X (b.at a (.inRegion l.toArray [i] :: k)) cs w) : X (b.at { tmps := tm, defers := df } (.code (.region n l.toArray true) :: k)) cs w0 := by
 refine hX.drawn fun t => ?_
 simp only [Region.schedule, hmix, Bool.true_or, if_true]
 have hf : ∀ j, (Array.replicate l.toArray.size false).getD j false = false := fun j => by
  rw [Array.getD_eq_getD_getElem?, Array.getElem?_replicate]
  split <;> rfl
 exact Walk.any hq hstab hstep hlast l.toArray.size t (Array.replicate l.toArray.size false) _ w0 ⟨by simp, fun i j _ h _ => (by rw [hf] at h; cases h), .refl w0, rfl, rfl, fun _ _ => rfl, fun j _ h => by rw [hf] at h; cases h⟩ (by simp) (by simpa using hl) fun z _ => hf z
end
end
section
open Go Go.Conc Go.RowKit
section
variable {S : FuncId -> Prop}
def Zok (S : FuncId -> Prop) (z : Value) : Prop := ∀ ρ : Ren, VRel S ρ z z
def Iok (S : FuncId -> Prop) (i : TypeInfo) : Prop := ∀ z, i.zero = some z -> Zok S z
theorem forIn_inv {α σ : Type} {f : α -> σ -> Option (ForInStep σ)} {I : σ -> Prop} (h : ∀ a s r, I s -> f a s = some r -> I r.value) : ∀ (l : List α) (s s' : σ), I s -> (forIn l s f : Option σ) = some s' -> I s'
 | [], s, s', hs, e => by
  have e : some s = some s' := e
  injection e with e
  exact e ▸ hs
 | a :: l, s, s', hs, e => by
  rw [List.forIn_cons] at e
  cases hf : f a s with
  | none => rw [hf] at e; cases e
  | some r =>
   rw [hf] at e
   have hr := h a s r hs hf
   cases r with
   | done t =>
    have e : some t = some s' := e
    injection e with e
    exact e ▸ hr
   | yield t => exact forIn_inv h l t s' hr e
theorem asRel_flat {ρ : Ren} {cs : Array Value} (h : AsRel S ρ cs cs) : ∀ n, AsRel S ρ ((Array.replicate n cs).flatten) ((Array.replicate n cs).flatten)
 | 0 => by simp; exact .empty
 | n + 1 => by
  rw [Array.replicate_succ, Array.flatten_push]
  exact (asRel_flat h n).append h
theorem word_ok {d : TypeDesc} {s : String} {z : Value} {c : Bool} {n : Nat} (h : Zok S z) : Iok S (Made.word d s z c n) := fun z' hz => by
 have hz : some z = some z' := hz
 injection hz with hz
 exact hz ▸ h
theorem struct_ok {info : TypeId -> Option TypeInfo} (hi : ∀ t i, info t = some i -> Iok S i) {fs : Array Field} {i : TypeInfo} (h : Made.reckonStruct info fs = some i) : Iok S i := by
 unfold Made.reckonStruct at h
 simp only [bind, Option.bind_eq_some_iff] at h
 obtain ⟨st, h1, h2⟩ := h
 rw [<- Array.forIn_toList] at h1
 have hI := forIn_inv (I := fun (s : Array Field × Nat × Nat × Nat × Nat × Bool × Bool × Option (Array Value) × String) => ∀ zs, s.2.2.2.2.2.2.2.1 = some zs -> ∀ ρ, AsRel S ρ zs zs) (fun f s r hs e => by
  obtain ⟨j, hj, e⟩ := Option.bind_eq_some_iff.1 e
  have key : ∀ zs, (if s.snd.fst + j.size > Made.mostCells then none else s.snd.snd.snd.snd.snd.snd.snd.fst.bind fun a => j.zero.bind fun b => (Pure.pure (a ++ b.cells) : Option (Array Value))) = some zs -> ∀ ρ, AsRel S ρ zs zs := fun zs hz ρ => by
   split at hz
   ·cases hz
   ·obtain ⟨as, h3, hz⟩ := Option.bind_eq_some_iff.1 hz
    obtain ⟨z, h4, hz⟩ := Option.bind_eq_some_iff.1 hz
    have hz : some (as ++ z.cells) = some zs := hz
    injection hz with hz
    subst hz
    exact (hs as h3 ρ).append ((hi _ j hj z h4 ρ).cells)
  split at e
  ·cases e
  ·split at e
   ·cases e
   ·split at e
    all_goals
     obtain ⟨tag, _, e⟩ := Option.bind_eq_some_iff.1 e
     split at e
     all_goals
      injection e with e
      subst e
      exact key) _ _ _ (fun zs hz ρ => by
   have hz : some #[] = some zs := hz
   injection hz with hz
   subst hz
   exact .empty) h1
 intro z hz
 have h3 : ∃ zs, st.2.2.2.2.2.2.2.1 = some zs /\ z = .agg zs := by
  have h4 : i.zero = st.2.2.2.2.2.2.2.1.map .agg := by
   split at h2 <;> (injection h2 with h2; subst h2; rfl)
  rw [h4] at hz
  obtain ⟨zs, h5, h6⟩ := Option.map_eq_some_iff.1 hz
  exact ⟨zs, h5, h6.symm⟩
 obtain ⟨zs, h4, rfl⟩ := h3
 intro ρ
 have h5 := hI zs h4 ρ
 exact .agg zs zs h5.1 h5.2
theorem reckon_ok {info : TypeId -> Option TypeInfo} (hi : ∀ t i, info t = some i -> Iok S i) {d : TypeDesc} {i : TypeInfo} (h : Made.reckon info d = some i) : Iok S i := by
 cases d with
 | pointer e =>
  unfold Made.reckon at h
  simp only [bind, Option.bind_eq_some_iff] at h
  obtain ⟨j, hj, h⟩ := h
  split at h <;> (try split at h) <;> first
   | (obtain ⟨x, _, h⟩ := Option.bind_eq_some_iff.1 h; injection h with h; subst h; exact word_ok fun ρ => .nilp)
   | (obtain ⟨x, _, h⟩ := h; injection h with h; subst h; exact word_ok fun ρ => .nilp)
   | cases h
 | slice e =>
  unfold Made.reckon at h
  simp only [bind, Option.bind_eq_some_iff] at h
  obtain ⟨j, hj, x, _, h⟩ := h
  injection h with h; subst h; exact word_ok fun ρ => .nils _ _
 | map k e =>
  unfold Made.reckon at h
  simp only [bind, Option.bind_eq_some_iff] at h
  obtain ⟨j, hj, x, _, j2, hj2, x2, _, h⟩ := h
  injection h with h; subst h; exact word_ok fun ρ => .nilMap
 | chan dir e =>
  unfold Made.reckon at h
  simp only [bind, Option.bind_eq_some_iff] at h
  obtain ⟨j, hj, x, _, h⟩ := h
  injection h with h; subst h; exact word_ok fun ρ => .chan _
 | func ps rs v =>
  unfold Made.reckon at h
  simp only [bind, Option.bind_eq_some_iff] at h
  obtain ⟨x, _, h⟩ := h
  injection h with h; subst h; exact word_ok fun ρ => .nilFunc _ rfl
 | array n e =>
  unfold Made.reckon at h
  simp only [bind, Option.bind_eq_some_iff] at h
  obtain ⟨j, hj, x, _, h⟩ := h
  injection h with h
  subst h
  intro z hz ρ
  simp only at hz
  split at hz
  ·cases hz
  ·split at hz
   ·injection hz with hz; subst hz; exact .agg _ _ rfl fun i h => by simp at h
   ·obtain ⟨z', h5, rfl⟩ := Option.map_eq_some_iff.1 hz
    have h6 := asRel_flat (hi _ j hj z' h5 ρ).cells n
    exact .agg _ _ h6.1 h6.2
 | struct fs => exact struct_ok hi h
 | _ => cases h
theorem infoAt_ok {T : Tables} (hT : ∀ i ∈ T.types, Iok S i) : ∀ (fuel : Nat) (t : TypeId) (i : TypeInfo), Made.infoAt T fuel t = some i -> Iok S i
 | 0, t, i, h => by cases h
 | f + 1, t, i, h => by
  unfold Made.infoAt at h
  split at h
  ·exact hT i (Array.mem_of_getElem? h)
  ·obtain ⟨d, _, h⟩ := Option.bind_eq_some_iff.1 h
   exact reckon_ok (fun t i => infoAt_ok hT f t i) h
theorem zeros_ok {P : Program} (h : (P.types.all fun i => match i.zero with | some z => pureV 8 z | none => true) = true) : ZeroOk P S := fun t i z hi hz => by
 have hT : ∀ i ∈ P.types, Iok S i := fun i hi z hz ρ => by
  have h2 := Array.all_eq_true_iff_forall_mem.1 h i hi
  rw [hz] at h2
  exact pureV_rel 8 z h2
 unfold Tables.info? at hi
 split at hi
 ·exact hT i (Array.mem_of_getElem? hi) z hz
 ·exact infoAt_ok hT _ t i hi z hz
end
end
section
open Go Go.Conc Go.RowKit
section
variable {P : Program} {S : FuncId -> Prop} {N0 : Nat}
theorem Sim.loadBytes : ∀ (n : Nat) {ρ : Ren} {a b : Addr} (acc : ByteArray), AdR ρ a b -> Sim P S N0 ρ EqR (Extern.Bytes.loadBytes a n acc) (Extern.Bytes.loadBytes b n acc)
 | 0, ρ, a, b, acc, h => Sim.pure fun _ _ => rfl
 | n + 1, ρ, a, b, acc, h => by
  unfold Extern.Bytes.loadBytes
  refine Sim.bind (Sim.load h) fun ρ1 x y e1 hxy => ?_
  cases hxy <;> first | exact Sim.halt | skip
  rename_i k v
  cases k <;> first | exact Sim.halt | exact Sim.loadBytes n _ ((h.mono e1).add 1)
theorem Sim.bytesOf {ρ : Ren} {x y : Value} (h : VRel S ρ x y) : Sim P S N0 ρ EqR (Extern.Bytes.bytesOf x) (Extern.Bytes.bytesOf y) := by
 cases h <;> first | exact Sim.halt | exact Sim.pure fun _ _ => rfl | skip
 rename_i b c off sp n k hbc
 exact Sim.loadBytes n .empty ⟨hbc, rfl, rfl⟩
theorem Sim.asByte {ρ : Ren} {x y : Value} (h : VRel S ρ x y) : Sim P S N0 ρ EqR (Extern.Bytes.asByte x) (Extern.Bytes.asByte y) := by
 cases h <;> first | exact Sim.halt | skip
 rename_i k v
 cases k <;> first | exact Sim.halt | exact Sim.pure fun _ _ => rfl
theorem Sim.indexByte {ρ : Ren} {as bs : Array Value} (h : AsRel S ρ as bs) : Sim P S N0 ρ (VRel S) (Extern.BytealgIndexByte.indexByte as) (Extern.BytealgIndexByte.indexByte bs) := by
 obtain ⟨as⟩ := as
 obtain ⟨bs⟩ := bs
 have hz : as.length = bs.length := h.1
 match as, bs, hz, h with
 | [a, c], [b, d], _, h =>
  have h0 : VRel S ρ a b := h.2 0 (by simp) (by simp)
  have h1 : VRel S ρ c d := h.2 1 (by simp) (by simp)
  show Sim P S N0 ρ (VRel S) (Extern.Bytes.bytesOf a >>= fun x => Extern.Bytes.asByte c >>= fun y => match (List.range x.size).find? fun i => x[i]! == y with | some i => Pure.pure (goInt i) | none => Pure.pure (goInt (-1)))
   (Extern.Bytes.bytesOf b >>= fun x => Extern.Bytes.asByte d >>= fun y => match (List.range x.size).find? fun i => x[i]! == y with | some i => Pure.pure (goInt i) | none => Pure.pure (goInt (-1)))
  refine Sim.bind (Sim.bytesOf h0) fun ρ1 x y e1 hxy => ?_
  obtain rfl : x = y := hxy
  refine Sim.bind (Sim.asByte (h1.mono e1)) fun ρ2 u v e2 huv => ?_
  obtain rfl : u = v := huv
  split <;> exact Sim.pure fun _ _ => .int _ _
 | [], [], _, _ => exact Sim.halt
 | [_], [_], _, _ => exact Sim.halt
 | _ :: _ :: _ :: _, _ :: _ :: _ :: _, _, _ => exact Sim.halt
theorem Fin.loadBytes : ∀ (n : Nat) (a : Addr) (acc : ByteArray), Fin P (Extern.Bytes.loadBytes a n acc)
 | 0, a, acc => Fin.pure _
 | n + 1, a, acc => by
  unfold Extern.Bytes.loadBytes
  refine Fin.bind (Fin.load a) fun x => ?_
  split
  ·exact Fin.loadBytes n _ _
  ·exact Fin.stuck _
theorem Fin.indexByte (as : Array Value) : Fin P (Extern.BytealgIndexByte.indexByte as) := by
 obtain ⟨as⟩ := as
 have two : ∀ a c, Fin P (Extern.Bytes.bytesOf a >>= fun x => Extern.Bytes.asByte c >>= fun y => match (List.range x.size).find? fun i => x[i]! == y with | some i => Pure.pure (goInt i) | none => Pure.pure (goInt (-1))) := fun a c => by
  refine Fin.bind ?_ fun x => Fin.bind ?_ fun y => ?_
  ·unfold Extern.Bytes.bytesOf
   split <;> first | exact Fin.pure _ | exact Fin.loadBytes _ _ _ | exact Fin.stuck _
  ·unfold Extern.Bytes.asByte
   split <;> first | exact Fin.pure _ | exact Fin.stuck _
  ·split <;> exact Fin.pure _
 match as with
 | [a, c] => exact two a c
 | [] => exact Fin.stuck _
 | [_] => exact Fin.stuck _
 | _ :: _ :: _ :: _ => exact Fin.stuck _
theorem Sim.bindex {G : Nat -> Bool} {ρ : Ren} {g : Nat} (hm : P.globals.findIdx? (·.name == "internal/bytealg.MaxLen") = some g) (hg : G g = true) (hG : GlOk G ρ) {as bs : Array Value} (h : AsRel S ρ as bs) : Sim P S N0 ρ (VRel S) (Extern.BytealgIndex.index as) (Extern.BytealgIndex.index bs) := by
 obtain ⟨as⟩ := as
 obtain ⟨bs⟩ := bs
 have hz : as.length = bs.length := h.1
 have hmax : ∀ {ρ1 : Ren}, Ext ρ ρ1 -> Sim P S N0 ρ1 EqR Extern.BytealgIndex.maxLen Extern.BytealgIndex.maxLen := fun {ρ1} e0 => by
  unfold Extern.BytealgIndex.maxLen Go.globalAddr
  refine Sim.bind (A := fun ρ' (a b : Addr) => AdR ρ' a b) (Sim.bind Sim.program fun ρ2 p q e2 hp => ?_) fun ρ3 a b e3 hab => ?_
  ·obtain ⟨rfl, rfl⟩ := hp
   rw [hm]
   exact Sim.pure fun ρ4 e4 => ⟨e4 _ _ (e2 _ _ (e0 _ _ (hG g hg))), rfl, rfl⟩
  ·refine Sim.bind (Sim.load hab) fun ρ4 x y e4 hxy => ?_
   unfold Go.asInt
   cases hxy <;> first | exact Sim.halt | exact Sim.pure fun _ _ => rfl
 match as, bs, hz, h with
 | [a, c], [b, d], _, h =>
  have h0 : VRel S ρ a b := h.2 0 (by simp) (by simp)
  have h1 : VRel S ρ c d := h.2 1 (by simp) (by simp)
  unfold Extern.BytealgIndex.index
  refine Sim.bind (Sim.bytesOf h0) fun ρ1 x y e1 hxy => ?_
  obtain rfl : x = y := hxy
  refine Sim.bind (Sim.bytesOf (h1.mono e1)) fun ρ2 u v e2 huv => ?_
  obtain rfl : u = v := huv
  refine Sim.bind (hmax fun p q h => e2 _ _ (e1 _ _ h)) fun ρ3 m m' e3 hmm => ?_
  obtain rfl : m = m' := hmm
  refine Sim.ite (fun _ => Sim.halt) fun _ => ?_
  refine Sim.ite (fun _ => Sim.halt) fun _ => ?_
  split <;> exact Sim.pure fun _ _ => .int _ _
 | [], [], _, _ => exact Sim.halt
 | [_], [_], _, _ => exact Sim.halt
 | _ :: _ :: _ :: _, _ :: _ :: _ :: _, _, _ => exact Sim.halt
theorem Fin.bytesOf (x : Value) : Fin P (Extern.Bytes.bytesOf x) := by
 unfold Extern.Bytes.bytesOf
 split <;> first | exact Fin.pure _ | exact Fin.loadBytes _ _ _ | exact Fin.stuck _
theorem Fin.maxLen : Fin P Extern.BytealgIndex.maxLen := by
 unfold Extern.BytealgIndex.maxLen Go.globalAddr
 refine Fin.bind (Fin.bind Fin.program fun p => ?_) fun a => Fin.bind (Fin.load a) fun x => ?_
 ·split <;> first | exact Fin.pure _ | exact Fin.stuck _
 ·unfold Go.asInt
  refine Fin.bind ?_ fun _ => Fin.pure _
  unfold Go.asIntOf
  split <;> first | exact Fin.pure _ | exact Fin.observed | exact Fin.noEntry _ | exact Fin.stuck _
theorem Fin.bindex (as : Array Value) : Fin P (Extern.BytealgIndex.index as) := by
 obtain ⟨as⟩ := as
 match as with
 | [a, c] =>
  unfold Extern.BytealgIndex.index
  refine Fin.bind (Fin.bytesOf a) fun x => Fin.bind (Fin.bytesOf c) fun y => Fin.bind Fin.maxLen fun m => ?_
  have j2 : Fin P (match (List.range (x.size + 1 - y.size)).find? fun i => x.extract i (i + y.size) == y with | some i => Pure.pure (goInt i) | none => Pure.pure (goInt (-1))) := by split <;> exact Fin.pure _
  exact Fin.ite (fun _ => Fin.bind (Fin.noEntry _) fun _ => Fin.ite (fun _ => Fin.bind (Fin.noEntry _) fun _ => j2) fun _ => j2) fun _ => Fin.ite (fun _ => Fin.bind (Fin.noEntry _) fun _ => j2) fun _ => j2
 | [] => exact Fin.stuck _
 | [_] => exact Fin.stuck _
 | _ :: _ :: _ :: _ => exact Fin.stuck _
def zerosQ (P : Program) : Bool := P.types.all fun i => match i.zero with | some z => pureV 8 z | none => true
def fnQ (P : Program) (G : Nat -> Bool) (L E : List FuncId) (f : FuncId) : Bool := match P.funcs[f]? with
 | some fn => !(fn.name == "runtime.NumGoroutine") && (match fn.body with | some c => okC P G (fun g => L.contains g) c | none => E.contains f)
 | none => false
theorem ctx_of {G : Nat -> Bool} (L E : List FuncId) (hz : zerosQ P = true) (hL : (L.all fun f => fnQ P G L E f) = true) (hE : ∀ f, E.contains f = true -> ∃ fn, P.funcs[f]? = some fn /\ fn.body.isNone = true /\ (Extern.findNext fn).isNone = true /\ (Extern.find fn = some Extern.BytealgIndexByte.indexByte ∨ (Extern.find fn = some Extern.BytealgIndex.index /\ ∃ g, P.globals.findIdx? (·.name == "internal/bytealg.MaxLen") = some g /\ G g = true))) :
  Ctx P (fun f => L.contains f = true) G (fun f => L.contains f) := by
 have key : ∀ f, L.contains f = true -> ∃ fn, P.funcs[f]? = some fn /\ (fn.name == "runtime.NumGoroutine") = false /\ ((∃ c, fn.body = some c /\ okC P G (fun g => L.contains g) c = true) ∨ (fn.body = none /\ E.contains f = true)) := fun f hf => by
  have h1 := List.all_eq_true.1 hL f (List.contains_iff_mem.1 hf)
  unfold fnQ at h1
  cases hfn : P.funcs[f]? with
  | none => rw [hfn] at h1; cases h1
  | some fn =>
   rw [hfn] at h1
   simp only [Bool.and_eq_true, Bool.not_eq_true'] at h1
   refine ⟨fn, rfl, h1.1, ?_⟩
   have h2 := h1.2
   cases hb : fn.body with
   | none => rw [hb] at h2; exact .inr ⟨rfl, h2⟩
   | some c => rw [hb] at h2; exact .inl ⟨c, rfl, h2⟩
 refine ⟨?_, fun N0 f hf => ?_, fun f hf => ?_, fun f hf => hf, fun f hf fn c hfn hb => ?_⟩
 ·exact zeros_ok hz
 ·obtain ⟨fn, h1, h2, ⟨c, hb, _⟩ | ⟨hb, he⟩⟩ := key f hf
  ·exact ⟨fn, h1, h2, .inl (by rw [hb]; rfl)⟩
  ·obtain ⟨fn', k1, k2, k3, k4⟩ := hE f he
   rw [h1] at k1
   injection k1 with k1
   subst k1
   rcases k4 with k4 | ⟨k4, g, k5, k6⟩
   ·exact ⟨fn, h1, h2, .inr ⟨k2, k3, _, k4, fun ρ as bs _ h => Sim.indexByte h⟩⟩
   ·exact ⟨fn, h1, h2, .inr ⟨k2, k3, _, k4, fun ρ as bs hG h => Sim.bindex k5 k6 hG h⟩⟩
 ·obtain ⟨fn, h1, h2, ⟨c, hb, _⟩ | ⟨hb, he⟩⟩ := key f hf
  ·exact ⟨fn, h1, h2, .inl (by rw [hb]; rfl)⟩
  ·obtain ⟨fn', k1, k2, k3, k4⟩ := hE f he
   rw [h1] at k1
   injection k1 with k1
   subst k1
   rcases k4 with k4 | ⟨k4, g, k5, k6⟩
   ·exact ⟨fn, h1, h2, .inr ⟨k2, k3, _, k4, Fin.indexByte⟩⟩
   ·exact ⟨fn, h1, h2, .inr ⟨k2, k3, _, k4, Fin.bindex⟩⟩
 ·obtain ⟨fn', h1, _, ⟨c', hb', hc⟩ | ⟨hb', _⟩⟩ := key f hf
  ·rw [hfn] at h1
   injection h1 with h1
   subst h1
   rw [hb] at hb'
   injection hb' with hb'
   subst hb'
   exact hc
  ·rw [hfn] at h1
   injection h1 with h1
   subst h1
   rw [hb] at hb'
   cases hb'
end
end
section
open Go Go.Conc Go.RowKit
section
variable {P : Program} {S : FuncId -> Prop} {G Sb : Nat -> Bool} {F : Value -> Prop} {Γ : List Post} {ch : Option Nat} {K : Sit} {Λ : Option LRec}
variable {X : Sit} {b : Frame} {a : Act} {k : List Item} {cs : List Frame} {v v' : World}
def KM (P : Program) (S : FuncId -> Prop) (G Sb : Nat -> Bool) (F : Value -> Prop) (ch : Option Nat) : Sit := fun fr cs v => M P S G Sb F [] ch fr cs v
theorem KM.walk (hC : Ctx P S G Sb) : WalkL P S G Sb (LS P S G Sb (KM P S G Sb F ch) Λ) := LS.walk hC fun _ _ _ τ d h => M.at2 h τ d
theorem Selfw.strict {fr : Frame} (h : Selfw P S G fr cs v) (h1 : Strict fr) (h2 : ∀ c ∈ cs, Strict c) : Self P S G fr cs v := by
 obtain ⟨hp, N0, ρ, hw, hG, hf, hl⟩ := h
 exact ⟨hp, N0, ρ, hw, hG, hf.strict h1, hl.strict h2⟩
theorem LS.out {fr : Frame} (h1 : Strict fr) (h2 : ∀ c ∈ cs, Strict c) (h : MS P S G Sb F [] ch fr cs v) : LS P S G Sb (KM P S G Sb F ch) none fr cs v := fun hs => .out _ _ _ h1 h2 (h (hs.strict h1 h2))
theorem MS.loops {fr : Frame} (h : LS P S G Sb (KM P S G Sb F ch) none fr cs v) : MS P S G Sb F [] ch fr cs v := fun hs => .loops _ _ _ _ _ (h hs.weak) fun _ _ _ k => k
theorem LS.range {x : Operand} {ps : Array Tmp} {asg body : Code} {f : FuncId} {caps : Array Value} (hd : a.defers = []) (hx : okX G Sb x = true) (he : a.eval x = .func (.func f) #[] caps)
  (hfn : ∃ fn c, P.funcs[f]? = some fn /\ fn.body = some c /\ (fn.name == "runtime.NumGoroutine") = false)
  (h : ∀ l r, LS P S G Sb K (some ⟨b.fn, a.tmps, ps, asg, body, l, r, .ready, none⟩) (Frame.enter P f (#[yl l] ++ caps) .normal) (b.at { a with defers := col r } (.inRangeFunc l :: k) :: cs) v) : LS P S G Sb K none (b.at a (.code (.rangeFunc x ps asg body) :: k)) cs v := fun _ =>
 .range _ _ _ x ps asg body k f caps rfl ⟨hd, rfl⟩ rfl hx (by rw [Frame.eval_at]; exact he) hfn fun l r hs => h l r hs
theorem LS.yield {q : LRec} {ops : Array Oper} {i : Nat} {r : List Nat} {o : Oper} {x : Operand} {ars : Array Operand} {ats : Array TypeId} (ho : ops[i]? = some o) (hw : Region.wanted o (yielded ops a.tmps) = true) (hop : o.op = .call { callee := .value x, args := ars, argTypes := ats })
  (hx : okX G Sb x = true) (has : ars.all (okX G Sb) = true) (he : a.eval x = yl q.l) (hn : ars.size = q.params.size)
  (h : LS P S G Sb K (some q) (Frame.round q.l q.fn (setPs q.params (ars.map a.eval) q.tmps) q.assign q.body .normal) (b.at a (.inRegion ops (i :: r) :: k) :: cs) v) : LS P S G Sb K (some q) (b.at a (.inRegion ops (i :: r) :: k)) cs v := fun _ => by
 have he2 : (ars.map (b.at a (.inRegion ops (i :: r) :: k)).eval) = ars.map a.eval := Array.map_congr_left fun x _ => Frame.eval_at b a _ x
 refine .yield q _ _ _ o x ars ats (head_at ho hw) hop hx has (by rw [Frame.eval_at]; exact he) hn ?_
 rw [he2]
 exact h
theorem LS.beg {q : LRec} (hr : b.roundOf = some q.l) (hs : q.st = .ready) (h : LS P S G Sb K (some { q with st := .busy }) (b.atR a k) cs v) : LS P S G Sb K (some q) (b.atR a (.beginRound :: k)) cs v := fun _ => .beg q _ _ _ k rfl rfl hr hs h
theorem LS.endN {q : LRec} {c0 : Frame} {a0 : Act} {ops : Array Oper} {i : Nat} {r : List Nat} {o : Oper} (hb : b.kind = .normal) (hr : b.roundOf = some q.l) (ho : ops[i]? = some o)
  (h : LS P S G Sb K (some { q with st := .ready, pend := none }) (c0.at (a0.put o.dst (.bool true)) (.inRegion ops r :: k)) cs v) : LS P S G Sb K (some q) (b.atR a []) (c0.at a0 (.inRegion ops (i :: r) :: k) :: cs) v := fun _ => by
 have hfin : (c0.at a0 (.inRegion ops (i :: r) :: k)).finish (.bool true) = c0.at (a0.put o.dst (.bool true)) (.inRegion ops r :: k) := by rw [Frame.finish_at, ho]; rfl
 refine .endr q _ _ _ _ none rfl hb hr (.inl ⟨rfl, rfl⟩) ⟨ops, i, r, k, rfl⟩ ?_
 show Selfw P S G ((c0.at a0 (.inRegion ops (i :: r) :: k)).finish (.bool true)) cs v -> _
 rw [show (Option.isNone (none : Option Code)) = true from rfl, hfin]
 exact h
theorem LS.endR {q : LRec} {c0 : Frame} {a0 : Act} {ops : Array Oper} {i : Nat} {r : List Nat} {o : Oper} {k2 : List Item} (hb : b.kind = .normal) (hr : b.roundOf = some q.l) (ho : ops[i]? = some o)
  (h : LS P S G Sb K (some { q with st := .done, pend := some .ret }) (c0.at (a0.put o.dst (.bool false)) (.inRegion ops r :: k)) cs v) : LS P S G Sb K (some q) (b.atR a (.code .ret :: k2)) (c0.at a0 (.inRegion ops (i :: r) :: k) :: cs) v := fun _ => by
 have hfin : (c0.at a0 (.inRegion ops (i :: r) :: k)).finish (.bool false) = c0.at (a0.put o.dst (.bool false)) (.inRegion ops r :: k) := by rw [Frame.finish_at, ho]; rfl
 refine .endr q _ _ _ _ (some .ret) rfl hb hr (.inr ⟨k2, rfl, rfl⟩) ⟨ops, i, r, k, rfl⟩ ?_
 show Selfw P S G ((c0.at a0 (.inRegion ops (i :: r) :: k)).finish (.bool false)) cs v -> _
 rw [show (Option.isNone (some Code.ret)) = false from rfl, hfin]
 exact h
theorem LS.retL {q : LRec} {c0 : Frame} {a0 : Act} {t : List Item} {fn : Func} {l : Nat} (hd : a.defers = []) (hb : b.kind = .normal) (hf : P.funcs[b.fn]? = some fn) (hres : fn.results = #[]) (h : LS P S G Sb K (some q) (c0.at a0 (.endRangeFunc l :: k)) cs v) :
  LS P S G Sb K (some q) { b.at a t with mode := .returning } (c0.at a0 (.inRangeFunc l :: k) :: cs) v := fun _ => .ret q _ _ _ _ k fn l rfl ⟨hd, rfl⟩ hb hf hres rfl h
theorem LS.endl {q : LRec} (hs : q.st ≠ .busy) (h : LS P S G Sb K (some { q with st := .exhausted }) (b.at a ((q.pend.map Item.code).toList ++ k)) cs v) : LS P S G Sb K (some q) (b.at a (.endRangeFunc q.l :: k)) cs v := fun _ => .endl q _ _ _ k rfl rfl hs h
theorem LS.take {q : LRec} {t : List Item} (hd : a.defers = col q.r) (h : LS P S G Sb K none { b.at { a with defers := [] } t with mode := .returning } cs v) : LS P S G Sb K (some q) { b.at a t with mode := .returning } cs v := fun _ => .take q _ _ _ rfl hd h
def rB (l : Nat) (fn : FuncId) : Frame := { (default : Frame) with fn := fn, kind := .normal, roundOf := some l }
theorem round_eq (l : Nat) (fn : FuncId) (ts : Array Value) (asg body : Code) : Frame.round l fn ts asg body .normal = (rB l fn).atR ⟨ts, []⟩ [.code asg, .beginRound, .code body] := rfl
end
end
section
open Go Go.Conc Go.RowKit
def anyQ2 (l : List Oper) (sz : Nat) : Bool :=
 dstQ l && (List.range l.length).all fun i => match l[i]? with
  | some o => o.guard.isNone && (o.after.all fun e => !Region.binds .any e || decide (e.on < i)) && (match o.dst with | some d => decide (d < sz) | none => true) &&
   (decide (i + 2 = l.length) || (decide (i + 1 = l.length) && edgeQ l i (i - 1)) || (o.dst.isSome && (List.range l.length).any fun j => decide (i < j) && decide (j + 1 < l.length) && edgeQ l j i))
  | none => true
section
variable {P : Program} {S : FuncId -> Prop} {G Sb : Nat -> Bool} {X : Sit} {b : Frame} {k : List Item} {cs : List Frame} {l : List Oper} {tm : Array Value} {df : List Deferred} {w0 : World} {Φ : Nat -> Value -> World -> Prop}
theorem WalkL.any2 (hq : anyQ2 l tm.size = true) (hl2 : 2 <= l.length) (hstab : ∀ i x w w', Φ i x w -> Gw w w' -> Φ i x w')
  (hstep : ∀ i o, l[i]? = some o -> i + 2 < l.length -> ∀ a w rest, AtT Φ l tm df w0 i a w -> (∀ x w', Φ i x w' -> Gw w w' -> X (b.at (a.put o.dst x) (.inRegion l.toArray rest :: k)) cs w') -> X (b.at a (.inRegion l.toArray (i :: rest) :: k)) cs w)
  (hlast : ∀ i, i + 2 = l.length -> ∀ a w, AtT Φ l tm df w0 i a w -> X (b.at a (.inRegion l.toArray [i, i + 1] :: k)) cs w) :
  ∀ (fuel t : Nat) (listed : Array Bool) (a : Act) (w : World), InvT Φ l tm df w0 listed a w -> fuel = listed.toList.count false -> 0 < fuel -> (∀ z, z + 2 = l.length ∨ z + 1 = l.length -> listed.getD z false = false) -> X (b.at a (.inRegion l.toArray (Region.linearise.go .any l.toArray fuel t listed []) :: k)) cs w := by
 unfold anyQ2 at hq
 simp only [Bool.and_eq_true] at hq
 obtain ⟨hd, hall⟩ := hq
 have hat : ∀ {i o}, l[i]? = some o -> o.guard = none /\ (∀ e ∈ o.after, Region.binds .any e = true -> e.on < i) /\ (∀ d, o.dst = some d -> d < tm.size) /\ (i + 2 = l.length ∨ (i + 1 = l.length /\ edgeQ l i (i - 1) = true) ∨ (o.dst ≠ none /\ ∃ j, i < j /\ j + 1 < l.length /\ edgeQ l j i = true)) := fun {i o} ho => by
  have hi := (List.getElem?_eq_some_iff.1 ho).1
  have h1 := List.all_eq_true.1 hall i (List.mem_range.2 hi)
  rw [ho] at h1
  simp only [Bool.and_eq_true] at h1
  obtain ⟨⟨⟨g1, g2⟩, g3⟩, g4⟩ := h1
  refine ⟨by simpa using g1, fun e he hb => ?_, fun d hdd => ?_, ?_⟩
  ·have := Array.all_eq_true_iff_forall_mem.1 g2 e he
   rw [hb] at this
   simpa using this
  ·rw [hdd] at g3; simpa using g3
  ·rw [Bool.or_eq_true, Bool.or_eq_true] at g4
   rcases g4 with (g4 | g4) | g4
   ·exact .inl (by simpa using g4)
   ·rw [Bool.and_eq_true] at g4
    exact .inr (.inl ⟨by simpa using g4.1, g4.2⟩)
   ·rw [Bool.and_eq_true] at g4
    obtain ⟨g5, g4⟩ := g4
    obtain ⟨j, hj, hj2⟩ := List.any_eq_true.1 g4
    simp only [Bool.and_eq_true, decide_eq_true_eq] at hj2
    exact .inr (.inr ⟨fun e => (by rw [e] at g5; cases g5), j, hj2.1.1, hj2.1.2, hj2.2⟩)
 have hready : ∀ {listed : Array Bool}, listed.size = l.length -> Region.ready .any l.toArray listed = [] -> ∀ j, j < l.length -> listed.getD j false = true := fun {listed} hs hr => by
  intro j
  induction j using Nat.strongRecOn with
  | ind j ih =>
   intro hj
   by_cases hb : listed.getD j false = true
   ·exact hb
   ·exfalso
    have ho : l[j]? = some l[j] := List.getElem?_eq_getElem hj
    have : j ∈ Region.ready .any l.toArray listed := mem_ready.2 ⟨by
     rw [Array.getD_eq_getD_getElem?, Array.getElem?_eq_getElem (by omega)] at hb ⊢
     simpa using hb, l[j], by rw [List.getElem?_toArray]; exact ho, fun e he hbd => ih e.on ((hat ho).2.1 e he hbd) (by have := (hat ho).2.1 e he hbd; omega)⟩
    rw [hr] at this
    cases this
 have hnone : ∀ {listed : Array Bool}, listed.size = l.length -> (∀ j, j < l.length -> listed.getD j false = true) -> Region.ready .any l.toArray listed = [] := fun {listed} hs hA => List.eq_nil_iff_forall_not_mem.2 fun i hi => by
  obtain ⟨h1, o, ho, _⟩ := mem_ready.1 hi
  rw [List.getElem?_toArray] at ho
  have hil := (List.getElem?_eq_some_iff.1 ho).1
  have h2 := hA i hil
  have hi2 : i < listed.size := by omega
  rw [Array.getD_eq_getD_getElem?, Array.getElem?_eq_getElem hi2] at h1 h2
  simp only [Option.getD_some] at h1 h2
  rw [h1] at h2; cases h2
 intro fuel
 induction fuel with
 | zero => intro t listed a w _ _ h0; omega
 | succ fuel ih =>
  intro t listed a w hI hc _ hz
  have hne : Region.ready .any l.toArray listed ≠ [] := fun hr => by
   have hA := hready hI.ls hr
   have h1 := hz (l.length - 1) (.inr (by omega))
   rw [hA (l.length - 1) (by omega)] at h1
   cases h1
  have hlt : t % (Region.ready .any l.toArray listed).length < (Region.ready .any l.toArray listed).length := Nat.mod_lt _ (List.length_pos_iff.2 hne)
  have hgo : ∃ i t', i ∈ Region.ready .any l.toArray listed /\ Region.linearise.go .any l.toArray (fuel + 1) t listed [] = i :: Region.linearise.go .any l.toArray fuel t' (listed.setIfInBounds i true) [] := by
   refine ⟨(Region.ready .any l.toArray listed)[t % (Region.ready .any l.toArray listed).length], t / (Region.ready .any l.toArray listed).length, List.getElem_mem hlt, ?_⟩
   simp only [Region.linearise.go]
   change (match (Region.ready .any l.toArray listed)[t % (Region.ready .any l.toArray listed).length]? with
    | some i => Region.linearise.go .any l.toArray fuel (t / (Region.ready .any l.toArray listed).length) (listed.setIfInBounds i true) [i]
    | none => [].reverse) = _
   rw [List.getElem?_eq_getElem hlt]
   simp only
   rw [linearise_go_acc, List.reverse_singleton, List.singleton_append]
  obtain ⟨i, t', hi, hgo⟩ := hgo
  rw [hgo]
  obtain ⟨h1, o, ho, hedge⟩ := mem_ready.1 hi
  have hol : l[i]? = some o := by rw [List.getElem?_toArray] at ho; exact ho
  have hil := (List.getElem?_eq_some_iff.1 hol).1
  have hi2 : i < listed.size := by rw [hI.ls]; exact hil
  have hif : listed.getD i false = false := by
   rw [Array.getD_eq_getD_getElem?, Array.getElem?_eq_getElem hi2] at h1 ⊢
   exact h1
  have hlst : ∀ j, edgeQ l i j = true -> listed.getD j false = true := fun j hj => by
   unfold edgeQ at hj
   rw [hol] at hj
   simp only [Array.any_eq_true', Bool.and_eq_true, beq_iff_eq] at hj
   obtain ⟨e, he, hb, rfl⟩ := hj
   exact hedge e he hb
  have hjl : ∀ j, edgeQ l i j = true -> j < l.length := fun j hj => by
   have hj0 := hj
   unfold edgeQ at hj
   rw [hol] at hj
   simp only [Array.any_eq_true', Bool.and_eq_true, beq_iff_eq] at hj
   obtain ⟨e, he, hb, rfl⟩ := hj
   have := (hat hol).2.1 e he hb
   omega
  have hAt : AtT Φ l tm df w0 i a w := ⟨hI.gw, hI.df, hI.sz, hI.out, fun j hj => hI.get j (hjl j hj) (hlst j hj)⟩
  have hset : ∀ j, (listed.setIfInBounds i true).getD j false = if j = i then true else listed.getD j false := fun j => by
   rw [Array.getD_eq_getD_getElem?, Array.getElem?_setIfInBounds]
   by_cases hji : j = i
   ·subst hji; rw [if_pos rfl, if_pos rfl, if_pos hi2]; rfl
   ·rw [if_neg (fun e => hji e.symm), if_neg hji, <- Array.getD_eq_getD_getElem?]
  have hcount : (listed.setIfInBounds i true).toList.count false + 1 = listed.toList.count false := by
   rw [Array.toList_setIfInBounds]
   refine count_set ?_
   rw [Array.getElem?_toList, Array.getElem?_eq_getElem hi2]
   rw [Array.getD_eq_getD_getElem?, Array.getElem?_eq_getElem hi2] at hif
   simpa using hif
  have hnl : i + 1 ≠ l.length := fun e => by
   rcases (hat hol).2.2.2 with e2 | ⟨_, h5⟩ | ⟨_, m, h3, h4, _⟩
   ·omega
   ·have h6 := hlst _ h5
    rw [hz (i - 1) (.inl (by omega))] at h6
    cases h6
   ·omega
  by_cases hlst2 : i + 2 = l.length
  ·
   have hA : ∀ n j, l.length - j = n -> j + 1 < l.length -> j ≠ i -> listed.getD j false = true := by
    intro n
    induction n using Nat.strongRecOn with
    | ind n ihn =>
     intro j hn hjl hji
     rcases (hat (List.getElem?_eq_getElem (show j < l.length by omega))).2.2.2 with e | ⟨e, _⟩ | ⟨_, m, h3, h4, h5⟩
     ·omega
     ·omega
     ·by_cases hmi : m = i
      ·subst hmi; exact hlst j h5
      ·exact hI.past m j (by omega) (ihn (l.length - m) (by omega) m rfl h4 hmi) h5
   have hB : ∀ j, j + 1 < l.length -> (listed.setIfInBounds i true).getD j false = true := fun j hj => by
    rw [hset]
    by_cases hji : j = i
    ·rw [if_pos hji]
    ·rw [if_neg hji]; exact hA _ j rfl hj hji
   have hls1 : (listed.setIfInBounds i true).size = l.length := by rw [Array.size_setIfInBounds]; exact hI.ls
   have hlf : (listed.setIfInBounds i true).getD (i + 1) false = false := by rw [hset, if_neg (by omega)]; exact hz (i + 1) (.inr (by omega))
   have hne1 : Region.ready .any l.toArray (listed.setIfInBounds i true) ≠ [] := fun hr => by
    have := hready hls1 hr (i + 1) (by omega)
    rw [hlf] at this; cases this
   have hone : ∀ i', i' ∈ Region.ready .any l.toArray (listed.setIfInBounds i true) -> i' = i + 1 := fun i' hi' => by
    obtain ⟨h1, o', ho', _⟩ := mem_ready.1 hi'
    rw [List.getElem?_toArray] at ho'
    have hil' := (List.getElem?_eq_some_iff.1 ho').1
    by_cases e : i' + 1 < l.length
    ·have h2 := hB i' e
     have hi2' : i' < (listed.setIfInBounds i true).size := by rw [hls1]; exact hil'
     rw [Array.getD_eq_getD_getElem?, Array.getElem?_eq_getElem hi2'] at h1 h2
     simp only [Option.getD_some] at h1 h2
     rw [h1] at h2; cases h2
    ·omega
   have hfu : ∃ f, fuel = f + 1 := by
    refine ⟨fuel - 1, ?_⟩
    have : 0 < (listed.setIfInBounds i true).toList.count false := by
     refine List.count_pos_iff.2 ?_
     have hlt3 : i + 1 < (listed.setIfInBounds i true).size := by rw [hls1]; omega
     have h4 := hlf
     rw [Array.getD_eq_getD_getElem?, Array.getElem?_eq_getElem hlt3] at h4
     simp only [Option.getD_some] at h4
     have hm := Array.getElem_mem hlt3
     rw [h4] at hm
     exact Array.mem_toList_iff.2 hm
    omega
   obtain ⟨f, rfl⟩ := hfu
   have hlt1 : t' % (Region.ready .any l.toArray (listed.setIfInBounds i true)).length < (Region.ready .any l.toArray (listed.setIfInBounds i true)).length := Nat.mod_lt _ (List.length_pos_iff.2 hne1)
   have hgo1 : ∃ t2, Region.linearise.go .any l.toArray (f + 1) t' (listed.setIfInBounds i true) [] = (i + 1) :: Region.linearise.go .any l.toArray f t2 ((listed.setIfInBounds i true).setIfInBounds (i + 1) true) [] := by
    refine ⟨t' / (Region.ready .any l.toArray (listed.setIfInBounds i true)).length, ?_⟩
    simp only [Region.linearise.go]
    change (match (Region.ready .any l.toArray (listed.setIfInBounds i true))[t' % (Region.ready .any l.toArray (listed.setIfInBounds i true)).length]? with
     | some i' => Region.linearise.go .any l.toArray f (t' / (Region.ready .any l.toArray (listed.setIfInBounds i true)).length) ((listed.setIfInBounds i true).setIfInBounds i' true) [i']
     | none => [].reverse) = _
    have he := hone _ (List.getElem_mem hlt1)
    rw [List.getElem?_eq_getElem hlt1, he]
    simp only
    rw [linearise_go_acc, List.reverse_singleton, List.singleton_append]
   obtain ⟨t2, hgo1⟩ := hgo1
   have hr := hnone (listed := (listed.setIfInBounds i true).setIfInBounds (i + 1) true) (by rw [Array.size_setIfInBounds]; exact hls1) fun j hj => by
    rw [Array.getD_eq_getD_getElem?, Array.getElem?_setIfInBounds]
    by_cases hji : i + 1 = j
    ·subst hji; rw [if_pos rfl, if_pos (by rw [hls1]; omega)]; rfl
    ·rw [if_neg hji, <- Array.getD_eq_getD_getElem?]
     exact hB j (by omega)
   have hnil : Region.linearise.go .any l.toArray f t2 ((listed.setIfInBounds i true).setIfInBounds (i + 1) true) [] = [] := by
    cases f with
    | zero => rfl
    | succ f =>
     simp only [Region.linearise.go]
     change (match (Region.ready .any l.toArray ((listed.setIfInBounds i true).setIfInBounds (i + 1) true))[t2 % (Region.ready .any l.toArray ((listed.setIfInBounds i true).setIfInBounds (i + 1) true)).length]? with
      | some i' => Region.linearise.go .any l.toArray f (t2 / (Region.ready .any l.toArray ((listed.setIfInBounds i true).setIfInBounds (i + 1) true)).length) (((listed.setIfInBounds i true).setIfInBounds (i + 1) true).setIfInBounds i' true) [i']
      | none => [].reverse) = _
     rw [hr]
     rfl
   rw [hgo1, hnil]
   exact hlast i hlst2 a w hAt
  ·refine hstep i o hol (by omega) a w _ hAt fun x w' hx hg => ?_
   have hslot : ∀ j, slotL l (a.put o.dst x).tmps j = if j = i /\ o.dst ≠ none then x else slotL l a.tmps j := fun j => by
    unfold slotL Act.put
    cases hdo : o.dst with
    | none => simp
    | some d =>
     have hds := (hat hol).2.2.1 d hdo
     simp only
     by_cases hji : j = i
     ·subst hji
      rw [hol]
      simp only [Option.bind_some, hdo]
      rw [if_pos (by simp), Array.getD_eq_getD_getElem?, Array.getElem?_setIfInBounds_self_of_lt (by rw [hI.sz]; exact hds)]
      rfl
     ·rw [if_neg (fun e => hji e.1)]
      cases hlj : l[j]? with
      | none => rfl
      | some p =>
       simp only [Option.bind_some]
       cases hdp : p.dst with
       | none => rfl
       | some d' =>
        simp only
        have hne : d ≠ d' := fun e => hji (dstQ_at hd hlj hol (hdp.trans (e ▸ rfl)) hdo)
        rw [Array.getD_eq_getD_getElem?, Array.getElem?_setIfInBounds_ne hne, <- Array.getD_eq_getD_getElem?]
   have hI' : InvT Φ l tm df w0 (listed.setIfInBounds i true) (a.put o.dst x) w' := by
    refine ⟨by rw [Array.size_setIfInBounds]; exact hI.ls, fun m j hm hml hmj => ?_, hI.gw.trans hg, by cases o.dst <;> exact hI.df, ?_, fun s hs => ?_, fun j hj hjl2 => ?_⟩
    ·rw [hset] at hml ⊢
     by_cases hji : j = i
     ·rw [if_pos hji]
     ·rw [if_neg hji]
      by_cases hmi : m = i
      ·subst hmi; exact hlst j hmj
      ·rw [if_neg hmi] at hml; exact hI.past m j hm hml hmj
    ·cases hdo : o.dst with
     | none => exact hI.sz
     | some d => show (a.tmps.setIfInBounds d x).size = _; rw [Array.size_setIfInBounds]; exact hI.sz
    ·cases hdo : o.dst with
     | none => exact hI.out s hs
     | some d =>
      show (a.tmps.setIfInBounds d x)[s]? = _
      rw [Array.getElem?_setIfInBounds_ne fun e => hs o (List.mem_of_getElem? hol) (by rw [hdo, e])]
      exact hI.out s hs
    ·rw [hslot]
     rw [hset] at hjl2
     by_cases hji : j = i
     ·subst hji
      by_cases hdo : o.dst ≠ none
      ·rw [if_pos ⟨rfl, hdo⟩]; exact hx
      ·rcases (hat hol).2.2.2 with e | ⟨e, _⟩ | ⟨h3, _⟩
       ·exact absurd e hlst2
       ·exact absurd e hnl
       ·exact absurd h3 hdo
     ·rw [if_neg hji] at hjl2
      rw [if_neg (fun e => hji e.1)]
      exact hstab _ _ _ _ (hI.get j hj hjl2) hg
   refine ih t' _ _ _ hI' (by omega) ?_ fun z hzl => ?_
   ·have h4 : (listed.setIfInBounds i true).getD (l.length - 1) false = false := by rw [hset, if_neg (by omega)]; exact hz (l.length - 1) (.inr (by omega))
    have : 0 < (listed.setIfInBounds i true).toList.count false := by
     refine List.count_pos_iff.2 ?_
     have hlt3 : l.length - 1 < (listed.setIfInBounds i true).size := by rw [Array.size_setIfInBounds, hI.ls]; omega
     rw [Array.getD_eq_getD_getElem?, Array.getElem?_eq_getElem hlt3] at h4
     simp only [Option.getD_some] at h4
     have hm := Array.getElem_mem hlt3
     rw [h4] at hm
     exact Array.mem_toList_iff.2 hm
    omega
   ·rw [hset, if_neg (by omega)]; exact hz z hzl
theorem WalkL.orders2 (hX : WalkL P S G Sb X) (hmix : P.follows .mixedOrders = true) {n : Nat} (hq : anyQ2 l tm.size = true) (hl : 2 <= l.length) (hstab : ∀ i x w w', Φ i x w -> Gw w w' -> Φ i x w')
  (hstep : ∀ i o, l[i]? = some o -> i + 2 < l.length -> ∀ a w rest, AtT Φ l tm df w0 i a w -> (∀ x w', Φ i x w' -> Gw w w' -> X (b.at (a.put o.dst x) (.inRegion l.toArray rest :: k)) cs w') -> X (b.at a (.inRegion l.toArray (i :: rest) :: k)) cs w)
  (hlast : ∀ i, i + 2 = l.length -> ∀ a w, AtT Φ l tm df w0 i a w -> X (b.at a (.inRegion l.toArray [i, i + 1] :: k)) cs w) : X (b.at { tmps := tm, defers := df } (.code (.region n l.toArray true) :: k)) cs w0 := by
 refine hX.drawn fun t => ?_
 simp only [Region.schedule, hmix, Bool.true_or, if_true]
 have hf : ∀ j, (Array.replicate l.toArray.size false).getD j false = false := fun j => by
  rw [Array.getD_eq_getD_getElem?, Array.getElem?_replicate]
  split <;> rfl
 exact WalkL.any2 hq hl hstab hstep hlast l.toArray.size t (Array.replicate l.toArray.size false) _ w0 ⟨by simp, fun i j _ h _ => (by rw [hf] at h; cases h), .refl w0, rfl, rfl, fun _ _ => rfl, fun j _ h => by rw [hf] at h; cases h⟩ (by simp) (by simp; omega) fun z _ => hf z
end
end
end Go.Proofs.YtlipmagkplbkdaaDoor
