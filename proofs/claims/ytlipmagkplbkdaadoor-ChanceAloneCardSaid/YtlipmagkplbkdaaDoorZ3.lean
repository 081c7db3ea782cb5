/- Texts of the proof that the statement of ChanceAlone holds, several in one. -/
import Derived.Test.YtlipmagkplbkdaaDoorZ2
import Derived.ChangeArms
import Derived.ChangeSame
set_option linter.unusedVariables false
set_option linter.unusedSimpArgs false
set_option linter.unusedSectionVars false
set_option maxRecDepth 100000
set_option maxHeartbeats 8000000
namespace Go.Proofs.YtlipmagkplbkdaaDoor
section
open Go Go.Conc Go.RowKit
section
theorem seen_extern (quiet : FuncId -> Bool) : ∀ (l : List Event) (q : Bool) (kept : Array Event), (∀ e ∈ kept, ∀ f, e.loc ≠ .mark (.extern f)) -> ∀ e ∈ (l.foldl (seenStep quiet) (q, kept)).2, ∀ f, e.loc ≠ .mark (.extern f) := by
 intro l
 induction l with
 | nil => exact fun _ _ h => h
 | cons a l ih =>
  intro q kept h
  rw [List.foldl_cons]
  have key : ∀ e ∈ (seenStep quiet (q, kept) a).2, ∀ f, e.loc ≠ .mark (.extern f) := by
   unfold seenStep
   simp only
   split
   ·exact h
   ·rename_i hne
    simp only
    split
    ·exact h
    ·intro e he
     rcases Array.mem_push.1 he with he | rfl
     ·exact h e he
     ·exact fun f hf => hne f hf
  exact ih _ _ key
theorem not_extern {P : Program} {fn : FuncId} {es : Array Event} {e : Event} (h : e ∈ seen P fn es) (f : FuncId) : e.loc ≠ .mark (.extern f) := by
 rw [seen_def] at h
 exact seen_extern _ es.toList _ #[] (fun e he => by simp at he) e h f
variable {P : Program} {S : FuncId -> Prop} {ρ : Ren}
theorem exit_eq {f : Frame} (h : FRel S ρ (exitFrame P) f) : f = exitFrame P := by
 obtain ⟨fn, tmps, todo, defers, mode, kind, roundOf⟩ := f
 obtain ⟨h1, h2, h3, h4, h5, h6, h7, h8, h9, h10⟩ := h
 simp only at *
 subst h1 h3 h4 h5 h8 h10
 have : tmps = #[] := Array.eq_empty_of_size_eq_zero (by have := h2.1; exact this.symm)
 subst this
 rfl
theorem oper_spawn {main : Bool} {fr : Frame} {cs : List Frame} {w w' : World} {es : Array Event} {ops : Array Oper} {i : Nat} {r : List Nat} {k : List Item} {o : Oper} {f : Fn} {c as : Array Value} (ht : Tm fr) (hm : fr.mode = .run) (hto : fr.todo = .inRegion ops (i :: r) :: k) (ho : ops[i]? = some o) (hw : Region.wanted o (yielded ops fr.tmps) = true)
  (hr : (execOp fr.eval o).runT P w #[] = (.ok (.spawn { target := .fn f c, args := as }) w', es)) : stepG P main (G fr cs) w = .spawn (G (fr.finish undef) cs) (born P { target := .fn f c, args := as }) w' (seen P fr.fn es) := by
 obtain ⟨fn, tmps, todo, defers, mode, kind, roundOf⟩ := fr
 obtain ⟨h1, h2, h3⟩ := ht
 simp only at h1 h2 h3 hm hto
 subst h1 h2 hm hto
 have hk : (kind == CallKind.early) = false := by simpa using h3
 simp only [G, stepG, stepG.exec, ho, Option.map_some, hw, Option.getD_some, if_true, stepG.oper, Frame.oper?, stepG.apply, hr, hk]
 simp [GStep.after, born]
end
structure Pd where
 j : Nat
 x : Value
 y : Value
structure Dat where
 V : Nat -> Vw
 E : List (Nat × Post)
 pd : List Pd
 pos : Nat -> Option Nat
 s : Nat
 r : Nat
def ActE (E : List (Nat × Post)) (j : Nat) : Prop := ∃ Q, (j, Q) ∈ E
def task : Gh -> Option Post
 | .leav _ => none
 | .start _ _ _ Q => some Q
 | .work _ _ _ Q => some Q
def GhI (P : Program) (S : FuncId -> Prop) (G Sb : Nat -> Bool) (C : Nat) (X : Vw) (g : Goroutine) : Gh -> Prop
 | .leav q => QuitsIn P q g
 | .start f caps v Q => v = X.v /\ (∃ caps', AsRel S X.ρ caps caps' /\ g = born P { target := .fn (.func f) caps', args := #[] }) /\ (∃ fn c, P.funcs[f]? = some fn /\ fn.body = some c /\ (fn.name == "runtime.NumGoroutine") = false) /\
   T P (HD P G Sb) (AtSend P G Sb C Q) (Frame.enter P f caps .deferred) [] v
 | .work fr cs v Q => v = X.v /\ (∃ fr' cs', FRel S X.ρ fr fr' /\ FsRel S X.ρ cs cs' /\ g = Go.Conc.G fr' (cs' ++ [exitFrame P])) /\ T P (HD P G Sb) (AtSend P G Sb C Q) fr cs v
def stand (C : Nat) : Option Value -> Goroutine -> Goroutine
 | none, g => g
 | some z, g => parked g #[rcase C z] (.recv false)
structure Inv (P : Program) (S : FuncId -> Prop) (G Sb : Nat -> Bool) (B0 : Nat) (W : World) (C : Nat) (Γ : List Post) (ch : Option Nat) (fr : Frame) (cs : List Frame) (v : World) (park : Option Value) (gh : List Gh) (gs : Array Goroutine) (w : World) (t : Trace) (D : Dat) : Prop where
 v0 : (D.V 0).v = v
 mem : Mem P S G B0 W w (ActE D.E) D.V
 tr : Tr (ActE D.E) D.pos (rngV D.V) (ownV D.V) w.heap.size t
 main : ∃ fr' cs', FRel S (D.V 0).ρ fr fr' /\ FsRel S (D.V 0).ρ cs cs' /\ gs[0]? = some (stand C park (Go.Conc.G fr' cs'))
 gam : D.E.map Prod.snd = Γ
 nod : (D.E.map Prod.fst).Nodup
 three : D.E.length <= 3
 inv : ∀ e ∈ D.E, InvQ S e.2
 bound : ∀ e ∈ D.E, e.1 < gs.size
 len : gs.size = gh.length + 1
 ghs : ∀ i h, gh[i]? = some h -> ∃ g, gs[i + 1]? = some g /\ GhI P S G Sb C (D.V (i + 1)) g h
 run : ∀ i h Q, gh[i]? = some h -> task h = some Q -> (i + 1, Q) ∈ D.E /\ D.pos (i + 1) = none
 out : ∀ e ∈ D.E, (∃ h, gh[e.1 - 1]? = some h /\ task h = some e.2) ∨ ∃ p ∈ D.pd, p.j = e.1
 pds : ∀ n p, D.pd[n]? = some p -> (∃ Q, (p.j, Q) ∈ D.E /\ Q p.x (D.V p.j).v) /\ VRel S (D.V p.j).ρ p.x p.y /\ ∃ sp op, D.pos p.j = some sp /\ t[sp]? = some op /\ op.g = p.j /\ op.act = .send C (D.r + n)
 pnod : (D.pd.map Pd.j).Nodup
 opened : D.E ≠ [] -> ch = some C
 only : ∀ c, ch = some c -> c = C
 chan : ch = some C -> w.heap[C]? = some (.chan 3 (D.pd.map Pd.y).toArray false D.s D.r false) /\ B0 <= C /\ D.s = D.r + D.pd.length
section
variable {P : Program} {S : FuncId -> Prop} {G Sb : Nat -> Bool} {B0 : Nat} {W w w' : World} {C : Nat} {Γ : List Post} {ch : Option Nat} {fr : Frame} {cs : List Frame} {v : World} {park : Option Value} {gh : List Gh} {gs : Array Goroutine} {t : Trace} {D : Dat}
theorem Inv.at (h : Inv P S G Sb B0 W C Γ ch fr cs v park gh gs w t D) (d : Nat) : Inv P S G Sb B0 W C Γ ch fr cs v park gh gs (w.at d) t D :=
 { h with mem := h.mem.at d }
theorem Inv.status (h : Inv P S G Sb B0 W C Γ ch fr cs v park gh gs w t D) {i : Nat} {g : Goroutine} (hi : gs[i + 1]? = some g) : g.status = .running ∨ g.status = .finished := by
 have hlt := (Array.getElem?_eq_some_iff.1 hi).1
 have hl := h.len
 obtain ⟨g', h1, h2⟩ := h.ghs i gh[i] (List.getElem?_eq_getElem (by omega))
 rw [hi] at h1
 injection h1 with h1
 subst h1
 cases hh : gh[i] with
 | leav q => rw [hh] at h2; exact QuitsIn.status h2
 | start f caps v Q => rw [hh] at h2; obtain ⟨_, ⟨caps', _, rfl⟩, _⟩ := h2; exact .inl rfl
 | work fr cs v Q => rw [hh] at h2; obtain ⟨_, ⟨fr', cs', _, _, rfl⟩, _⟩ := h2; exact .inl rfl
theorem woken_calm {g g' b : Goroutine} (h : b.status = .running ∨ b.status = .finished) : woken P g g' w' b = b := by
 unfold woken
 split
 ·exact again_running _ h
 ·rfl
theorem Inv.woken (h : Inv P S G Sb B0 W C Γ ch fr cs v park gh gs w t D) (g g' : Goroutine) (hc : ∀ z, park = some z -> ∃ buf s r, w'.heap[C]? = some (.chan 3 buf false s r false)) : gs.map (woken P g g' w') = gs := by
 apply Array.ext_getElem?
 intro j
 rw [Array.getElem?_map]
 cases hj : gs[j]? with
 | none => rfl
 | some y =>
  rw [Option.map_some]
  congr 1
  cases j with
  | succ j => exact woken_calm (h.status hj)
  | zero =>
   obtain ⟨fr', cs', _, _, h3⟩ := h.main
   rw [hj] at h3
   injection h3 with h3
   subst h3
   cases hp : park with
   | none => exact woken_calm (.inl rfl)
   | some z =>
    obtain ⟨buf, s, r, hb⟩ := hc z hp
    exact woken_recv_open _ _ hb
theorem Inv.heap (h : Inv P S G Sb B0 W C Γ ch fr cs v park gh gs w t D) (hc : ch = some C) {j b : Nat} (hj : Mb (ActE D.E) j) : ¬ (D.V j).ρ b C := fun hb => by
 have := (h.chan hc).1
 rcases (h.mem.rel j hj).cell b C hb with ⟨_, ds, t, fr, fr', _, h2, _⟩ | ⟨_, y, l, _, h2, _⟩ | ⟨_, o', s, p, _, h2, h3, _⟩
 ·rw [this] at h2; cases h2
 ·rw [this] at h2; cases h2
 ·rw [this] at h2
  injection h2 with h2
  rcases h3 with e | e <;> rw [e] at h2 <;> cases h2
theorem gh_set {i m : Nat} {h' : Gh} {x : Gh} (h : (gh.set i h')[m]? = some x) : (m = i /\ x = h') ∨ (m ≠ i /\ gh[m]? = some x) := by
 rw [List.getElem?_set] at h
 split at h
 ·rename_i e
  split at h
  ·injection h with h; exact .inl ⟨e.symm, h.symm⟩
  ·cases h
 ·rename_i e; exact .inr ⟨fun x => e x.symm, h⟩
theorem gh_lt {i : Nat} {x : Gh} (h : gh[i]? = some x) : i < gh.length := (List.getElem?_eq_some_iff.1 h).1
theorem Inv.go (h : Inv P S G Sb B0 W C Γ ch fr cs v park gh gs w t D) {k : Nat} {x x' : Gh} {g' : Goroutine} (hk : gh[k]? = some x) (ht : task x' = task x) (hg : GhI P S G Sb C (D.V (k + 1)) g' x') :
  Inv P S G Sb B0 W C Γ ch fr cs v park (gh.set k x') (gs.setIfInBounds (k + 1) g') w t D := by
 have hlt := gh_lt hk
 have hl := h.len
 have hgs : k + 1 < gs.size := by omega
 refine { h with main := ?_, bound := ?_, len := ?_, ghs := ?_, run := ?_, out := ?_ }
 ·obtain ⟨fr', cs', h1, h2, h3⟩ := h.main
  exact ⟨fr', cs', h1, h2, by rw [Array.getElem?_setIfInBounds_ne (by omega)]; exact h3⟩
 ·intro e he
  rw [Array.size_setIfInBounds]
  exact h.bound e he
 ·rw [Array.size_setIfInBounds, List.length_set]; exact hl
 ·intro m y hy
  rcases gh_set hy with ⟨rfl, rfl⟩ | ⟨hne, hy'⟩
  ·exact ⟨g', Array.getElem?_setIfInBounds_self_of_lt hgs, hg⟩
  ·obtain ⟨g, h1, h2⟩ := h.ghs m y hy'
   exact ⟨g, by rw [Array.getElem?_setIfInBounds_ne (by omega)]; exact h1, h2⟩
 ·intro m y Q hy hQ
  rcases gh_set hy with ⟨rfl, rfl⟩ | ⟨hne, hy'⟩
  ·exact h.run m x Q hk (ht ▸ hQ)
  ·exact h.run m y Q hy' hQ
 ·intro e he
  rcases h.out e he with ⟨y, h1, h2⟩ | h1
  ·by_cases hm : e.1 - 1 = k
   ·rw [hm] at h1 ⊢
    rw [hk] at h1
    injection h1 with h1
    subst h1
    exact .inl ⟨x', by rw [List.getElem?_set_self hlt], ht.trans h2⟩
   ·exact .inl ⟨y, by rw [List.getElem?_set_ne (Ne.symm hm)]; exact h1, h2⟩
  ·exact .inr h1
theorem Inv.work (hC : Ctx P S G Sb) (h : Inv P S G Sb B0 W C Γ ch fr cs v park gh gs w t D) {k : Nat} {f1 : Frame} {c1 : List Frame} {v1 : World} {Q : Post} (hk : gh[k]? = some (.work f1 c1 v1 Q)) (hn : ¬ AtSend P G Sb C Q f1 c1 v1) {g : Goroutine} (hg : gs[k + 1]? = some g) :
  ∃ g' w' es x' D', stepG P false g w = .go g' w' es /\ GhR P G Sb C x' (.work f1 c1 v1 Q) /\ (∀ z, park = some z -> ∃ buf s r, w'.heap[C]? = some (.chan 3 buf false s r false)) /\
   Inv P S G Sb B0 W C Γ ch fr cs v park (gh.set k x') (gs.setIfInBounds (k + 1) g') w' (t ++ MemOp.ofEvents (k + 1) g.frame.fn g.frame.place es) D' /\ D'.pd = D.pd /\ D'.E = D.E := by
 have hlt := gh_lt hk
 have hl := h.len
 obtain ⟨g1, hg1, rfl, ⟨fr', cs', hf, hcs, rfl⟩, hT⟩ := h.ghs k _ hk
 rw [hg] at hg1
 injection hg1 with hg1
 subst hg1
 obtain ⟨hE, hpos⟩ := h.run k _ Q hk rfl
 have hact : ActE D.E (k + 1) := ⟨Q, hE⟩
 have hmb : Mb (ActE D.E) (k + 1) := .inr hact
 have hch : ch = some C := h.opened fun e => by rw [e] at hE; cases hE
 obtain ⟨hchn, hB0, hs⟩ := h.chan hch
 have hCs : C < w.heap.size := (Array.getElem?_eq_some_iff.1 hchn).1
 cases hT with
 | stop _ _ _ hq => exact absurd hq hn
 | step _ _ _ hh hex hnx =>
  obtain ⟨x, v', hr⟩ := hex w.tape w.drawn
  have hw := h.mem.rel (k + 1) hmb
  have hpl : Plain (aT2 (D.V (k + 1)).v w.tape w.drawn) := h.mem.plain (k + 1) hmb
  obtain ⟨ρ₂, y1, y2, w', evs, l2, he, hst, hf2, hcs2, hl2, hw2, hG, hp2, hkeep⟩ := member_step (main := false) hC hw (h.mem.glob (k + 1) hmb) hh hf hcs (.cons (exit_rel (P := P)) .nil) hpl hr
  have hl2' : l2 = [exitFrame P] := by
   cases hl2 with
   | cons h1 h2 => cases h2; rw [exit_eq h1]
  subst hl2'
  let V' : Nat -> Vw := fun j => if j = k + 1 then ⟨(D.V (k + 1)).N, ρ₂, v'⟩ else D.V j
  have eV : ∀ j, j ≠ k + 1 -> V' j = D.V j := fun j hj => if_neg hj
  have eV1 : V' (k + 1) = ⟨(D.V (k + 1)).N, ρ₂, v'⟩ := if_pos rfl
  have hmem := h.mem.step hmb he hw2 hG hp2 hkeep
  obtain ⟨hr1, hr2, hr3⟩ := h.mem.ranges hmb (v' := v') he hG
  have htr := h.tr.step h.mem.sep (g := k + 1) (.inr ⟨hact, hpos⟩) hG.size hr1 hr2 hr3 (u := MemOp.ofEvents (k + 1) fr'.fn fr'.place (seen P fr'.fn evs)) fun op hop => by
   obtain ⟨e, hee, rfl⟩ := Go.Conc.mem_ofEvents hop
   have hO := opC_of_EvC hw2 (hG.evs e (mem_seen hee)) (not_extern hee)
   refine ⟨rfl, hO.1, hO.2.1, fun a ha => ?_⟩
   obtain ⟨c, k1, ⟨b, k2⟩, k3⟩ := hO.2.2 a ha
   refine ⟨c, k1, ⟨b, by show (V' (k + 1)).ρ b c; rw [eV1]; exact k2⟩, fun hwr => ?_⟩
   obtain ⟨b2, k4, k5⟩ := k3 hwr
   exact ⟨b2, by show (V' (k + 1)).N <= b2; rw [eV1]; exact k4, by show (V' (k + 1)).ρ b2 c; rw [eV1]; exact k5⟩
  have hC2 : w'.heap[C]? = w.heap[C]? := hG.keep C hCs fun b _ => h.heap hch hmb
  have hgs : k + 1 < gs.size := by omega
  have h0 := h.main
  refine ⟨Go.Conc.G y1 (y2 ++ [exitFrame P]), w', seen P fr'.fn evs, .work x.1 x.2 v' Q, { D with V := V' }, hst, .step _ _ _ _ w.tape w.drawn x v' hn hr, fun z _ => ⟨_, _, _, hC2.trans hchn⟩, ?_, rfl, rfl⟩
  refine { gam := h.gam, nod := h.nod, three := h.three, inv := h.inv, pnod := h.pnod, opened := h.opened, only := h.only, v0 := ?_, mem := hmem, tr := htr, main := ?_, bound := ?_, len := ?_, ghs := ?_, run := ?_, out := ?_, pds := ?_, chan := ?_ }
  ·show (V' 0).v = v
   rw [eV 0 (by omega)]; exact h.v0
  ·obtain ⟨f0, c0, h1, h2, h3⟩ := h0
   refine ⟨f0, c0, ?_, ?_, by rw [Array.getElem?_setIfInBounds_ne (by omega)]; exact h3⟩
   ·show FRel S (V' 0).ρ fr f0
    rw [eV 0 (by omega)]; exact h1
   ·show FsRel S (V' 0).ρ cs c0
    rw [eV 0 (by omega)]; exact h2
  ·intro e he
   rw [Array.size_setIfInBounds]
   exact h.bound e he
  ·rw [Array.size_setIfInBounds, List.length_set]; exact hl
  ·intro m y hy
   rcases gh_set hy with ⟨rfl, rfl⟩ | ⟨hne, hy'⟩
   ·refine ⟨_, Array.getElem?_setIfInBounds_self_of_lt hgs, ?_⟩
    show GhI P S G Sb C (V' (m + 1)) _ _
    rw [eV1]
    exact ⟨rfl, ⟨y1, y2, hf2, hcs2, rfl⟩, hnx w.tape w.drawn x v' hr⟩
   ·obtain ⟨g, h1, h2⟩ := h.ghs m y hy'
    refine ⟨g, by rw [Array.getElem?_setIfInBounds_ne (by omega)]; exact h1, ?_⟩
    show GhI P S G Sb C (V' (m + 1)) _ _
    rw [eV _ (by omega)]
    exact h2
  ·intro m y Q' hy hQ
   rcases gh_set hy with ⟨rfl, rfl⟩ | ⟨hne, hy'⟩
   ·exact h.run m _ Q' hk hQ
   ·exact h.run m y Q' hy' hQ
  ·intro e he
   rcases h.out e he with ⟨y, h1, h2⟩ | h1
   ·by_cases hm : e.1 - 1 = k
    ·rw [hm] at h1 ⊢
     rw [hk] at h1
     injection h1 with h1
     subst h1
     exact .inl ⟨.work x.1 x.2 v' Q, by rw [List.getElem?_set_self hlt], h2⟩
    ·exact .inl ⟨y, by rw [List.getElem?_set_ne (Ne.symm hm)]; exact h1, h2⟩
   ·exact .inr h1
  ·intro n p hp
   obtain ⟨h1, h2, sp, op, h3, h4, h5⟩ := h.pds n p hp
   have hne : p.j ≠ k + 1 := fun e => by rw [e, hpos] at h3; cases h3
   refine ⟨?_, ?_, sp, op, h3, by rw [getElem?_append_old (lt_size_of_getElem? h4)]; exact h4, h5⟩
   ·show ∃ Q, (p.j, Q) ∈ D.E /\ Q p.x (V' p.j).v
    rw [eV _ hne]; exact h1
   ·show VRel S (V' p.j).ρ p.x p.y
    rw [eV _ hne]; exact h2
  ·intro hc
   exact ⟨hC2.trans hchn, hB0, hs⟩
end
end
section
open Go Go.Conc Go.RowKit
section
variable {P : Program} {S : FuncId -> Prop} {G Sb : Nat -> Bool} {B0 : Nat} {W w w' : World} {C : Nat} {Γ : List Post} {ch : Option Nat} {fr : Frame} {cs : List Frame} {v : World} {park : Option Value} {gh : List Gh} {gs : Array Goroutine} {t : Trace} {D : Dat}
theorem Inv.stirC (h : Inv P S G Sb B0 W C Γ ch fr cs v park gh gs w t D) (hc : ch = some C) (buf : Array Value) (s r : Nat) : Mem P S G B0 W (w.setChan C 3 buf false s r false) (ActE D.E) D.V := by
 refine h.mem.stir ?_ (fun j b c hj hb => ?_) ⟨rfl, rfl, rfl, ?_, fun c hcB => ?_⟩
 ·show _ <= (w.heap.setIfInBounds C _).size
  rw [Array.size_setIfInBounds]; exact Nat.le_refl _
 ·show (w.heap.setIfInBounds C _)[c]? = _
  rw [Array.getElem?_setIfInBounds_ne fun e => h.heap hc hj (e ▸ hb)]
 ·show _ <= (w.heap.setIfInBounds C _).size
  rw [Array.size_setIfInBounds]; exact Nat.le_refl _
 ·show (w.heap.setIfInBounds C _)[c]? = _
  have := (h.chan hc).2.1
  rw [Array.getElem?_setIfInBounds_ne (by omega)]
theorem setChan_size (w : World) (buf : Array Value) (s r : Nat) : (w.setChan C 3 buf false s r false).heap.size = w.heap.size := Array.size_setIfInBounds ..
theorem setChan_get {w : World} (hC : C < w.heap.size) (buf : Array Value) (s r : Nat) : (w.setChan C 3 buf false s r false).heap[C]? = some (.chan 3 buf false s r false) := Array.getElem?_setIfInBounds_self_of_lt hC
theorem setChan_twice (w : World) (buf buf' : Array Value) (s s' r r' : Nat) : (w.setChan C 3 buf false s r false).setChan C 3 buf' false s' r' false = w.setChan C 3 buf' false s' r' false := by
 show { w with heap := (w.heap.setIfInBounds C _).setIfInBounds C _ } = _
 rw [Array.setIfInBounds_setIfInBounds]
 rfl
theorem Inv.sent (hC : Ctx P S G Sb) (h : Inv P S G Sb B0 W C Γ ch fr cs v park gh gs w t D) {k : Nat} {f1 : Frame} {c1 : List Frame} {v1 : World} {Q : Post} (hk : gh[k]? = some (.work f1 c1 v1 Q)) (hn : AtSend P G Sb C Q f1 c1 v1) {g : Goroutine} (hg : gs[k + 1]? = some g) :
  ∃ x y q D', stepG P false g w = .comm g #[scase C y (.tuple #[])] true .send w #[] /\ D'.pd = D.pd ++ [⟨k + 1, x, y⟩] /\ D'.E = D.E /\ D'.r = D.r /\ D'.s = D.s + 1 /\ w.heap[C]? = some (.chan 3 (D.pd.map Pd.y).toArray false D.s D.r false) /\ D.s = D.r + D.pd.length /\ C < w.heap.size /\ D.pd.length < 3 /\
   ∀ u : Trace, (∀ z ∈ u, z.act.touch? = none /\ z.act.low w.heap.size /\ ∀ m, z.act = .mark m -> Neutral m) -> (∃ z, u[0]? = some z /\ z.g = k + 1 /\ z.act = .send C D.s) ->
    Inv P S G Sb B0 W C Γ ch fr cs v park (gh.set k (.leav q)) (gs.setIfInBounds (k + 1) (Go.Conc.served g undef)) (w.setChan C 3 ((D.pd.map Pd.y).toArray.push y) false (D.s + 1) D.r false) (t ++ u) D' := by
 have hlt := gh_lt hk
 have hl := h.len
 obtain ⟨g1, hg1, rfl, ⟨fr', cs', hf, hcs, rfl⟩, hT⟩ := h.ghs k _ hk
 rw [hg] at hg1
 injection hg1 with hg1
 subst hg1
 obtain ⟨hE, hpos⟩ := h.run k _ Q hk rfl
 have hact : ActE D.E (k + 1) := ⟨Q, hE⟩
 have hmb : Mb (ActE D.E) (k + 1) := .inr hact
 have hch : ch = some C := h.opened fun e => by rw [e] at hE; cases hE
 obtain ⟨hchn, hB0, hs⟩ := h.chan hch
 have hCs : C < w.heap.size := (Array.getElem?_eq_some_iff.1 hchn).1
 obtain ⟨rfl, hm, hkd, ops, i, kk, o, chx, xop, q, hto, ho, hwt, hop, hx1, hx2, hev, hQ, hq⟩ := hn
 cases hcs with | nil => ?_
 have hgl := h.mem.glob (k + 1) hmb
 have hvx := hf.eval hgl hC.sb xop hx2
 have hvc := hf.eval hgl hC.sb chx hx1
 rw [hev] at hvc
 have hvc' : fr'.eval chx = .chan (some C) := by
  generalize fr'.eval chx = u at hvc
  cases hvc
  rfl
 have hst : stepG P false (Go.Conc.G fr' ([] ++ [exitFrame P])) w = .comm (Go.Conc.G fr' ([] ++ [exitFrame P])) #[scase C (fr'.eval xop) (.tuple #[])] true .send w #[] := by
  have := oper_comm (P := P) (main := false) (fr := fr') (cs := [] ++ [exitFrame P]) (w := w) (w' := w) (es := #[]) (cases := #[scase C (fr'.eval xop) (.tuple #[])]) (bl := true) (sh := .send) hf.tm (hf.mode.trans hm) (hf.todo.trans hto) ho (by rw [<- yielded_rel hf.tmps]; exact hwt) (by
   unfold execOp
   simp only [hop, hvc']
   rfl)
  rw [this, seen_none]
 have hsub : ∀ (l : List Pd) (m : List Nat), (l.map Pd.j).Nodup -> (∀ p ∈ l, p.j ∈ m) -> l.length <= m.length := by
  intro l
  induction l with
  | nil => exact fun _ _ _ => Nat.zero_le _
  | cons p l ih =>
   intro m hnd hm
   rw [List.map_cons, List.nodup_cons] at hnd
   have hpm := hm p (List.mem_cons_self ..)
   have := ih (m.erase p.j) hnd.2 fun p' hp' => by
    refine (List.mem_erase_of_ne fun e => hnd.1 ?_).2 (hm p' (List.mem_cons_of_mem _ hp'))
    rw [<- e]; exact List.mem_map_of_mem hp'
   rw [List.length_erase_of_mem hpm] at this
   have := List.length_pos_of_mem hpm
   rw [List.length_cons]
   omega
 have hpdE : ∀ p ∈ D.pd, p.j ∈ (D.E.map Prod.fst) /\ p.j ≠ k + 1 := fun p hp => by
  obtain ⟨n, hn⟩ := List.mem_iff_getElem?.1 hp
  obtain ⟨⟨Q', h1, _⟩, _, sp, op, h2, _⟩ := h.pds n p hn
  exact ⟨List.mem_map.2 ⟨_, h1, rfl⟩, fun e => by rw [e, hpos] at h2; cases h2⟩
 have hroom : D.pd.length < 3 := by
  have hin : k + 1 ∈ D.E.map Prod.fst := List.mem_map.2 ⟨_, hE, rfl⟩
  have h1 := hsub D.pd ((D.E.map Prod.fst).erase (k + 1)) h.pnod fun p hp => (List.mem_erase_of_ne (hpdE p hp).2).2 (hpdE p hp).1
  rw [List.length_erase_of_mem hin, List.length_map] at h1
  have h2 := h.three
  have h3 := List.length_pos_of_mem hE
  omega
 let pos' : Nat -> Option Nat := fun j => if j = k + 1 then some t.size else D.pos j
 have ep : ∀ j, j ≠ k + 1 -> pos' j = D.pos j := fun j hj => if_neg hj
 have ep1 : pos' (k + 1) = some t.size := if_pos rfl
 refine ⟨f1.eval xop, fr'.eval xop, q, { D with pd := D.pd ++ [⟨k + 1, f1.eval xop, fr'.eval xop⟩], pos := pos', s := D.s + 1 }, hst, rfl, rfl, rfl, rfl, hchn, hs, hCs, hroom, fun u hu hu0 => ?_⟩
 obtain ⟨z, hz0, hzg, hza⟩ := hu0
 have hgs : k + 1 < gs.size := by omega
 have htsz : (t ++ u)[t.size]? = some z := by rw [Array.getElem?_append_right (Nat.le_refl _), Nat.sub_self]; exact hz0
 refine { v0 := h.v0, gam := h.gam, nod := h.nod, three := h.three, inv := h.inv, opened := h.opened, only := h.only, mem := h.stirC hch _ _ _, tr := ?_, main := ?_, bound := ?_, len := ?_, ghs := ?_, run := ?_, out := ?_, pds := ?_, pnod := ?_, chan := ?_ }
 ·rw [setChan_size]
  refine (h.tr.quietA (Nat.le_refl _) hu).pend (j := k + 1) (s := t.size) ep1 ep hpos fun i a ha => ?_
  rcases touch_in ha with ⟨_, hi⟩ | ⟨op, _, hou, hx⟩
  ·exact hi
  ·rw [(hu op hou).1] at hx; cases hx
 ·obtain ⟨f0, c0, h1, h2, h3⟩ := h.main
  exact ⟨f0, c0, h1, h2, by rw [Array.getElem?_setIfInBounds_ne (by omega)]; exact h3⟩
 ·intro e he
  rw [Array.size_setIfInBounds]
  exact h.bound e he
 ·rw [Array.size_setIfInBounds, List.length_set]; exact hl
 ·intro m y hy
  rcases gh_set hy with ⟨rfl, rfl⟩ | ⟨hne, hy'⟩
  ·refine ⟨_, Array.getElem?_setIfInBounds_self_of_lt hgs, ?_⟩
   show QuitsIn P q (Go.Conc.G (fr'.finish undef) [exitFrame P])
   have e : ∃ tmps, fr'.finish undef = { fn := f1.fn, tmps, todo := .inRegion ops [] :: kk, defers := [], mode := .run, kind := .deferred } := by
    refine ⟨(fr'.finish undef).tmps, ?_⟩
    obtain ⟨fn, tmps, todo, defers, mode, kind, roundOf⟩ := fr'
    obtain ⟨h1, h2, h3, h4, h5, h6, h7, h8, h9, h10⟩ := hf
    simp only at *
    subst h1 h3 h4 h5 h8 h10
    unfold Frame.finish
    simp only [hto, hm, hkd]
   obtain ⟨tmps, e⟩ := e
   rw [e]
   exact hq tmps
  ·obtain ⟨g, h1, h2⟩ := h.ghs m y hy'
   exact ⟨g, by rw [Array.getElem?_setIfInBounds_ne (by omega)]; exact h1, h2⟩
 ·intro m y Q' hy hQ'
  rcases gh_set hy with ⟨rfl, rfl⟩ | ⟨hne, hy'⟩
  ·cases hQ'
  ·obtain ⟨h1, h2⟩ := h.run m y Q' hy' hQ'
   exact ⟨h1, (ep (m + 1) (by omega)).trans h2⟩
 ·intro e he
  rcases h.out e he with ⟨y, h1, h2⟩ | ⟨p, h1, h2⟩
  ·by_cases hm : e.1 - 1 = k
   ·have : e.1 ≠ 0 := by have := h.mem.pos e.1 ⟨e.2, he⟩; omega
    exact .inr ⟨_, List.mem_append_right _ (List.mem_singleton.2 rfl), by show k + 1 = e.1; omega⟩
   ·exact .inl ⟨y, by rw [List.getElem?_set_ne (Ne.symm hm)]; exact h1, h2⟩
  ·exact .inr ⟨p, List.mem_append_left _ h1, h2⟩
 ·intro n p hp
  have hp : (D.pd ++ [⟨k + 1, f1.eval xop, fr'.eval xop⟩])[n]? = some p := hp
  by_cases hnl : n < D.pd.length
  ·rw [List.getElem?_append_left hnl] at hp
   obtain ⟨h1, h2, sp, op, h3, h4, h5⟩ := h.pds n p hp
   have hne := (hpdE p (List.mem_of_getElem? hp)).2
   exact ⟨h1, h2, sp, op, (ep _ hne).trans h3, by rw [getElem?_append_old (lt_size_of_getElem? h4)]; exact h4, h5⟩
  ·rw [List.getElem?_append_right (by omega)] at hp
   have hn0 : n - D.pd.length = 0 := by
    have := (List.getElem?_eq_some_iff.1 hp).1
    simpa using this
   rw [hn0] at hp
   simp only [List.getElem?_cons_zero, Option.some.injEq] at hp
   subst hp
   refine ⟨⟨Q, hE, hQ⟩, hvx, t.size, z, ep1, htsz, hzg, ?_⟩
   rw [hza]
   show MemAct.send C D.s = .send C (D.r + n)
   rw [hs]
   congr 2
   omega
 ·show ((D.pd ++ [_]).map Pd.j).Nodup
  rw [List.map_append, List.map_singleton, List.nodup_append]
  refine ⟨h.pnod, by simp, fun a ha b hb => ?_⟩
  obtain ⟨p, hp, rfl⟩ := List.mem_map.1 ha
  rw [List.mem_singleton.1 hb]
  exact (hpdE p hp).2
 ·intro hc
  refine ⟨?_, hB0, ?_⟩
  ·rw [setChan_get hCs]
   show some (Obj.chan 3 _ false (D.s + 1) D.r false) = some (.chan 3 ((D.pd ++ [_]).map Pd.y).toArray false (D.s + 1) D.r false)
   congr 2
   simp
  ·show D.s + 1 = D.r + (D.pd ++ [_]).length
   rw [List.length_append, hs]
   rfl
theorem Inv.took (h : Inv P S G Sb B0 W C Γ ch fr cs v park gh gs w t D) {p : Pd} {rest : List Pd} (hpd : D.pd = p :: rest) {f' : Frame} {c' : List Frame} (h0 : gs[0]? = some (stand C park (Go.Conc.G f' c'))) {ops : Array Oper} {i : Nat} {r : List Nat} {k : List Item} (hto : fr.todo = .inRegion ops (i :: r) :: k)
  {pp : Nat} {z : MemOp} (hz : t[pp]? = some z) (hzg : z.g = 0) (hza : z.act = .recvDone C D.r) :
  ∃ Γ1 Q Γ2 v' x' D', Γ = Γ1 ++ Q :: Γ2 /\ Grow v v' /\ Q x' (hide v v') /\ Self P S G (fr.finish x') cs v' /\ D'.pd = rest /\
   Inv P S G Sb B0 W C (Γ1 ++ Γ2) ch (fr.finish x') cs v' none gh (gs.setIfInBounds 0 (Go.Conc.served (Go.Conc.G f' c') p.y)) (w.setChan C 3 (rest.map Pd.y).toArray false D.s (D.r + 1) false) t D' := by
 obtain ⟨⟨Q, hE, hQ⟩, hxy, sp, op, hps, hts, hog, hoa⟩ := h.pds 0 p (by rw [hpd]; rfl)
 have hch : ch = some C := h.opened fun e => by rw [e] at hE; cases hE
 obtain ⟨hchn, hB0, hs⟩ := h.chan hch
 have hCs : C < w.heap.size := (Array.getElem?_eq_some_iff.1 hchn).1
 obtain ⟨f0, c0, hf, hc, h1⟩ := h.main
 have hfc : f0 = f' /\ c0 = c' := by
  rw [h0] at h1
  injection h1 with h1
  cases park with
  | none => injection h1 with e1 e2; exact ⟨e1.symm, e2.symm⟩
  | some z => injection h1 with e1 e2; exact ⟨e1.symm, e2.symm⟩
 obtain ⟨rfl, rfl⟩ := hfc
 obtain ⟨E1, E2, hE12⟩ := List.append_of_mem hE
 have hnd : (p.j :: (E1 ++ E2).map Prod.fst).Nodup := by
  have h2 := h.nod
  rw [hE12] at h2
  have hp : (E1 ++ (p.j, Q) :: E2).Perm ((p.j, Q) :: (E1 ++ E2)) := List.perm_middle
  have := (hp.map Prod.fst).nodup h2
  simpa using this
 rw [List.nodup_cons] at hnd
 have inE : ∀ e, e ∈ E1 ++ E2 ↔ e ∈ D.E /\ e.1 ≠ p.j := fun e => by
  constructor
  ·intro he
   refine ⟨?_, fun x => hnd.1 (List.mem_map.2 ⟨e, he, x⟩)⟩
   rw [hE12]
   rcases List.mem_append.1 he with h | h
   ·exact List.mem_append_left _ h
   ·exact List.mem_append_right _ (List.mem_cons_of_mem _ h)
  ·rintro ⟨he, hne⟩
   rw [hE12] at he
   rcases List.mem_append.1 he with h | h
   ·exact List.mem_append_left _ h
   ·rcases List.mem_cons.1 h with h | h
    ·rw [h] at hne; exact absurd rfl hne
    ·exact List.mem_append_right _ h
 have hA : ∀ j, ActE (E1 ++ E2) j ↔ ActE D.E j /\ j ≠ p.j := fun j => by
  constructor
  ·rintro ⟨Q', hQ'⟩
   have := (inE _).1 hQ'
   exact ⟨⟨Q', this.1⟩, this.2⟩
  ·rintro ⟨⟨Q', hQ'⟩, hne⟩
   exact ⟨Q', (inE _).2 ⟨hQ', hne⟩⟩
 have hactp : ActE D.E p.j := ⟨Q, hE⟩
 have hinv := h.inv _ hE
 obtain ⟨v', ρ', x', hgr, hq', hx', hext, hmem⟩ := (h.stirC hch (rest.map Pd.y).toArray D.s (D.r + 1)).take hactp hA hinv hxy hQ
 let V' : Nat -> Vw := fun k => if k = 0 then ⟨(D.V 0).N, ρ', v'⟩ else D.V k
 have eV : ∀ j, j ≠ 0 -> V' j = D.V j := fun j hj => if_neg hj
 have eV0 : V' 0 = ⟨(D.V 0).N, ρ', v'⟩ := if_pos rfl
 have hfin : FRel S ρ' (fr.finish x') (f0.finish p.y) := (hf.mono hext).finish hto hx'
 have hv0 := h.v0
 have hwr := hmem.main
 have hself : Self P S G (fr.finish x') cs v' := by
  have h2 : WRel P S (V' 0).N (V' 0).ρ (aT2 (V' 0).v (w.setChan C 3 (rest.map Pd.y).toArray false D.s (D.r + 1) false).tape (w.setChan C 3 (rest.map Pd.y).toArray false D.s (D.r + 1) false).drawn) (w.setChan C 3 (rest.map Pd.y).toArray false D.s (D.r + 1) false) := hwr
  rw [eV0] at h2
  have hpl : Plain (V' 0).v := hmem.plain 0 (.inl rfl)
  rw [eV0] at hpl
  have hgl : GlOk G (V' 0).ρ := hmem.glob 0 (.inl rfl)
  rw [eV0] at hgl
  have := (Self.of (cs := cs) (v := aT2 v' w.tape w.drawn) hpl h2 hgl hfin (hc.mono hext)).at2 v'.tape v'.drawn
  exact this
 have hlt0 : 0 < gs.size := (Array.getElem?_eq_some_iff.1 h0).1
 have hpj : ∀ p' ∈ rest, p'.j ≠ p.j := fun p' hp' e => by
  have := h.pnod
  rw [hpd, List.map_cons, List.nodup_cons] at this
  exact this.1 (e ▸ List.mem_map_of_mem hp')
 refine ⟨E1.map Prod.snd, Q, E2.map Prod.snd, v', x', { D with V := V', E := E1 ++ E2, pd := rest, r := D.r + 1 }, ?_, by rw [<- hv0]; exact hgr, by rw [<- hv0]; exact hq', hself, rfl, ?_⟩
 ·rw [<- h.gam, hE12, List.map_append, List.map_cons]
 refine { v0 := by show (V' 0).v = v'; rw [eV0], mem := hmem, tr := ?_, main := ?_, gam := List.map_append .., nod := hnd.2, three := ?_, inv := fun e he => h.inv e ((inE e).1 he).1, bound := ?_, len := ?_, ghs := ?_, run := ?_, out := ?_, pds := ?_, pnod := ?_, opened := fun _ => hch, only := h.only, chan := ?_ }
 ·rw [setChan_size]
  refine h.tr.take (j := p.j) hps hts hog (n := D.r) hoa hz hzg hza hA (fun j hj e => by have := h.mem.pos j hj; omega) fun j hj0 hjp c => ?_
  unfold rngV ownV
  show ((∃ b, (V' j).ρ b c) ↔ _) /\ ((∃ b, (V' j).N <= b /\ (V' j).ρ b c) ↔ _)
  rw [eV j hj0]
  exact ⟨Iff.rfl, Iff.rfl⟩
 ·refine ⟨f0.finish p.y, c0, ?_, ?_, by rw [Array.getElem?_setIfInBounds_self_of_lt hlt0]; rfl⟩
  ·show FRel S (V' 0).ρ _ _
   rw [eV0]; exact hfin
  ·show FsRel S (V' 0).ρ _ _
   rw [eV0]; exact hc.mono hext
 ·have := h.three
  rw [hE12, List.length_append, List.length_cons] at this
  show (E1 ++ E2).length <= 3
  rw [List.length_append]
  omega
 ·intro e he
  rw [Array.size_setIfInBounds]
  exact h.bound e ((inE e).1 he).1
 ·rw [Array.size_setIfInBounds]; exact h.len
 ·intro m y hy
  obtain ⟨g, h1, h2⟩ := h.ghs m y hy
  refine ⟨g, by rw [Array.getElem?_setIfInBounds_ne (by omega)]; exact h1, ?_⟩
  show GhI P S G Sb C (V' (m + 1)) g y
  rw [eV _ (by omega)]
  exact h2
 ·intro m y Q' hy hQ'
  obtain ⟨h1, h2⟩ := h.run m y Q' hy hQ'
  exact ⟨(inE _).2 ⟨h1, fun e => by
   have e : m + 1 = p.j := e
   rw [e, hps] at h2; cases h2⟩, h2⟩
 ·intro e he
  obtain ⟨he1, he2⟩ := (inE e).1 he
  rcases h.out e he1 with h1 | ⟨p', h1, h2⟩
  ·exact .inl h1
  ·rw [hpd] at h1
   rcases List.mem_cons.1 h1 with h1 | h1
   ·rw [h1] at h2; exact absurd h2.symm he2
   ·exact .inr ⟨p', h1, h2⟩
 ·intro n p' hp'
  obtain ⟨⟨Q', h1, h1'⟩, h2, sp', op', h3, h4, h5, h6⟩ := h.pds (n + 1) p' (by rw [hpd]; exact hp')
  have hne0 : p'.j ≠ 0 := by have := h.mem.pos p'.j ⟨Q', h1⟩; omega
  refine ⟨?_, ?_, sp', op', h3, h4, h5, ?_⟩
  ·refine ⟨Q', (inE _).2 ⟨h1, hpj p' (List.mem_of_getElem? hp')⟩, ?_⟩
   show Q' p'.x (V' p'.j).v
   rw [eV _ hne0]; exact h1'
  ·show VRel S (V' p'.j).ρ p'.x p'.y
   rw [eV _ hne0]; exact h2
  ·rw [h6]
   show MemAct.send C (D.r + (n + 1)) = .send C (D.r + 1 + n)
   congr 1
   omega
 ·have := h.pnod
  rw [hpd, List.map_cons, List.nodup_cons] at this
  exact this.2
 ·intro _
  refine ⟨setChan_get hCs _ _ _, hB0, ?_⟩
  rw [hpd, List.length_cons] at hs
  show D.s = D.r + 1 + rest.length
  omega
end
end
section
open Go Go.Conc Go.RowKit
section
variable {P : Program} {S : FuncId -> Prop} {G Sb : Nat -> Bool} {B0 : Nat} {W w w' : World} {C : Nat} {Γ : List Post} {ch : Option Nat} {fr : Frame} {cs : List Frame} {v : World} {park : Option Value} {gh : List Gh} {gs : Array Goroutine} {t : Trace} {D : Dat}
theorem events_none (i : Nat) (fn : FuncId) (pos : String) : MemOp.ofEvents i fn pos #[] = #[] := by rw [ofEvents_eq]; simp
def Took (P : Program) (S : FuncId -> Prop) (G Sb : Nat -> Bool) (B0 : Nat) (W : World) (C : Nat) (Γ : List Post) (ch : Option Nat) (fr : Frame) (cs : List Frame) (v : World) (gs : Array Goroutine) (w : World) (t : Trace) : Prop :=
 ∃ Γ1 Q Γ2 v' x' gh' D', Γ = Γ1 ++ Q :: Γ2 /\ Grow v v' /\ Q x' (hide v v') /\ Self P S G (fr.finish x') cs v' /\ Inv P S G Sb B0 W C (Γ1 ++ Γ2) ch (fr.finish x') cs v' none gh' gs w t D'
def HasTodo (fr : Frame) : Prop := ∃ ops i r k, fr.todo = .inRegion ops (i :: r) :: k
theorem mem2 {x y z : MemOp} (h : z ∈ (#[x, y] : Trace)) : z = x ∨ z = y := by simpa using h
theorem mem4 {x y a b z : MemOp} (h : z ∈ (#[x, y, a, b] : Trace)) : z = x ∨ z = y ∨ z = a ∨ z = b := by simpa using h
theorem Inv.other (hC : Ctx P S G Sb) (h : Inv P S G Sb B0 W C Γ ch fr cs v park gh gs w t D) (hpk : ∀ z, park = some z -> ch = some C /\ D.pd = [] /\ HasTodo fr) {k : Nat} {g : Goroutine} (hg : gs[k + 1]? = some g) (hrun : g.status = .running) (sl : Option (Nat × Nat)) :
  ∃ gs' w' ops, runT P (crowd gs w sl) (k + 1) = (.next (crowd gs' w' sl), ops) /\
   ((∃ gh' D', LD (GhR P G Sb C) gh' gh /\ Inv P S G Sb B0 W C Γ ch fr cs v park gh' gs' w' (t ++ ops) D' /\ ∀ z, park = some z -> D'.pd = []) ∨ park ≠ none /\ Took P S G Sb B0 W C Γ ch fr cs v gs' w' (t ++ ops)) := by
 have hlt := (Array.getElem?_eq_some_iff.1 hg).1
 have hl := h.len
 have hkl : k < gh.length := by omega
 have hk : gh[k]? = some gh[k] := List.getElem?_eq_getElem hkl
 generalize gh[k] = x at hk
 have hi0 : (k + 1 == 0) = false := rfl
 obtain ⟨g1, hg1, hI⟩ := h.ghs k x hk
 rw [hg] at hg1
 injection hg1 with hg1
 subst hg1
 have hopen : ∀ z, park = some z -> ∃ buf s r, w.heap[C]? = some (.chan 3 buf false s r false) := fun z hz => ⟨_, _, _, (h.chan (hpk z hz).1).1⟩
 have still : ∀ {g' x'}, stepG P false g w = .go g' w -> GhR P G Sb C x' x -> task x' = task x -> GhI P S G Sb C (D.V (k + 1)) g' x' -> ∃ gs' w' ops, runT P (crowd gs w sl) (k + 1) = (.next (crowd gs' w' sl), ops) /\
   ((∃ gh' D', LD (GhR P G Sb C) gh' gh /\ Inv P S G Sb B0 W C Γ ch fr cs v park gh' gs' w' (t ++ ops) D' /\ ∀ z, park = some z -> D'.pd = []) ∨ park ≠ none /\ Took P S G Sb B0 W C Γ ch fr cs v gs' w' (t ++ ops)) := fun {g' x'} hst hR ht hI' => by
  refine ⟨gs.setIfInBounds (k + 1) g', w, #[], ?_, .inl ⟨gh.set k x', D, ld_set hk hR, ?_, fun z hz => (hpk z hz).2.1⟩⟩
  ·rw [runT_crowd_go hg (by rw [hi0]; exact hst), h.woken _ _ hopen, events_none]
  ·rw [Array.append_empty]
   exact h.go hk ht hI'
 cases x with
 | leav q =>
  cases q with
  | zero =>
   have hI : g.status = .finished := hI
   rw [hrun] at hI; cases hI
  | succ q =>
   rcases hI with hf | ⟨_, g', hst, hq⟩
   ·rw [hrun] at hf; cases hf
   ·exact still (hst w) (.leav q) rfl hq
 | start f caps v1 Q =>
  obtain ⟨hv, ⟨caps', hcaps, rfl⟩, ⟨fn, c, h1, h2, h3⟩, hT⟩ := hI
  refine still (born_step h1 h2 h3 w false) (.enter f caps v1 Q) rfl ⟨hv, ⟨Frame.enter P f caps' .deferred, [], .enter f .deferred (by simp) hcaps, .nil, rfl⟩, hT⟩
 | work f1 c1 v1 Q =>
  by_cases hn : AtSend P G Sb C Q f1 c1 v1
  ·obtain ⟨x, y, q, D', hst, hpd, hE, hr', hs', hch, hs, hCs, hroom, hk2⟩ := h.sent hC hk hn hg
   cases hp : park with
   | none =>
    have hparts : partners (gs.setIfInBounds (k + 1) ph) C false = [] := Go.Conc.partners_nil fun j y hy => by
     refine offersAt_of_not_blocked ?_ _ _
     rcases getElem?_stand gs (k + 1) j y hy with ⟨_, rfl⟩ | ⟨_, hy⟩
     ·simp [ph]
     ·cases j with
      | zero =>
       obtain ⟨f0, c0, _, _, h3⟩ := h.main
       rw [hy, hp] at h3
       injection h3 with h3
       subst h3
       show GoStatus.running ≠ .blocked
       simp
      | succ j => rcases h.status hy with e | e <;> rw [e] <;> simp
    refine ⟨_, _, _, crowd_send_room hg (by rw [hi0]; exact hst) hch (by simpa using hroom) hparts, .inl ⟨gh.set k (.leav q), D', ld_set hk (.sent _ _ _ _ _), ?_, fun z hz => by cases hz⟩⟩
    rw [<- hp, finishComm_send, events_none, Array.empty_append]
    refine hk2 _ (fun z hz => ?_) ⟨_, rfl, rfl, rfl⟩
    rcases mem2 hz with rfl | rfl <;> exact ⟨rfl, hCs, fun m hm => by cases hm⟩
   | some z =>
    obtain ⟨hch2, hpd0, ops, i, r, kk, hto⟩ := hpk z hp
    obtain ⟨f0, c0, _, _, h0⟩ := h.main
    rw [hp] at h0
    have h0 : gs[0]? = some (parked (Go.Conc.G f0 c0) #[rcase C z] (.recv false)) := h0
    have hparts : partners (gs.setIfInBounds (k + 1) ph) C false = [(0, 0)] := by
     have h0' : (gs.setIfInBounds (k + 1) ph)[0]? = some (parked (Go.Conc.G f0 c0) #[rcase C z] (.recv false)) := by rw [Array.getElem?_setIfInBounds_ne (by omega)]; exact h0
     rw [partners_one h0' fun j y hj hy => ?_, offersAt_parked_recv, if_pos rfl]
     ·rfl
     ·refine offersAt_of_not_blocked ?_ _ _
      rcases getElem?_stand gs (k + 1) j y hy with ⟨_, rfl⟩ | ⟨_, hy⟩
      ·simp [ph]
      ·cases j with
       | zero => exact absurd rfl hj
       | succ j => rcases h.status hy with e | e <;> rw [e] <;> simp
    have hstep := crowd_send_meets (sl := sl) hg (by rw [hi0]; exact hst) hch (j := 0) (by omega) h0 hparts
    rw [finishComm_send, finishComm_recv, events_none, Array.empty_append] at hstep
    refine ⟨_, _, _, hstep, .inr ⟨by simp, ?_⟩⟩
    have hI2 := hk2 (fun z hz => by
     rcases mem4 hz with rfl | rfl | rfl | rfl <;> exact ⟨rfl, hCs, fun m hm => by cases hm⟩) ⟨{ g := k + 1, fn := g.frame.fn, pos := g.frame.place, act := .send C D.s }, rfl, rfl, rfl⟩ (u := #[{ g := k + 1, fn := g.frame.fn, pos := g.frame.place, act := .send C D.s }, { g := 0, fn := f0.fn, pos := f0.place, act := .recv C D.r 3 },
    { g := k + 1, fn := g.frame.fn, pos := g.frame.place, act := .sendDone C D.s }, { g := 0, fn := f0.fn, pos := f0.place, act := .recvDone C D.r }])
    have hpd1 : D'.pd = ⟨k + 1, x, y⟩ :: [] := by rw [hpd, hpd0]; rfl
    obtain ⟨Γ1, Q1, Γ2, v', x', D2, e1, e2, e3, e4, e5, e6⟩ := hI2.took (p := ⟨k + 1, x, y⟩) hpd1 (f' := f0) (c' := c0) (by rw [Array.getElem?_setIfInBounds_ne (by omega), hp]; exact h0) hto (pp := t.size + 3) (z := { g := 0, fn := f0.fn, pos := f0.place, act := .recvDone C D.r })
     (by rw [Array.getElem?_append_right (by omega), show t.size + 3 - t.size = 3 by omega]; rfl) rfl (by rw [hr'])
    refine ⟨Γ1, Q1, Γ2, v', x', gh.set k (.leav q), D2, e1, e2, e3, e4, ?_⟩
    rw [setChan_twice, hs', hr', Array.setIfInBounds_comm _ _ (by omega)] at e6
    rw [hpd0]
    exact e6
  ·obtain ⟨g', w', es, x', D', hst, hR, hop, hI', hpd, hE⟩ := h.work hC hk hn hg
   refine ⟨_, _, _, runT_crowd_go hg (by rw [hi0]; exact hst), .inl ⟨gh.set k x', D', ld_set hk hR, ?_, fun z hz => by rw [hpd]; exact (hpk z hz).2.1⟩⟩
   rw [h.woken _ _ hop]
   exact hI'
end
end
section
open Go Go.Conc Go.RowKit
section
variable {P : Program} {S : FuncId -> Prop} {G Sb : Nat -> Bool} {B0 : Nat} {W w w' : World} {C : Nat} {Γ : List Post} {ch : Option Nat} {fr : Frame} {cs : List Frame} {v : World} {gh : List Gh} {gs : Array Goroutine} {t : Trace} {D : Dat}
theorem Inv.tame (hC : Ctx P S G Sb) (h : Inv P S G Sb B0 W C Γ ch fr cs v none gh gs w t D) (hh : okHead P G Sb fr) {x : Frame × List Frame} {v' : World} (hr : (stepS P fr cs).run P (aT2 v w.tape w.drawn) = .ok x v') :
  ∃ g g' w' es D', gs[0]? = some g /\ stepG P true g w = .go g' w' es /\ Inv P S G Sb B0 W C Γ ch x.1 x.2 v' none gh (gs.setIfInBounds 0 g') w' (t ++ MemOp.ofEvents 0 g.frame.fn g.frame.place es) D' := by
 have hl := h.len
 obtain ⟨fr', cs', hf, hcs, h0⟩ := h.main
 have hmb : Mb (ActE D.E) 0 := .inl rfl
 have hv0 := h.v0
 subst hv0
 have hw := h.mem.main
 have hpl : Plain (aT2 (D.V 0).v w.tape w.drawn) := h.mem.plain 0 hmb
 obtain ⟨ρ₂, y1, y2, w', evs, l2, he, hst, hf2, hcs2, hl2, hw2, hG, hp2, hkeep⟩ := member_step (main := true) hC hw (h.mem.glob 0 hmb) hh hf hcs .nil hpl hr
 cases hl2
 rw [List.append_nil] at hst
 rw [List.append_nil] at hst
 let V' : Nat -> Vw := fun j => if j = 0 then ⟨(D.V 0).N, ρ₂, v'⟩ else D.V j
 have eV : ∀ j, j ≠ 0 -> V' j = D.V j := fun j hj => if_neg hj
 have eV1 : V' 0 = ⟨(D.V 0).N, ρ₂, v'⟩ := if_pos rfl
 have hmem := h.mem.step hmb he hw2 hG hp2 hkeep
 obtain ⟨hr1, hr2, hr3⟩ := h.mem.ranges hmb (v' := v') he hG
 have htr := h.tr.step h.mem.sep (g := 0) (.inl rfl) hG.size hr1 hr2 hr3 (u := MemOp.ofEvents 0 fr'.fn fr'.place (seen P fr'.fn evs)) fun op hop => by
  obtain ⟨e, hee, rfl⟩ := Go.Conc.mem_ofEvents hop
  have hO := opC_of_EvC hw2 (hG.evs e (mem_seen hee)) (not_extern hee)
  refine ⟨rfl, hO.1, hO.2.1, fun a ha => ?_⟩
  obtain ⟨c, k1, ⟨b, k2⟩, k3⟩ := hO.2.2 a ha
  refine ⟨c, k1, ⟨b, by show (V' 0).ρ b c; rw [eV1]; exact k2⟩, fun hwr => ?_⟩
  obtain ⟨b2, k4, k5⟩ := k3 hwr
  exact ⟨b2, by show (V' 0).N <= b2; rw [eV1]; exact k4, by show (V' 0).ρ b2 c; rw [eV1]; exact k5⟩
 have hlt0 : 0 < gs.size := by omega
 refine ⟨_, Go.Conc.G y1 y2, w', seen P fr'.fn evs, { D with V := V' }, h0, hst, ?_⟩
 refine { gam := h.gam, nod := h.nod, three := h.three, inv := h.inv, pnod := h.pnod, opened := h.opened, only := h.only, run := h.run, out := h.out, v0 := ?_, mem := hmem, tr := htr, main := ?_, bound := ?_, len := ?_, ghs := ?_, pds := ?_, chan := ?_ }
 ·show (V' 0).v = v'
  rw [eV1]
 ·refine ⟨y1, y2, ?_, ?_, by rw [Array.getElem?_setIfInBounds_self_of_lt hlt0]; rfl⟩
  ·show FRel S (V' 0).ρ x.1 y1
   rw [eV1]; exact hf2
  ·show FsRel S (V' 0).ρ x.2 y2
   rw [eV1]; exact hcs2
 ·intro e he
  rw [Array.size_setIfInBounds]
  exact h.bound e he
 ·rw [Array.size_setIfInBounds]; exact hl
 ·intro m y hy
  obtain ⟨g, h1, h2⟩ := h.ghs m y hy
  refine ⟨g, by rw [Array.getElem?_setIfInBounds_ne (by omega)]; exact h1, ?_⟩
  show GhI P S G Sb C (V' (m + 1)) _ _
  rw [eV _ (by omega)]
  exact h2
 ·intro n p hp
  obtain ⟨⟨Q', h1, h1'⟩, h2, sp, op, h3, h4, h5⟩ := h.pds n p hp
  have hne : p.j ≠ 0 := by have := h.mem.pos p.j ⟨Q', h1⟩; omega
  refine ⟨⟨Q', h1, ?_⟩, ?_, sp, op, h3, by rw [getElem?_append_old (lt_size_of_getElem? h4)]; exact h4, h5⟩
  ·show Q' p.x (V' p.j).v
   rw [eV _ hne]; exact h1'
  ·show VRel S (V' p.j).ρ p.x p.y
   rw [eV _ hne]; exact h2
 ·intro hc
  obtain ⟨hchn, hB0, hs⟩ := h.chan hc
  have hCs : C < w.heap.size := (Array.getElem?_eq_some_iff.1 hchn).1
  exact ⟨(hG.keep C hCs fun b _ => h.heap hc hmb).trans hchn, hB0, hs⟩
theorem head_rel {ρ : Ren} {f f' : Frame} {o : Oper} (h : Head f o) (hf : FRel S ρ f f') : f'.mode = .run /\ ∃ ops i r k, f.todo = .inRegion ops (i :: r) :: k /\ f'.todo = .inRegion ops (i :: r) :: k /\ ops[i]? = some o /\ Region.wanted o (yielded ops f'.tmps) = true := by
 obtain ⟨h1, ops, i, r, k, h2, h3, h4⟩ := h
 exact ⟨hf.mode.trans h1, ops, i, r, k, h2, hf.todo.trans h2, h3, by rw [<- yielded_rel hf.tmps]; exact h4⟩
theorem map_rel {ρ : Ren} {f f' : Frame} (h : FRel S ρ f f') (hG : GlOk G ρ) (hS : ∀ f, Sb f = true -> S f) {as : Array Operand} (ha : as.all (okX G Sb) = true) : AsRel S ρ (as.map f.eval) (as.map f'.eval) :=
 ⟨by simp, fun i h1 h2 => by
  simp only [Array.getElem_map]
  exact h.eval hG hS _ (Array.all_eq_true_iff_forall_mem.1 ha _ (Array.getElem_mem _))⟩
theorem exec_enter {o : Oper} {f : FuncId} {as : Array Operand} {ats : Array TypeId} (hop : o.op = .call { callee := .value (.func f), args := as, argTypes := ats }) (hfn : ∃ fn c, P.funcs[f]? = some fn /\ fn.body = some c /\ (fn.name == "runtime.NumGoroutine") = false) (fr : Frame) (w : World) :
  (execOp fr.eval o).runT P w #[] = (.ok (.enter f (as.map fr.eval)) w, #[]) := by
 obtain ⟨fn, c, hf, hb, hn⟩ := hfn
 unfold execOp
 simp only [hop]
 unfold resolve
 show ((Deferred.ofValue (.func (.func f) #[] #[]) (as.map fr.eval) >>= fun d => invoke d.target d.args)).runT P w #[] = _
 show (callFunc f ((#[] ++ as.map fr.eval) ++ #[])).runT P w #[] = _
 rw [Array.empty_append, Array.append_empty]
 unfold callFunc
 simp only [program, bind, Sem.bind]
 unfold Sem.runT
 simp only [hf, hn, hb, Bool.false_eq_true, if_false, Option.isNone_some]
 rfl
theorem Inv.entered (hC : Ctx P S G Sb) (h : Inv P S G Sb B0 W C Γ ch fr cs v none gh gs w t D) {o : Oper} {f : FuncId} {as : Array Operand} {ats : Array TypeId} (ho : Head fr o) (hop : o.op = .call { callee := .value (.func f), args := as, argTypes := ats }) (ha : as.all (okX G Sb) = true)
  (hfn : ∃ fn c, P.funcs[f]? = some fn /\ fn.body = some c /\ (fn.name == "runtime.NumGoroutine") = false) :
  ∃ g g', gs[0]? = some g /\ stepG P true g w = .go g' w #[] /\ Inv P S G Sb B0 W C Γ ch (Frame.enter P f (as.map fr.eval) .normal) (fr :: cs) v none gh (gs.setIfInBounds 0 g') w t D := by
 have hl := h.len
 obtain ⟨fr', cs', hf, hcs, h0⟩ := h.main
 obtain ⟨hm, ops, i, r, k, hto, hto', hopi, hwt⟩ := head_rel ho hf
 have hst : stepG P true (Go.Conc.G fr' cs') w = .go (Go.Conc.G (Frame.enter P f (as.map fr'.eval) .normal) (fr' :: cs')) w #[] := by
  have h2 : (stepS P fr' cs').runT P w #[] = (.ok (Frame.enter P f (as.map fr'.eval) .normal, fr' :: cs') w, #[]) := by
   unfold stepS
   simp only [hm, hto', hopi, hwt, if_true]
   show Sem.runT P (Sem.bind _ _) w #[] = _
   rw [Sem.runT_bind', exec_enter hop hfn]
   rfl
  rw [stepG_of_S hf.tm h2, seen_none]
 have hlt0 : 0 < gs.size := by omega
 refine ⟨_, Go.Conc.G (Frame.enter P f (as.map fr'.eval) .normal) (fr' :: cs'), h0, hst, ?_⟩
 refine { h with main := ?_, bound := ?_, len := ?_, ghs := ?_ }
 ·exact ⟨_, _, .enter f .normal (by simp) (map_rel hf (h.mem.glob 0 (.inl rfl)) hC.sb ha), .cons hf hcs, by rw [Array.getElem?_setIfInBounds_self_of_lt hlt0]; rfl⟩
 ·intro e he
  rw [Array.size_setIfInBounds]
  exact h.bound e he
 ·rw [Array.size_setIfInBounds]; exact hl
 ·intro m y hy
  obtain ⟨g, h1, h2⟩ := h.ghs m y hy
  exact ⟨g, by rw [Array.getElem?_setIfInBounds_ne (by omega)]; exact h1, h2⟩
theorem Inv.made (h : Inv P S G Sb B0 W C [] ch fr cs v none gh gs w t D) {o : Oper} (ho : Head fr o)
  (hex : ∀ (f0 : Frame) w es, (execOp f0.eval o).runT P w es = (.ok (.value (.chan (some w.heap.size))) { w with heap := w.heap.push (.chan 3 #[] false 0 0 false) }, es)) :
  ∃ g g' D', gs[0]? = some g /\ stepG P true g w = .go g' { w with heap := w.heap.push (.chan 3 #[] false 0 0 false) } #[] /\
   Inv P S G Sb B0 W w.heap.size [] (some w.heap.size) (fr.finish (.chan (some w.heap.size))) cs v none gh (gs.setIfInBounds 0 g') { w with heap := w.heap.push (.chan 3 #[] false 0 0 false) } t D' := by
 have hl := h.len
 obtain ⟨fr', cs', hf, hcs, h0⟩ := h.main
 obtain ⟨hm, ops, i, r, k, hto, hto', hop, hwt⟩ := head_rel ho hf
 have hE : D.E = [] := List.map_eq_nil_iff.1 h.gam
 have hst : stepG P true (Go.Conc.G fr' cs') w = .go (Go.Conc.G (fr'.finish (.chan (some w.heap.size))) cs') { w with heap := w.heap.push (.chan 3 #[] false 0 0 false) } #[] := by
  have h2 : (stepS P fr' cs').runT P w #[] = (.ok (fr'.finish (.chan (some w.heap.size)), cs') { w with heap := w.heap.push (.chan 3 #[] false 0 0 false) }, #[]) := by
   unfold stepS
   simp only [hm, hto', hop, hwt, if_true]
   show Sem.runT P (Sem.bind _ _) w #[] = _
   rw [Sem.runT_bind', hex]
   rfl
  rw [stepG_of_S hf.tm h2, seen_none]
 have hlt0 : 0 < gs.size := by omega
 have notask : ∀ m y, gh[m]? = some y -> task y = none := fun m y hy => by
  cases ht : task y with
  | none => rfl
  | some Q => have := (h.run m y Q hy ht).1; rw [hE] at this; cases this
 have hsz : ({ w with heap := w.heap.push (.chan 3 #[] false 0 0 false) } : World).heap.size = w.heap.size + 1 := Array.size_push ..
 refine ⟨_, Go.Conc.G (fr'.finish (.chan (some w.heap.size))) cs', { D with pd := [], s := 0, r := 0 }, h0, hst, ?_⟩
 refine { v0 := h.v0, gam := h.gam, nod := h.nod, three := h.three, inv := h.inv, pnod := List.nodup_nil, opened := fun e => absurd hE e, only := fun c hc => by injection hc with hc; exact hc.symm, run := h.run, out := fun e he => (by have he : e ∈ D.E := he; rw [hE] at he; cases he), mem := ?_, tr := ?_, main := ?_, bound := ?_, len := ?_, ghs := ?_, pds := fun n p hp => by simp at hp, chan := fun _ => ⟨?_, ?_, rfl⟩ }
 ·refine h.mem.stir (by omega) (fun j b c hj hb => ?_) ⟨rfl, rfl, rfl, by omega, fun c hc => ?_⟩
  ·show (w.heap.push _)[c]? = _
   have := ((h.mem.rel j hj).dom b c hb).2
   rw [Array.getElem?_push, if_neg (by omega)]
  ·show (w.heap.push _)[c]? = _
   have := h.mem.top
   have := h.mem.base.size
   rw [Array.getElem?_push, if_neg (by omega)]
 ·have := h.tr.quietA (B' := w.heap.size + 1) (by omega) (u := #[]) fun y hy => by simp at hy
  rw [Array.append_empty] at this
  rw [hsz]
  exact this
 ·exact ⟨_, cs', hf.finish hto (.chan _), hcs, by rw [Array.getElem?_setIfInBounds_self_of_lt hlt0]; rfl⟩
 ·intro e he
  rw [Array.size_setIfInBounds]
  exact h.bound e he
 ·rw [Array.size_setIfInBounds]; exact hl
 ·intro m y hy
  obtain ⟨g, h1, h2⟩ := h.ghs m y hy
  refine ⟨g, by rw [Array.getElem?_setIfInBounds_ne (by omega)]; exact h1, ?_⟩
  have := notask m y hy
  cases y with
  | leav q => exact h2
  | start => cases this
  | work => cases this
 ·show (w.heap.push _)[w.heap.size]? = some (.chan 3 #[] false 0 0 false)
  rw [Array.getElem?_push, if_pos rfl]
 ·have := h.mem.top
  have := h.mem.base.size
  omega
theorem Inv.forked (hC : Ctx P S G Sb) (h : Inv P S G Sb B0 W C Γ ch fr cs v none gh gs w t D) (hch : ch = some C) {o : Oper} {x : Operand} {ats : Array TypeId} {f : FuncId} {caps : Array Value} {Q : Post} (ho : Head fr o) (hop : o.op = .go { callee := .value x, args := #[], argTypes := ats })
  (hx : okX G Sb x = true) (hev : fr.eval x = .func (.func f) #[] caps) (hfn : ∃ fn c, P.funcs[f]? = some fn /\ fn.body = some c /\ (fn.name == "runtime.NumGoroutine") = false) (hlen : Γ.length < 3) (hQ : InvQ S Q)
  (hT : T P (HD P G Sb) (AtSend P G Sb C Q) (Frame.enter P f caps .deferred) [] (shut v)) :
  ∃ g g' child gh' D', gs[0]? = some g /\ stepG P true g w = .spawn g' child w #[] /\
   Inv P S G Sb B0 W C (Γ ++ [Q]) ch (fr.finish undef) cs (shut v) none gh' ((gs.setIfInBounds 0 g').push child) w (t ++ ((MemOp.ofEvents 0 g.frame.fn g.frame.place #[]).push { g := 0, fn := g.frame.fn, pos := g.frame.place, act := .go gs.size } |>.push { g := gs.size, fn := child.frame.fn, pos := g.frame.place, act := .start })) D' := by
 have hl := h.len
 obtain ⟨fr', cs', hf, hcs, h0⟩ := h.main
 obtain ⟨hm, ops, i, r, k, hto, hto', hopi, hwt⟩ := head_rel ho hf
 have hv0 := h.v0
 subst hv0
 have hvf := hf.eval (h.mem.glob 0 (.inl rfl)) hC.sb x hx
 rw [hev] at hvf
 obtain ⟨caps', hev', hcaps⟩ : ∃ caps', fr'.eval x = .func (.func f) #[] caps' /\ AsRel S (D.V 0).ρ caps caps' := by
  generalize fr'.eval x = u at hvf
  cases hvf with
  | func _ _ bs _ ds h0 h1 h2 h3 h4 =>
   have : bs = #[] := Array.eq_empty_of_size_eq_zero h1.symm
   subst this
   exact ⟨ds, rfl, h3, h4⟩
 have hst : stepG P true (Go.Conc.G fr' cs') w = .spawn (Go.Conc.G (fr'.finish undef) cs') (born P { target := .fn (.func f) caps', args := #[] }) w #[] := by
  rw [oper_spawn (P := P) (main := true) (fr := fr') (cs := cs') (w := w) (w' := w) (es := #[]) (f := .func f) (c := caps') (as := #[]) hf.tm hm hto' hopi hwt (by
   unfold execOp
   simp only [hop]
   unfold resolve
   simp only [hev', Deferred.ofValue, Array.map_empty, Array.append_empty, List.map_toArray, List.map_nil]
   rfl), seen_none]
 have hlt0 : 0 < gs.size := by omega
 let j := gs.size
 have hAj : ¬ ActE D.E j := fun ⟨Q', hq⟩ => absurd (h.bound _ hq) (Nat.lt_irrefl _)
 let X : Vw := ⟨(D.V 0).v.heap.size, (D.V 0).ρ, shut (D.V 0).v⟩
 let V' : Nat -> Vw := fun k => if k = 0 ∨ k = j then X else D.V k
 have e0 : V' 0 = X := if_pos (.inl rfl)
 have ej : V' j = X := if_pos (.inr rfl)
 have ek : ∀ k, k ≠ 0 -> k ≠ j -> V' k = D.V k := fun k h1 h2 => if_neg fun e => e.elim h1 h2
 let pos' : Nat -> Option Nat := fun k => if k = j then none else D.pos k
 have pj : pos' j = none := if_pos rfl
 have pk : ∀ k, k ≠ j -> pos' k = D.pos k := fun k hk => if_neg hk
 have hact : ActE (D.E ++ [(j, Q)]) = fun k => ActE D.E k ∨ k = j := funext fun k => propext ⟨fun ⟨Q', hq⟩ => by
  rcases List.mem_append.1 hq with h | h
  ·exact .inl ⟨Q', h⟩
  ·have := List.mem_singleton.1 h
   injection this with h1 h2
   exact .inr h1, fun hk => by
  rcases hk with ⟨Q', hq⟩ | rfl
  ·exact ⟨Q', List.mem_append_left _ hq⟩
  ·exact ⟨Q, List.mem_append_right _ (List.mem_singleton.2 rfl)⟩⟩
 have hdom := h.mem.main.dom
 refine ⟨_, Go.Conc.G (fr'.finish undef) cs', born P { target := .fn (.func f) caps', args := #[] }, gh ++ [.start f caps (shut (D.V 0).v) Q], { D with V := V', E := D.E ++ [(j, Q)], pos := pos' }, h0, hst, ?_⟩
 have etr : ((MemOp.ofEvents 0 (Go.Conc.G fr' cs').frame.fn (Go.Conc.G fr' cs').frame.place #[]).push { g := 0, fn := (Go.Conc.G fr' cs').frame.fn, pos := (Go.Conc.G fr' cs').frame.place, act := .go gs.size } |>.push { g := gs.size, fn := (born P { target := .fn (.func f) caps', args := #[] }).frame.fn, pos := (Go.Conc.G fr' cs').frame.place, act := .start }) = #[{ g := 0, fn := (Go.Conc.G fr' cs').frame.fn, pos := (Go.Conc.G fr' cs').frame.place, act := .go gs.size }, { g := gs.size, fn := (born P { target := .fn (.func f) caps', args := #[] }).frame.fn, pos := (Go.Conc.G fr' cs').frame.place, act := .start }] := by
  rw [events_none]; rfl
 have h0' : gs[0]? = some (Go.Conc.G fr' cs') := h0
 show Inv P S G Sb B0 W C (Γ ++ [Q]) ch (fr.finish undef) cs (shut (D.V 0).v) none _ ((gs.setIfInBounds 0 (Go.Conc.G (fr'.finish undef) cs')).push (born P { target := .fn (.func f) caps', args := #[] })) w (t ++ ((MemOp.ofEvents 0 (Go.Conc.G fr' cs').frame.fn (Go.Conc.G fr' cs').frame.place #[]).push { g := 0, fn := (Go.Conc.G fr' cs').frame.fn, pos := (Go.Conc.G fr' cs').frame.place, act := .go gs.size } |>.push { g := gs.size, fn := (born P { target := .fn (.func f) caps', args := #[] }).frame.fn, pos := (Go.Conc.G fr' cs').frame.place, act := .start })) { D with V := V', E := D.E ++ [(j, Q)], pos := pos' }
 rw [etr]
 have gold : ∀ m, m ≠ 0 -> m < gs.size -> ((gs.setIfInBounds 0 (Go.Conc.G (fr'.finish undef) cs')).push (born P { target := .fn (.func f) caps', args := #[] }))[m]? = gs[m]? := fun m h1 h2 => by
  rw [Array.getElem?_push, Array.size_setIfInBounds, if_neg (by omega), Array.getElem?_setIfInBounds_ne (by omega)]
 have hmem := h.mem.fork (j := j) hlt0 hAj
 refine { v0 := by show (V' 0).v = _; rw [e0], gam := ?_, nod := ?_, three := ?_, inv := ?_, pnod := h.pnod, opened := fun _ => hch, only := h.only, mem := by rw [show ActE _ = _ from hact]; exact hmem, tr := ?_, main := ?_, bound := ?_, len := ?_, ghs := ?_, run := ?_, out := ?_, pds := ?_, chan := h.chan }
 ·rw [show ActE _ = _ from hact]
  refine h.tr.fork h.mem.sep (j := j) hlt0 hAj ⟨rfl, rfl⟩ ⟨rfl, rfl⟩ (fun k hk => pk k fun e => hAj (e ▸ hk)) (fun k hk c => ?_) (fun k hk0 hkj c => ?_) (fun c hc => ?_) fun c hc => ?_
  ·unfold rngV
   show (∃ b, (V' k).ρ b c) ↔ _
   by_cases hk0 : k = 0
   ·subst hk0; rw [e0]
   ·rw [ek k hk0 hk]
  ·unfold ownV
   show (∃ b, (V' k).N <= b /\ (V' k).ρ b c) ↔ _
   rw [ek k hk0 hkj]
  ·obtain ⟨b, hb⟩ := hc
   have hb : (V' j).ρ b c := hb
   rw [ej] at hb
   exact ⟨b, hb⟩
  ·obtain ⟨b, hN, hb⟩ := hc
   have hb : (V' j).ρ b c := hb
   have hN : (V' j).N <= b := hN
   rw [ej] at hb hN
   have h1 : b < (D.V 0).v.heap.size := (hdom b c hb).1
   exact absurd h1 (Nat.not_lt.2 hN)
 ·refine ⟨fr'.finish undef, cs', ?_, ?_, ?_⟩
  ·show FRel S (V' 0).ρ _ _
   rw [e0]
   exact hf.finish hto (.tuple _ _ rfl fun i h => by simp at h)
  ·show FsRel S (V' 0).ρ _ _
   rw [e0]; exact hcs
  ·rw [Array.getElem?_push, Array.size_setIfInBounds, if_neg (by omega), Array.getElem?_setIfInBounds_self_of_lt hlt0]; rfl
 ·show (D.E ++ [(j, Q)]).map Prod.snd = _
  rw [List.map_append, h.gam]; rfl
 ·show ((D.E ++ [(j, Q)]).map Prod.fst).Nodup
  rw [List.map_append, List.map_singleton, List.nodup_append]
  refine ⟨h.nod, by simp, fun a ha b hb => ?_⟩
  obtain ⟨e, he, rfl⟩ := List.mem_map.1 ha
  rw [List.mem_singleton.1 hb]
  exact Nat.ne_of_lt (h.bound e he)
 ·show (D.E ++ [(j, Q)]).length <= 3
  rw [<- h.gam, List.length_map] at hlen
  rw [List.length_append, List.length_singleton]
  omega
 ·intro e he
  rcases List.mem_append.1 he with he | he
  ·exact h.inv e he
  ·rw [List.mem_singleton.1 he]; exact hQ
 ·intro e he
  rw [Array.size_push, Array.size_setIfInBounds]
  rcases List.mem_append.1 he with he | he
  ·have := h.bound e he; omega
  ·rw [List.mem_singleton.1 he]; exact Nat.lt_succ_self _
 ·rw [Array.size_push, Array.size_setIfInBounds, List.length_append, List.length_singleton, hl]
 ·intro m y hy
  by_cases hm2 : m < gh.length
  ·rw [List.getElem?_append_left hm2] at hy
   obtain ⟨g, h1, h2⟩ := h.ghs m y hy
   refine ⟨g, by rw [gold _ (by omega) (by omega)]; exact h1, ?_⟩
   show GhI P S G Sb C (V' (m + 1)) _ _
   rw [ek _ (by omega) (by show m + 1 ≠ gs.size; omega)]
   exact h2
  ·rw [List.getElem?_append_right (by omega)] at hy
   have hm3 : m - gh.length = 0 := by
    have := (List.getElem?_eq_some_iff.1 hy).1
    simpa using this
   rw [hm3] at hy
   simp only [List.getElem?_cons_zero, Option.some.injEq] at hy
   subst hy
   have hmj : m + 1 = j := by show m + 1 = gs.size; omega
   refine ⟨born P { target := .fn (.func f) caps', args := #[] }, ?_, ?_⟩
   ·rw [Array.getElem?_push, Array.size_setIfInBounds, if_pos hmj]
   ·show GhI P S G Sb C (V' (m + 1)) _ _
    rw [hmj, ej]
    exact ⟨rfl, ⟨caps', hcaps, rfl⟩, hfn, hT⟩
 ·intro m y Q' hy hQ'
  by_cases hm2 : m < gh.length
  ·rw [List.getElem?_append_left hm2] at hy
   obtain ⟨h1, h2⟩ := h.run m y Q' hy hQ'
   exact ⟨List.mem_append_left _ h1, (pk (m + 1) (by show m + 1 ≠ gs.size; omega)).trans h2⟩
  ·rw [List.getElem?_append_right (by omega)] at hy
   have hm3 : m - gh.length = 0 := by
    have := (List.getElem?_eq_some_iff.1 hy).1
    simpa using this
   rw [hm3] at hy
   simp only [List.getElem?_cons_zero, Option.some.injEq] at hy
   subst hy
   have hQ' : some Q = some Q' := hQ'
   injection hQ' with hQ'
   subst hQ'
   have hmj : m + 1 = j := by show m + 1 = gs.size; omega
   rw [hmj]
   exact ⟨List.mem_append_right _ (List.mem_singleton.2 rfl), pj⟩
 ·intro e he
  rcases List.mem_append.1 he with he | he
  ·rcases h.out e he with ⟨y, h1, h2⟩ | h1
   ·exact .inl ⟨y, by rw [List.getElem?_append_left (gh_lt h1)]; exact h1, h2⟩
   ·exact .inr h1
  ·rw [List.mem_singleton.1 he]
   refine .inl ⟨.start f caps (shut (D.V 0).v) Q, ?_, rfl⟩
   show (gh ++ _)[gs.size - 1]? = _
   rw [List.getElem?_append_right (by omega), show gs.size - 1 - gh.length = 0 by omega]; rfl
 ·intro n p hp
  obtain ⟨⟨Q', h1, h1'⟩, h2, sp, op, h3, h4, h5⟩ := h.pds n p hp
  have hne : p.j ≠ 0 := by have := h.mem.pos p.j ⟨Q', h1⟩; omega
  have hnj : p.j ≠ j := Nat.ne_of_lt (h.bound _ h1)
  refine ⟨⟨Q', List.mem_append_left _ h1, ?_⟩, ?_, sp, op, (pk _ hnj).trans h3, by rw [getElem?_append_old (lt_size_of_getElem? h4)]; exact h4, h5⟩
  ·show Q' p.x (V' p.j).v
   rw [ek _ hne hnj]; exact h1'
  ·show VRel S (V' p.j).ρ p.x p.y
   rw [ek _ hne hnj]; exact h2
end
end
section
open Go Go.Conc Go.RowKit
def Ends (P : Program) (Post : Value -> World -> Prop) (m : Machine) (t : Trace) : Prop := ∃ n last o w' t', runNT P (n + 1) m t = (.ended o w', t') /\ runN P n m = .next last /\ step P last = .ended o w' /\ Good P Post last o w' t'
def Turn (P : Program) (Post : Value -> World -> Prop) (gs : Array Goroutine) (w : World) (t : Trace) : Prop :=
 ∀ sl, (∃ m' ops, runT P (crowd gs w sl) 0 = (.next m', ops) /\ Ends P Post m' (t ++ ops)) ∨ (∃ o w' ops, runT P (crowd gs w sl) 0 = (.ended o w', ops) /\ ∀ w0 sl0, Good P Post (crowd gs w0 sl0) o w' (t ++ ops))
section
variable {P : Program} {w' : World} {t : Trace} {PostQ : Value -> World -> Prop}
theorem Ends.next {m m' : Machine} {ops : Array MemOp} (hs : stepT P m = (.next m', ops)) (h : Ends P PostQ m' (t ++ ops)) : Ends P PostQ m t :=
 let ⟨n, last, o, w, t', h1, h2, h3, h4⟩ := h
 ⟨n + 1, last, o, w, t', by rw [runNT_succ_next hs]; exact h1, by rw [runN_succ_next hs]; exact h2, h3, h4⟩
theorem Ends.now {m : Machine} {o : Outcome} {ops : Array MemOp} (hs : stepT P m = (.ended o w', ops)) (h : Good P PostQ m o w' (t ++ ops)) : Ends P PostQ m t :=
 ⟨0, m, o, w', t ++ ops, by simp [runNT, hs], rfl, by simp [step, hs], h⟩
end
def LRec.obj (q : LRec) (ts : Array Value) : Loop := { state := q.st, pending := q.pend, fn := q.fn, tmps := ts, params := q.params, assign := q.assign, body := q.body, defers := q.r }
def LoopOk (S : FuncId -> Prop) (B0 : Nat) (ρ : Ren) : Option LRec -> World -> Prop
 | none, _ => True
 | some q, w => B0 <= q.l /\ B0 <= q.r /\ q.l ≠ q.r /\ (∃ ts, AsRel S ρ q.tmps ts /\ w.heap[q.l]? = some (.loop (q.obj ts))) /\ w.heap[q.r]? = some (.deferred (some [])) /\ (∀ b, ¬ ρ b q.l) /\ ∀ b, ¬ ρ b q.r
structure InvW (P : Program) (S : FuncId -> Prop) (G Sb : Nat -> Bool) (B0 : Nat) (W : World) (C : Nat) (ch : Option Nat) (fr : Frame) (cs : List Frame) (v : World) (Λ : Option LRec) (gh : List Gh) (gs : Array Goroutine) (w : World) (t : Trace) (D : Dat) : Prop where
 v0 : (D.V 0).v = v
 mem : Mem P S G B0 W w (ActE D.E) D.V
 tr : Tr (ActE D.E) D.pos (rngV D.V) (ownV D.V) w.heap.size t
 main : ∃ fr' cs', FRw S (D.V 0).ρ fr fr' /\ FsRw S (D.V 0).ρ cs cs' /\ gs[0]? = some (Go.Conc.G fr' cs')
 noE : D.E = []
 noP : D.pd = []
 len : gs.size = gh.length + 1
 ghs : ∀ i h, gh[i]? = some h -> ∃ q g, h = .leav q /\ gs[i + 1]? = some g /\ QuitsIn P q g
 only : ∀ c, ch = some c -> c = C
 chan : ch = some C -> w.heap[C]? = some (.chan 3 #[] false D.s D.r false) /\ B0 <= C /\ D.s = D.r
 loop : LoopOk S B0 (D.V 0).ρ Λ w
section
variable {P : Program} {S : FuncId -> Prop} {G Sb : Nat -> Bool} {B0 : Nat} {W w w' : World} {C : Nat} {ch : Option Nat} {fr : Frame} {cs : List Frame} {v : World} {Λ : Option LRec} {gh : List Gh} {gs : Array Goroutine} {t : Trace} {D : Dat} {ρ : Ren}
theorem Inv.toW (h : Inv P S G Sb B0 W C [] ch fr cs v none gh gs w t D) : InvW P S G Sb B0 W C ch fr cs v none gh gs w t D := by
 have hE : D.E = [] := List.map_eq_nil_iff.1 h.gam
 have hP : D.pd = [] := by
  cases hp : D.pd with
  | nil => rfl
  | cons p l =>
   obtain ⟨⟨Q, h1, _⟩, _⟩ := h.pds 0 p (by rw [hp]; rfl)
   rw [hE] at h1; cases h1
 obtain ⟨fr', cs', h1, h2, h3⟩ := h.main
 refine ⟨h.v0, h.mem, h.tr, ⟨fr', cs', h1.weak, h2.weak, h3⟩, hE, hP, h.len, fun i x hx => ?_, h.only, fun hc => ?_, trivial⟩
 ·obtain ⟨g, k1, k2⟩ := h.ghs i x hx
  cases x with
  | leav q => exact ⟨q, g, rfl, k1, k2⟩
  | start f caps v Q => have := (h.run i _ Q hx rfl).1; rw [hE] at this; cases this
  | work f c v Q => have := (h.run i _ Q hx rfl).1; rw [hE] at this; cases this
 ·obtain ⟨k1, k2, k3⟩ := h.chan hc
  rw [hP] at k1 k3
  exact ⟨k1, k2, by simpa using k3⟩
theorem InvW.toInv (h : InvW P S G Sb B0 W C ch fr cs v none gh gs w t D) (hs : Strict fr) (hcs : ∀ c ∈ cs, Strict c) : Inv P S G Sb B0 W C [] ch fr cs v none gh gs w t D := by
 have hE := h.noE
 have hP := h.noP
 obtain ⟨fr', cs', h1, h2, h3⟩ := h.main
 refine { v0 := h.v0, mem := h.mem, tr := h.tr, main := ⟨fr', cs', h1.strict hs, h2.strict hcs, h3⟩, gam := by rw [hE]; rfl, nod := by rw [hE]; exact List.nodup_nil, three := by rw [hE]; simp, inv := fun e he => (by rw [hE] at he; cases he), bound := fun e he => (by rw [hE] at he; cases he), len := h.len, ghs := fun i x hx => ?_, run := fun i x Q hx hQ => ?_, out := fun e he => (by rw [hE] at he; cases he), pds := fun n p hp => (by rw [hP] at hp; simp at hp), pnod := by rw [hP]; exact List.nodup_nil, opened := fun e => absurd hE e, only := h.only, chan := fun hc => ?_ }
 ·obtain ⟨q, g, rfl, k1, k2⟩ := h.ghs i x hx
  exact ⟨g, k1, k2⟩
 ·obtain ⟨q, g, rfl, k1, k2⟩ := h.ghs i x hx
  cases hQ
 ·obtain ⟨k1, k2, k3⟩ := h.chan hc
  rw [hP]
  exact ⟨k1, k2, by simpa using k3⟩
theorem InvW.noA (h : InvW P S G Sb B0 W C ch fr cs v Λ gh gs w t D) : ∀ j, ¬ ActE D.E j := fun j ⟨Q, hq⟩ => by rw [h.noE] at hq; cases hq
theorem InvW.one (h : InvW P S G Sb B0 W C ch fr cs v Λ gh gs w t D) {j : Nat} (hj : Mb (ActE D.E) j) : j = 0 := hj.resolve_right (h.noA j)
theorem InvW.at (h : InvW P S G Sb B0 W C ch fr cs v Λ gh gs w t D) (d : Nat) : InvW P S G Sb B0 W C ch fr cs v Λ gh gs (w.at d) t D := { h with mem := h.mem.at d, loop := by cases Λ <;> exact h.loop }
theorem InvW.calm (h : InvW P S G Sb B0 W C ch fr cs v Λ gh gs w t D) (j : Nat) (y : Goroutine) (hy : gs[j]? = some y) : y.status = .running ∨ y.status = .finished := by
 cases j with
 | zero =>
  obtain ⟨f0, c0, _, _, h3⟩ := h.main
  rw [hy] at h3
  injection h3 with h3
  subst h3
  exact .inl rfl
 | succ j =>
  have hlt := (Array.getElem?_eq_some_iff.1 hy).1
  have hl := h.len
  obtain ⟨q, g, _, h1, h2⟩ := h.ghs j gh[j] (List.getElem?_eq_getElem (by omega))
  rw [hy] at h1
  injection h1 with h1
  subst h1
  exact QuitsIn.status h2
theorem InvW.woken (h : InvW P S G Sb B0 W C ch fr cs v Λ gh gs w t D) (g g' : Goroutine) : gs.map (woken P g g' w') = gs := by
 apply Array.ext_getElem?
 intro j
 rw [Array.getElem?_map]
 cases hj : gs[j]? with
 | none => rfl
 | some y =>
  rw [Option.map_some]
  congr 1
  exact woken_calm (h.calm j y hj)
theorem InvW.acc (h : InvW P S G Sb B0 W C ch fr cs v Λ gh gs w t D) : Acc (LD (GhR P G Sb C)) gh := acc_list fun x hx => by
 obtain ⟨i, hi⟩ := List.mem_iff_getElem?.1 hx
 obtain ⟨q, g, rfl, _⟩ := h.ghs i x hi
 exact acc_leav q
theorem view_keepW {N0 : Nat} (hC : Ctx P S G Sb) {fr' : Frame} {cs' : List Frame} (ho : okHead P G Sb fr) (hw : WRel P S N0 ρ v w) (hG : GlOk G ρ) (hf : FRw S ρ fr fr') (hl : FsRw S ρ cs cs') {x : Frame × List Frame} {v' : World} (hr : (stepS P fr cs).run P v = .ok x v') :
  ∀ b, b < N0 -> v'.heap[b]? = v.heap[b]? := fun b hb => by
 have hfs : FRw S (selfR ρ) fr fr := ⟨rfl, hf.tmps.self, rfl, rfl, rfl, hf.early, rfl, rfl⟩
 have hls : ∀ {l l' : List Frame}, FsRw S ρ l l' -> FsRw S (selfR ρ) l l := fun h => by
  induction h with
  | nil => exact .nil
  | cons h _ ih => exact .cons ⟨rfl, h.tmps.self, rfl, rfl, rfl, h.early, rfl, rfl⟩ ih
 obtain ⟨ρ₂, y, w', evs, h1, h2, h3, h4, h5⟩ := Sim.stepW hC.zero (hC.fn N0) hG.self hC.sb ho hfs (hls hl) (selfR ρ) v v (Ext.refl _) hw.self x v' hr
 have := congrArg Prod.fst (h2 #[])
 rw [Sem.runT_eq] at this
 rw [show (stepS P fr cs).run P v = .ok y w' from this] at hr
 injection hr with e1 e2
 subst e1 e2
 exact h5.keep b (Nat.lt_of_lt_of_le hb hw.low) fun b' hb' hbb => by have := hbb.1; omega
theorem Selfw.of {N0 : Nat} {fr' : Frame} {cs' : List Frame} (hp : Plain v) (hw : WRel P S N0 ρ v w) (hG : GlOk G ρ) (hf : FRw S ρ fr fr') (hl : FsRw S ρ cs cs') : Selfw P S G fr cs v := by
 have hls : ∀ {l l' : List Frame}, FsRw S ρ l l' -> FsRw S (selfR ρ) l l := fun h => by
  induction h with
  | nil => exact .nil
  | cons h _ ih => exact .cons ⟨rfl, h.tmps.self, rfl, rfl, rfl, h.early, rfl, rfl⟩ ih
 exact ⟨hp, N0, selfR ρ, hw.self, hG.self, ⟨rfl, hf.tmps.self, rfl, rfl, rfl, hf.early, rfl, rfl⟩, hls hl⟩
theorem member_stepW (hC : Ctx P S G Sb) {N : Nat} {fr' : Frame} {cs' : List Frame} (hw : WRel P S N ρ v w) (hG : GlOk G ρ) (ho : okHead P G Sb fr) (ht : TmW fr) (hf : FRw S ρ fr fr') (hl : FsRw S ρ cs cs') (hp : Plain v) {x : Frame × List Frame} {v' : World}
  (hr : (stepS P fr cs).run P v = .ok x v') :
  ∃ ρ₂ y1 y2 w' evs, Ext ρ ρ₂ /\ stepG P true (Go.Conc.G fr' cs') w = .go (Go.Conc.G y1 y2) w' (seen P fr'.fn evs) /\ FRw S ρ₂ x.1 y1 /\ FsRw S ρ₂ x.2 y2 /\ WRel P S N ρ₂ v' w' /\ Guar N ρ ρ₂ w w' evs /\ Plain v' /\ (∀ b, b < N -> v'.heap[b]? = v.heap[b]?) := by
 obtain ⟨ρ₂, y, w', evs, h1, h2, h3, h4, h5⟩ := Sim.stepW hC.zero (hC.fn N) hG hC.sb ho hf hl ρ v w (Ext.refl _) hw _ v' hr
 have h2' := h2 #[]
 rw [Array.empty_append] at h2'
 obtain ⟨y1, y2⟩ := y
 refine ⟨ρ₂, y1, y2, w', evs, h1, ?_, h3.1, h3.2, h4, h5, ?_, view_keepW hC ho hw hG hf hl hr⟩
 ·refine stepG_of_W (by rw [hf.kind]; exact hf.early) ⟨fun e => ?_, fun e => ?_⟩ h2'
  ·rw [hf.defers]; exact ht.1 (hf.mode.symm.trans e)
  ·obtain ⟨k1, k2, k3⟩ := ht.2 (by rw [<- hf.round]; exact e)
   exact ⟨hf.mode.trans k1, by rw [hf.todo]; exact k2, by rw [hf.todo]; exact k3⟩
 ·have := fin_run (Fin.stepW hC ho (Selfw.of hp hw hG hf hl)) hp
  rw [hr] at this
  exact this
theorem LoopOk.mono {N : Nat} {ρ' : Ren} {es : Array Event} (h : LoopOk S B0 ρ Λ w) (he : Ext ρ ρ') (hG : Guar N ρ ρ' w w' es) : LoopOk S B0 ρ' Λ w' := by
 cases Λ with
 | none => trivial
 | some q =>
  obtain ⟨h1, h2, h0, ⟨ts, h3, h4⟩, h5, h6, h7⟩ := h
  have hl : q.l < w.heap.size := (Array.getElem?_eq_some_iff.1 h4).1
  have hr : q.r < w.heap.size := (Array.getElem?_eq_some_iff.1 h5).1
  refine ⟨h1, h2, h0, ⟨ts, h3.mono he, ?_⟩, ?_, fun b hb => ?_, fun b hb => ?_⟩
  ·rw [hG.keep _ hl fun b _ => h6 b]; exact h4
  ·rw [hG.keep _ hr fun b _ => h7 b]; exact h5
  ·have := (hG.fresh b _ hb (h6 b)).2; omega
  ·have := (hG.fresh b _ hb (h7 b)).2; omega
theorem InvW.notC (h : InvW P S G Sb B0 W C ch fr cs v Λ gh gs w t D) (hc : ch = some C) (b : Nat) : ¬ (D.V 0).ρ b C := fun hb => by
 have h0 := (h.chan hc).1
 rcases (h.mem.main).cell b C hb with ⟨_, ds, t, fr, fr', _, h2, _⟩ | ⟨_, y, l, _, h2, _⟩ | ⟨_, o', s, p, _, h2, h3, _⟩
 ·rw [h0] at h2; cases h2
 ·rw [h0] at h2; cases h2
 ·rw [h0] at h2
  injection h2 with h2
  rcases h3 with e | e <;> rw [e] at h2 <;> cases h2
theorem InvW.tame (hC : Ctx P S G Sb) (h : InvW P S G Sb B0 W C ch fr cs v Λ gh gs w t D) (hh : okHead P G Sb fr) (ht : TmW fr) {x : Frame × List Frame} {v' : World} (hr : (stepS P fr cs).run P (aT2 v w.tape w.drawn) = .ok x v') :
  ∃ g g' w' es D', gs[0]? = some g /\ stepG P true g w = .go g' w' es /\ InvW P S G Sb B0 W C ch x.1 x.2 v' Λ gh (gs.setIfInBounds 0 g') w' (t ++ MemOp.ofEvents 0 g.frame.fn g.frame.place es) D' := by
 have hl := h.len
 obtain ⟨fr', cs', hf, hcs, h0⟩ := h.main
 have hmb : Mb (ActE D.E) 0 := .inl rfl
 have hv0 := h.v0
 subst hv0
 have hw := h.mem.main
 have hpl : Plain (aT2 (D.V 0).v w.tape w.drawn) := h.mem.plain 0 hmb
 obtain ⟨ρ₂, y1, y2, w', evs, he, hst, hf2, hcs2, hw2, hG, hp2, hkeep⟩ := member_stepW hC hw (h.mem.glob 0 hmb) hh ht hf hcs hpl hr
 let V' : Nat -> Vw := fun j => if j = 0 then ⟨(D.V 0).N, ρ₂, v'⟩ else D.V j
 have eV1 : V' 0 = ⟨(D.V 0).N, ρ₂, v'⟩ := if_pos rfl
 have hmem := h.mem.step hmb he hw2 hG hp2 hkeep
 obtain ⟨hr1, hr2, hr3⟩ := h.mem.ranges hmb (v' := v') he hG
 have htr := h.tr.step h.mem.sep (g := 0) (.inl rfl) hG.size hr1 hr2 hr3 (u := MemOp.ofEvents 0 fr'.fn fr'.place (seen P fr'.fn evs)) fun op hop => by
  obtain ⟨e, hee, rfl⟩ := Go.Conc.mem_ofEvents hop
  have hO := opC_of_EvC hw2 (hG.evs e (mem_seen hee)) (not_extern hee)
  refine ⟨rfl, hO.1, hO.2.1, fun a ha => ?_⟩
  obtain ⟨c, k1, ⟨b, k2⟩, k3⟩ := hO.2.2 a ha
  refine ⟨c, k1, ⟨b, by show (V' 0).ρ b c; rw [eV1]; exact k2⟩, fun hwr => ?_⟩
  obtain ⟨b2, k4, k5⟩ := k3 hwr
  exact ⟨b2, by show (V' 0).N <= b2; rw [eV1]; exact k4, by show (V' 0).ρ b2 c; rw [eV1]; exact k5⟩
 have hlt0 : 0 < gs.size := by omega
 refine ⟨_, Go.Conc.G y1 y2, w', seen P fr'.fn evs, { D with V := V' }, h0, hst, ?_⟩
 refine { noE := h.noE, noP := h.noP, only := h.only, v0 := ?_, mem := hmem, tr := htr, main := ?_, len := ?_, ghs := ?_, chan := ?_, loop := ?_ }
 ·show (V' 0).v = v'
  rw [eV1]
 ·refine ⟨y1, y2, ?_, ?_, by rw [Array.getElem?_setIfInBounds_self_of_lt hlt0]⟩
  ·show FRw S (V' 0).ρ x.1 y1
   rw [eV1]; exact hf2
  ·show FsRw S (V' 0).ρ x.2 y2
   rw [eV1]; exact hcs2
 ·rw [Array.size_setIfInBounds]; exact hl
 ·intro m y hy
  obtain ⟨q, g, h1, h2, h3⟩ := h.ghs m y hy
  exact ⟨q, g, h1, by rw [Array.getElem?_setIfInBounds_ne (by omega)]; exact h2, h3⟩
 ·intro hc
  obtain ⟨hchn, hB0, hs⟩ := h.chan hc
  have hCs : C < w.heap.size := (Array.getElem?_eq_some_iff.1 hchn).1
  exact ⟨(hG.keep C hCs fun b _ => h.notC hc b).trans hchn, hB0, hs⟩
 ·show LoopOk S B0 (V' 0).ρ Λ w'
  rw [eV1]
  exact h.loop.mono he hG
theorem Tr.lone {Act : Nat -> Prop} {pos : Nat -> Option Nat} {rng own rng' own' : Nat -> Nat -> Prop} {B B' : Nat} (h : Tr Act pos rng own B t) (hA : ∀ j, ¬ Act j) (hB : B <= B') {u : Trace} (hu : ∀ op ∈ u, op.g = 0 /\ op.act.low B' /\ (∀ m, op.act = .mark m -> Neutral m)) : Tr Act pos rng' own' B' (t ++ u) := by
 refine ⟨h.word.append fun op hop m hm => (hu op hop).2.2 m hm, seen_app (fun op hop => MemAct.low_mono hB (h.low op hop)) fun op hop => (hu op hop).2.1, fun said => noRace_append (h.calm said) (fun op hop => (hu op hop).1) fun i a ha op hop b hb hc => ?_, fun i a c ha hc => ?_, fun j hj => absurd hj (hA j)⟩
 ·obtain ⟨c, h1, _⟩ := conflict_blk hc
  rcases h.main i a c ha h1 with hk | ⟨j, _, _, _, k3, _⟩
  ·exact hk
  ·exact absurd k3 (hA j)
 ·rcases touch_in ha with ⟨ha', hi⟩ | ⟨op, hop, hou, hx⟩
  ·rcases h.main i a c ha' hc with hk | ⟨j, _, _, _, k3, _⟩
   ·exact .inl (hk.app u)
   ·exact absurd k3 (hA j)
  ·have := knows_own hop
   rw [(hu op hou).1] at this
   exact .inl this
def EvO (B : Nat) (e : Event) : Prop := ∃ r wr, e = ⟨.obj r, wr, false⟩ /\ r < B
theorem InvW.ctl (h : InvW P S G Sb B0 W C ch fr cs v Λ gh gs w t D) {fr' : Frame} {cs' : List Frame} (h0 : gs[0]? = some (Go.Conc.G fr' cs')) {f2 f2' : Frame} {c2 c2' : List Frame} {es : Array Event} {Λ' : Option LRec}
  (hf : FRw S (D.V 0).ρ f2 f2') (hcs : FsRw S (D.V 0).ρ c2 c2') (hsz : w.heap.size <= w'.heap.size) (ho : w'.os = w.os) (htp : w'.tape = w.tape) (hou : w'.output = w.output)
  (hk : ∀ c, c < w.heap.size -> (∀ q, Λ = some q -> c ≠ q.l /\ c ≠ q.r) -> w'.heap[c]? = w.heap[c]?) (he : ∀ e ∈ es, EvO w'.heap.size e) (hl : LoopOk S B0 (D.V 0).ρ Λ' w') :
  InvW P S G Sb B0 W C ch f2 c2 v Λ' gh (gs.setIfInBounds 0 (Go.Conc.G f2' c2')) w' (t ++ MemOp.ofEvents 0 fr'.fn fr'.place es) D := by
 have hlen := h.len
 have hlt0 : 0 < gs.size := by omega
 have hlo := h.loop
 have inr : ∀ b c, (D.V 0).ρ b c -> w'.heap[c]? = w.heap[c]? := fun b c hb => by
  refine hk c ((h.mem.main).dom b c hb).2 fun q hq => ?_
  subst hq
  obtain ⟨_, _, _, _, _, h6, h7⟩ := hlo
  exact ⟨fun e => h6 b (e ▸ hb), fun e => h7 b (e ▸ hb)⟩
 refine { noE := h.noE, noP := h.noP, only := h.only, v0 := h.v0, mem := ?_, tr := ?_, main := ?_, len := ?_, ghs := ?_, chan := ?_, loop := hl }
 ·refine h.mem.stir hsz (fun j b c hj hb => ?_) ⟨ho, htp, hou, hsz, fun c hc => ?_⟩
  ·have := h.one hj
   subst this
   exact inr b c hb
  ·have := h.mem.top
   have := h.mem.base.size
   refine hk c (by omega) fun q hq => ?_
   subst hq
   obtain ⟨k1, k2, _⟩ := hlo
   exact ⟨by omega, by omega⟩
 ·refine h.tr.lone h.noA hsz fun op hop => ?_
  obtain ⟨e, hee, rfl⟩ := Go.Conc.mem_ofEvents hop
  obtain ⟨r, wr, rfl, hr⟩ := he e hee
  have e : MemAct.ofEvent ⟨.obj r, wr, false⟩ = .access ⟨.obj r, wr, false⟩ := by cases wr <;> rfl
  refine ⟨rfl, ?_, fun m hm => ?_⟩
  ·show (MemAct.ofEvent ⟨.obj r, wr, false⟩).low _
   rw [e]; exact hr
  ·have hm : MemAct.ofEvent ⟨.obj r, wr, false⟩ = .mark m := hm
   rw [e] at hm; cases hm
 ·exact ⟨f2', c2', hf, hcs, by rw [Array.getElem?_setIfInBounds_self_of_lt hlt0]⟩
 ·rw [Array.size_setIfInBounds]; exact hlen
 ·intro m y hy
  obtain ⟨q, g, h1, h2, h3⟩ := h.ghs m y hy
  exact ⟨q, g, h1, by rw [Array.getElem?_setIfInBounds_ne (by omega)]; exact h2, h3⟩
 ·intro hc
  obtain ⟨hchn, hB0, hs⟩ := h.chan hc
  refine ⟨?_, hB0, hs⟩
  rw [hk C (Array.getElem?_eq_some_iff.1 hchn).1 fun q hq => ?_]
  ·exact hchn
  ·subst hq
   obtain ⟨_, _, _, ⟨ts, _, h4⟩, h5, _, _⟩ := hlo
   refine ⟨fun e => ?_, fun e => ?_⟩
   ·rw [e, h4] at hchn; cases hchn
   ·rw [e, h5] at hchn; cases hchn
end
end
section
open Go Go.Conc Go.RowKit
section
variable {P : Program} {w : World} {l r : Nat}
theorem runT_getLoop {q : Loop} (h : w.heap[l]? = some (.loop q)) (es : Array Event) : (Instr.getLoop l).runT P w es = (.ok q w, es.push ⟨.obj l, false, false⟩) := by
 show Sem.runT P (Sem.bind (Go.getObj l) _) w es = _
 rw [Sem.runT_bind']
 simp only [Go.getObj, Sem.runT, h, Obj.isChan]
 rfl
theorem runT_setLoop {q q2 : Loop} (h : w.heap[l]? = some (.loop q)) (es : Array Event) : (Go.setObj l (.loop q2)).runT P w es = (.ok () { w with heap := w.heap.setIfInBounds l (.loop q2) }, es.push ⟨.obj l, true, false⟩) := by
 simp only [Go.setObj, Sem.runT, h, Obj.isChan]
theorem runT_yield {q : Loop} {args : Array Value} (h : w.heap[l]? = some (.loop q)) (hn : args.size = q.params.size) (es : Array Event) : (Instr.yield l args).runT P w es = (.ok (.round l q.fn (setPs q.params args q.tmps) q.assign q.body) w, es.push ⟨.obj l, false, false⟩) := by
 unfold Instr.yield
 show Sem.runT P (Sem.bind (Instr.getLoop l) _) w es = _
 rw [Sem.runT_bind', runT_getLoop h]
 simp only [hn, ne_eq, not_true_eq_false, if_false]
 rfl
theorem runT_begin {q : Loop} (h : w.heap[l]? = some (.loop q)) (hs : q.state = .ready) (es : Array Event) : (Instr.beginRound l).runT P w es = (.ok () { w with heap := w.heap.setIfInBounds l (.loop { q with state := .busy }) }, (es.push ⟨.obj l, false, false⟩).push ⟨.obj l, true, false⟩) := by
 unfold Instr.beginRound
 show Sem.runT P (Sem.bind (Instr.getLoop l) _) w es = _
 rw [Sem.runT_bind', runT_getLoop h]
 show Sem.runT P (Sem.bind (Go.setObj l _) _) w _ = _
 rw [Sem.runT_bind', runT_setLoop h]
 simp only [hs]
 rfl
theorem runT_endRound {q : Loop} (h : w.heap[l]? = some (.loop q)) (jump : Option Code) (es : Array Event) : (Instr.endRound l jump).runT P w es = (.ok (.bool jump.isNone) { w with heap := w.heap.setIfInBounds l (.loop { q with state := if jump.isNone then .ready else .done, pending := jump }) }, (es.push ⟨.obj l, false, false⟩).push ⟨.obj l, true, false⟩) := by
 unfold Instr.endRound
 show Sem.runT P (Sem.bind (Instr.getLoop l) _) w es = _
 rw [Sem.runT_bind', runT_getLoop h]
 show Sem.runT P (Sem.bind (Go.setObj l _) _) w _ = _
 rw [Sem.runT_bind', runT_setLoop h]
 rfl
theorem runT_endLoop {q : Loop} (h : w.heap[l]? = some (.loop q)) (hs : q.state ≠ .busy) (es : Array Event) : (Instr.endLoop l).runT P w es = (.ok q.pending { w with heap := w.heap.setIfInBounds l (.loop { q with state := .exhausted }) }, (es.push ⟨.obj l, false, false⟩).push ⟨.obj l, true, false⟩) := by
 unfold Instr.endLoop
 show Sem.runT P (Sem.bind (Instr.getLoop l) _) w es = _
 rw [Sem.runT_bind', runT_getLoop h]
 have hb : (q.state == LoopState.busy) = false := by simpa using hs
 simp only [hb, Bool.false_eq_true, if_false]
 show Sem.runT P (Sem.bind (Go.setObj l _) _) w _ = _
 rw [Sem.runT_bind', runT_setLoop h]
 rfl
theorem runT_take (h : w.heap[r]? = some (.deferred (some []))) (es : Array Event) : (Instr.takeDeferred r).runT P w es = (.ok [] { w with heap := w.heap.setIfInBounds r (.deferred none) }, (es.push ⟨.obj r, false, false⟩).push ⟨.obj r, true, false⟩) := by
 unfold Instr.takeDeferred
 show Sem.runT P (Sem.bind (Go.getObj r) _) w es = _
 rw [Sem.runT_bind']
 simp only [Go.getObj, Sem.runT, h, Obj.isChan]
 show Sem.runT P (Sem.bind (Go.setObj r _) _) w _ = _
 rw [Sem.runT_bind']
 simp only [Go.setObj, Sem.runT, h, Obj.isChan]
 rfl
theorem runT_enterF {f : FuncId} {ds args : Array Value} (hfn : ∃ fn c, P.funcs[f]? = some fn /\ fn.body = some c /\ (fn.name == "runtime.NumGoroutine") = false) (es : Array Event) : (invoke (.fn (.func f) ds) args).runT P w es = (.ok (.enter f (args ++ ds)) w, es) := by
 obtain ⟨fn, c, hf, hb, hn⟩ := hfn
 show (callFunc f (args ++ ds)).runT P w es = _
 unfold callFunc
 simp only [program, bind, Sem.bind]
 unfold Sem.runT
 simp only [hf, hn, hb, Bool.false_eq_true, if_false, Option.isNone_some]
 rfl
def put2 (w : World) (q : Loop) : World := { w with heap := (w.heap.push (.deferred (some []))).push (.loop q) }
theorem stepG_range {fr : Frame} {cs : List Frame} {x : Operand} {ps : Array Tmp} {asg body : Code} {k : List Item} {f : FuncId} {ds : Array Value} (hm : fr.mode = .run) (hs : Strict fr) (hke : fr.kind ≠ .early) (ht : fr.todo = .code (.rangeFunc x ps asg body) :: k) (hx : fr.eval x = .func (.func f) #[] ds)
  (hfn : ∃ fn c, P.funcs[f]? = some fn /\ fn.body = some c /\ (fn.name == "runtime.NumGoroutine") = false) :
  stepG P true (Go.Conc.G fr cs) w = .go (Go.Conc.G (Frame.enter P f (#[yl (w.heap.size + 1)] ++ ds) .normal) ({ fr with todo := .inRangeFunc (w.heap.size + 1) :: k, defers := col w.heap.size } :: cs)) (put2 w { state := .ready, pending := none, fn := fr.fn, tmps := fr.tmps, params := ps, assign := asg, body := body, defers := w.heap.size }) #[] := by
 obtain ⟨fn, tmps, todo, defers, mode, kind, roundOf⟩ := fr
 obtain ⟨h1, h2⟩ := hs
 simp only at h1 h2 hm ht hke
 subst h1 h2 hm ht
 have hk : (kind == CallKind.early) = false := by simpa using hke
 have he : (Instr.enterLoop fn tmps ps asg body none).runT P w #[] = (.ok (w.heap.size + 1, col w.heap.size) (put2 w { state := .ready, pending := none, fn := fn, tmps := tmps, params := ps, assign := asg, body := body, defers := w.heap.size }), #[]) := by
  show (Result.ok ((w.heap.push (Obj.deferred (some []))).size, _) _, _) = _
  rw [Array.size_push]
  rfl
 have hx' : (Frame.eval ⟨fn, tmps, .inRangeFunc (w.heap.size + 1) :: k, col w.heap.size ++ [], .run, kind, none⟩ x) = .func (.func f) #[] ds := by
  rw [<- hx]
  cases x <;> rfl
 have hc : ((resolve (Frame.eval ⟨fn, tmps, .inRangeFunc (w.heap.size + 1) :: k, col w.heap.size ++ [], .run, kind, none⟩) { callee := .value x, args := #[.const (.func (.yield (w.heap.size + 1)) #[] #[])], argTypes := #[] } 0 >>= fun d => invoke d.target d.args) : Sem Next).runT P (put2 w { state := .ready, pending := none, fn := fn, tmps := tmps, params := ps, assign := asg, body := body, defers := w.heap.size }) #[] = (.ok (.enter f (#[yl (w.heap.size + 1)] ++ ds)) (put2 w { state := .ready, pending := none, fn := fn, tmps := tmps, params := ps, assign := asg, body := body, defers := w.heap.size }), #[]) := by
  unfold resolve
  simp only [hx', Deferred.ofValue]
  show Sem.runT P (invoke (.fn (.func f) ds) (#[] ++ Array.map _ #[Operand.const (Value.func (Fn.yield (w.heap.size + 1)) #[] #[])])) _ #[] = _
  rw [runT_enterF hfn, Array.empty_append]
  simp only [List.map_toArray, List.map_cons, List.map_nil]
  rfl
 unfold Go.Conc.G stepG
 simp only [stepG.exec, he, seen_none, stepG.apply, hc, hk]
 simp [GStep.after]
 rfl
theorem stepG_yield {fr : Frame} {cs : List Frame} {o : Oper} {x : Operand} {as : Array Operand} {ats : Array TypeId} {q : Loop} (hke : fr.kind ≠ .early) (ho : Head fr o) (hop : o.op = .call { callee := .value x, args := as, argTypes := ats }) (hx : fr.eval x = yl l) (h : w.heap[l]? = some (.loop q)) (hn : as.size = q.params.size) :
  stepG P true (Go.Conc.G fr cs) w = .go (Go.Conc.G (Frame.round l q.fn (setPs q.params (as.map fr.eval) q.tmps) q.assign q.body .normal) (fr :: cs)) w (seen P fr.fn #[⟨.obj l, false, false⟩]) := by
 obtain ⟨hm, ops, i, rst, k, ht, hoi, hw⟩ := ho
 have hr : (execOp fr.eval o).runT P w #[] = (.ok (.round l q.fn (setPs q.params (as.map fr.eval) q.tmps) q.assign q.body) w, #[⟨.obj l, false, false⟩]) := by
  unfold execOp
  simp only [hop]
  unfold resolve
  simp only [hx, yl, Deferred.ofValue]
  show Sem.runT P (Instr.yield l (#[] ++ as.map fr.eval)) w #[] = _
  rw [Array.empty_append, runT_yield h (by simpa using hn)]
  rfl
 have hop2 : fr.oper? = some o := by unfold Frame.oper?; rw [ht]; exact hoi
 have hnd : ∀ l c, fr.roundOf = some l -> o.op ≠ .defer c := fun l c _ e => by rw [hop] at e; cases e
 have hst : stepG P true (Go.Conc.G fr cs) w = stepG.apply P true fr cs none (execOp fr.eval o) w := by
  rw [<- oper_apply hop2 hnd]
  obtain ⟨fn, tmps, todo, defers, mode, kind, roundOf⟩ := fr
  simp only at hm ht hw
  subst hm ht
  simp only [Go.Conc.G, stepG, stepG.exec, hoi, Option.map_some, hw, Option.getD_some, if_true]
 have hk : (fr.kind == CallKind.early) = false := by simpa using hke
 rw [hst]
 simp only [stepG.apply, hr, hk]
 simp [GStep.after]
 rfl
theorem stepG_beg {fr : Frame} {cs : List Frame} {k : List Item} {q : Loop} (hke : fr.kind ≠ .early) (hm : fr.mode = .run) (ht : fr.todo = .beginRound :: k) (hr : fr.roundOf = some l) (h : w.heap[l]? = some (.loop q)) (hs : q.state = .ready) :
  stepG P true (Go.Conc.G fr cs) w = .go (Go.Conc.G { fr with todo := k } cs) { w with heap := w.heap.setIfInBounds l (.loop { q with state := .busy }) } (seen P fr.fn #[⟨.obj l, false, false⟩, ⟨.obj l, true, false⟩]) := by
 obtain ⟨fn, tmps, todo, defers, mode, kind, roundOf⟩ := fr
 simp only at hm ht hr hke
 subst hm ht hr
 have hk : (kind == CallKind.early) = false := by simpa using hke
 have hb : ((do Option.elim (some l) (stuck "beginRound: no round") Instr.beginRound; pure .skip : Sem Next)).runT P w #[] = (.ok .skip { w with heap := w.heap.setIfInBounds l (.loop { q with state := .busy }) }, #[⟨.obj l, false, false⟩, ⟨.obj l, true, false⟩]) := by
  show Sem.runT P (Sem.bind (Instr.beginRound l) _) w #[] = _
  rw [Sem.runT_bind', runT_begin h hs]
  rfl
 unfold Go.Conc.G stepG
 simp only [stepG.exec, stepG.apply, hb, hk]
 simp [GStep.after, Frame.finish]
theorem stepG_endr {fr c : Frame} {cs : List Frame} {jump : Option Code} {q : Loop} (hm : fr.mode = .run) (hk : fr.kind = .normal) (hr : fr.roundOf = some l) (ht : (fr.todo = [] /\ jump = none) ∨ ∃ k, fr.todo = .code .ret :: k /\ jump = some .ret) (h : w.heap[l]? = some (.loop q)) :
  stepG P true (Go.Conc.G fr (c :: cs)) w = .go (Go.Conc.G (c.finish (.bool jump.isNone)) cs) { w with heap := w.heap.setIfInBounds l (.loop { q with state := if jump.isNone then .ready else .done, pending := jump }) } (seen P fr.fn #[⟨.obj l, false, false⟩, ⟨.obj l, true, false⟩]) := by
 obtain ⟨fn, tmps, todo, defers, mode, kind, roundOf⟩ := fr
 simp only at hm ht hr hk
 subst hm hr hk
 have he := runT_endRound (P := P) h jump #[]
 rcases ht with ⟨rfl, rfl⟩ | ⟨k, rfl, rfl⟩
 ·unfold Go.Conc.G stepG
  simp only [stepG.exec, he, doReturn]
  simp [GStep.after]
 ·unfold Go.Conc.G stepG
  simp only [stepG.exec, he, doReturn]
  simp [GStep.after]
theorem stepG_retL {fr c : Frame} {cs : List Frame} {k : List Item} {fn : Func} (hm : fr.mode = .returning) (hs : Strict fr) (hk : fr.kind = .normal) (hf : P.funcs[fr.fn]? = some fn) (hr : fn.results = #[]) (hc : c.todo = .inRangeFunc l :: k) :
  stepG P true (Go.Conc.G fr (c :: cs)) w = .go (Go.Conc.G { c with todo := .endRangeFunc l :: k } cs) w #[] := by
 obtain ⟨fn', tmps, todo, defers, mode, kind, roundOf⟩ := fr
 obtain ⟨h1, h2⟩ := hs
 simp only at h1 h2 hm hk hf
 subst h1 h2 hm hk
 have hres : (results fn tmps).runT P w #[] = (.ok (.tuple #[]) w, #[]) := by
  unfold results
  rw [hr, Array.mapM_eq_mapM_toList]
  rfl
 have hfin : ∀ u, c.finish u = { c with todo := .endRangeFunc l :: k } := fun u => by unfold Frame.finish; rw [hc]
 unfold Go.Conc.G stepG
 simp only [unwind, hf, hres, doReturn, hfin, seen_none]
 simp [GStep.after]
theorem stepG_endl {fr : Frame} {cs : List Frame} {k : List Item} {q : Loop} (hm : fr.mode = .run) (ht : fr.todo = .endRangeFunc l :: k) (h : w.heap[l]? = some (.loop q)) (hs : q.state ≠ .busy) :
  stepG P true (Go.Conc.G fr cs) w = .go (Go.Conc.G { fr with todo := (q.pending.map Item.code).toList ++ k } cs) { w with heap := w.heap.setIfInBounds l (.loop { q with state := .exhausted }) } (seen P fr.fn #[⟨.obj l, false, false⟩, ⟨.obj l, true, false⟩]) := by
 obtain ⟨fn, tmps, todo, defers, mode, kind, roundOf⟩ := fr
 simp only at hm ht
 subst hm ht
 have he := runT_endLoop (P := P) h hs #[]
 unfold Go.Conc.G stepG
 simp only [stepG.exec, he]
 simp [GStep.after]
theorem stepG_take {fr : Frame} {cs : List Frame} (hm : fr.mode = .returning) (hd : fr.defers = col r) (h : w.heap[r]? = some (.deferred (some []))) :
  stepG P true (Go.Conc.G fr cs) w = .go (Go.Conc.G { fr with defers := [] } cs) { w with heap := w.heap.setIfInBounds r (.deferred none) } (seen P fr.fn #[⟨.obj r, false, false⟩, ⟨.obj r, true, false⟩]) := by
 obtain ⟨fn, tmps, todo, defers, mode, kind, roundOf⟩ := fr
 simp only at hm hd
 subst hm hd
 have he := runT_take (P := P) h #[]
 unfold Go.Conc.G stepG
 simp only [unwind, col, he]
 simp [GStep.after]
end
end
section
open Go Go.Conc Go.RowKit
section
variable {P : Program} {S : FuncId -> Prop} {G Sb : Nat -> Bool} {B0 : Nat} {W w w' : World} {C : Nat} {ch : Option Nat} {fr : Frame} {cs : List Frame} {v : World} {Λ : Option LRec} {gh : List Gh} {gs : Array Goroutine} {t : Trace} {D : Dat} {ρ : Ren} {PostQ : Value -> World -> Prop}
theorem setPs_rel {ps : Array Tmp} {as bs ts us : Array Value} (h : AsRel S ρ as bs) (k : AsRel S ρ ts us) : AsRel S ρ (setPs ps as ts) (setPs ps bs us) := by
 have key : ∀ (l : List Tmp) (xs ys : List Value) (ts us : Array Value), LsRel S ρ xs ys -> AsRel S ρ ts us -> AsRel S ρ ((l.zip xs).foldl (fun tmps (ta : Tmp × Value) => tmps.setIfInBounds ta.1 ta.2) ts) ((l.zip ys).foldl (fun tmps (ta : Tmp × Value) => tmps.setIfInBounds ta.1 ta.2) us) := by
  intro l
  induction l with
  | nil => intro xs ys ts us _ h; exact h
  | cons a l ih =>
   intro xs ys ts us hx h
   cases hx with
   | nil => exact h
   | cons h1 h2 => exact ih _ _ _ _ h2 (h.set a h1)
 have hl : LsRel S ρ as.toList bs.toList := by
  obtain ⟨as⟩ := as
  obtain ⟨bs⟩ := bs
  obtain ⟨h1, h2⟩ := h
  simp only at h1 h2 ⊢
  clear k
  induction as generalizing bs with
  | nil =>
   cases bs with
   | nil => exact .nil
   | cons b bs => simp at h1
  | cons a as ih =>
   cases bs with
   | nil => simp at h1
   | cons b bs =>
    refine .cons (h2 0 (by simp) (by simp)) (ih bs (by simpa using h1) fun i k1 k2 => ?_)
    have := h2 (i + 1) (by simpa using k1) (by simpa using k2)
    simpa using this
 have := key ps.toList as.toList bs.toList ts us hl k
 unfold setPs
 rw [<- Array.foldl_toList, <- Array.foldl_toList, Array.toList_zip, Array.toList_zip]
 exact this
theorem InvW.walk (K : ∀ gh gs w t D, InvW P S G Sb B0 W C ch fr cs v Λ gh gs w t D -> Turn P PostQ gs w t) :
  ∀ {gh : List Gh}, Acc (LD (GhR P G Sb C)) gh -> ∀ gs w sl t D, InvW P S G Sb B0 W C ch fr cs v Λ gh gs w t D -> Ends P PostQ (crowd gs w sl) t := by
 intro gh hacc
 induction hacc with
 | intro gh _ ih =>
  intro gs w sl t D h
  obtain ⟨f0, c0, hf0, hc0, h0⟩ := h.main
  have haw : ∀ g ∈ gs, awake g := by
   intro g hg
   obtain ⟨i, hi, rfl⟩ := Array.mem_iff_getElem.1 hg
   exact awake_of ((h.calm i _ (Array.getElem?_eq_getElem hi)).elim .inl fun x => .inr (.inr x))
  obtain ⟨i, g, d, sl', hi, hg, hst⟩ := crowd_pick (P := P) (w := w) (sl := sl) haw ⟨0, _, h0, rfl⟩
  have hd := h.at d
  cases i with
  | zero =>
   rcases K gh gs (w.at d) t D hd sl' with ⟨m', ops, h1, h2⟩ | ⟨o, w', ops, h1, h2⟩
   ·exact Ends.next (hst.trans h1) h2
   ·exact Ends.now (hst.trans h1) (h2 w sl)
  | succ k =>
   have hlt := (Array.getElem?_eq_some_iff.1 hi).1
   have hl := h.len
   have hk : gh[k]? = some gh[k] := List.getElem?_eq_getElem (by omega)
   obtain ⟨q, g1, e1, hg1, hq⟩ := hd.ghs k _ hk
   rw [hi] at hg1
   injection hg1 with hg1
   subst hg1
   cases q with
   | zero =>
    have hq : g.status = .finished := hq
    rw [hg] at hq; cases hq
   | succ q =>
    rcases hq with hf | ⟨_, g', hstp, hq'⟩
    ·rw [hg] at hf; cases hf
    have hi0 : (k + 1 == 0) = false := rfl
    have hrun := runT_crowd_go (P := P) (sl := sl') (i := k + 1) hi (by rw [hi0]; exact hstp (w.at d))
    rw [hd.woken, events_none] at hrun
    refine Ends.next (hst.trans hrun) ?_
    rw [Array.append_empty]
    refine ih (gh.set k (.leav q)) (ld_set hk (by rw [e1]; exact .leav q)) _ _ _ _ D ?_
    refine { hd with main := ?_, len := ?_, ghs := ?_ }
    ·exact ⟨f0, c0, hf0, hc0, by rw [Array.getElem?_setIfInBounds_ne (by omega)]; exact h0⟩
    ·rw [Array.size_setIfInBounds, List.length_set]; exact hl
    ·intro m y hy
     rcases gh_set hy with ⟨rfl, rfl⟩ | ⟨hne, hy'⟩
     ·exact ⟨q, g', rfl, Array.getElem?_setIfInBounds_self_of_lt hlt, hq'⟩
     ·obtain ⟨q2, g2, k1, k2, k3⟩ := hd.ghs m y hy'
      exact ⟨q2, g2, k1, by rw [Array.getElem?_setIfInBounds_ne (by omega)]; exact k2, k3⟩
theorem InvW.turn (h : InvW P S G Sb B0 W C ch fr cs v Λ gh gs w t D) {g g' : Goroutine} {es : Array Event} (h0 : gs[0]? = some g) (hst : stepG P true g w = .go g' w' es) (hn : ∀ sl, Ends P PostQ (crowd (gs.setIfInBounds 0 g') w' sl) (t ++ MemOp.ofEvents 0 g.frame.fn g.frame.place es)) : Turn P PostQ gs w t := fun sl => by
 refine .inl ⟨_, _, runT_crowd_go h0 hst, ?_⟩
 rw [h.woken]
 exact hn sl
theorem evO_two {B l : Nat} {fn : FuncId} (hl : l < B) : ∀ e ∈ seen P fn #[⟨.obj l, false, false⟩, ⟨.obj l, true, false⟩], EvO B e := fun e he => by
 have := mem_seen he
 simp only [List.mem_toArray, List.mem_cons, List.not_mem_nil, or_false] at this
 rcases this with rfl | rfl
 ·exact ⟨l, _, rfl, hl⟩
 ·exact ⟨l, _, rfl, hl⟩
theorem evO_one {B l : Nat} {fn : FuncId} (hl : l < B) : ∀ e ∈ seen P fn #[⟨.obj l, false, false⟩], EvO B e := fun e he => by
 have := mem_seen he
 simp only [List.mem_toArray, List.mem_cons, List.not_mem_nil, or_false] at this
 subst this
 exact ⟨l, _, rfl, hl⟩
theorem loop_set {q q2 : LRec} (h : LoopOk S B0 ρ (some q) w) (hl : q2.l = q.l) (hr : q2.r = q.r) (ht : q2.tmps = q.tmps) {ts : Array Value} (hts : AsRel S ρ q.tmps ts) : LoopOk S B0 ρ (some q2) { w with heap := w.heap.setIfInBounds q.l (.loop (q2.obj ts)) } := by
 obtain ⟨h1, h2, h0, ⟨us, h3, h4⟩, h5, h6, h7⟩ := h
 have hlt : q.l < w.heap.size := (Array.getElem?_eq_some_iff.1 h4).1
 refine ⟨by rw [hl]; exact h1, by rw [hr]; exact h2, by rw [hl, hr]; exact h0, ⟨ts, by rw [ht]; exact hts, ?_⟩, ?_, by rw [hl]; exact h6, by rw [hr]; exact h7⟩
 ·rw [hl]
  show (w.heap.setIfInBounds q.l _)[q.l]? = _
  exact Array.getElem?_setIfInBounds_self_of_lt hlt
 ·rw [hr]
  show (w.heap.setIfInBounds q.l _)[q.r]? = _
  rw [Array.getElem?_setIfInBounds_ne h0]
  exact h5
theorem heap_keep {l : Nat} {o : Obj} : ∀ c, c < w.heap.size -> c ≠ l -> ({ w with heap := w.heap.setIfInBounds l o } : World).heap[c]? = w.heap[c]? := fun c _ hc => by
 show (w.heap.setIfInBounds l o)[c]? = _
 rw [Array.getElem?_setIfInBounds_ne (Ne.symm hc)]
theorem heap_set_size {l : Nat} {o : Obj} : ({ w with heap := w.heap.setIfInBounds l o } : World).heap.size = w.heap.size := Array.size_setIfInBounds ..
theorem InvW.self (h : InvW P S G Sb B0 W C ch fr cs v Λ gh gs w t D) : Selfw P S G fr cs v := by
 obtain ⟨fr', cs', hf, hcs, h0⟩ := h.main
 have hv0 := h.v0
 subst hv0
 have hpl : Plain (aT2 (D.V 0).v w.tape w.drawn) := h.mem.plain 0 (.inl rfl)
 exact (Selfw.of hpl h.mem.main (h.mem.glob 0 (.inl rfl)) hf hcs).of_at2
theorem fRw_todo {f f' : Frame} (h : FRw S ρ f f') (t : List Item) : FRw S ρ { f with todo := t } { f' with todo := t } := ⟨h.fn, h.tmps, rfl, h.mode, h.kind, h.early, h.defers, h.round⟩
theorem head_relw {f f' : Frame} {o : Oper} (h : Head f o) (hf : FRw S ρ f f') : Head f' o := by
 obtain ⟨h1, ops, i, r, k, h2, h3, h4⟩ := h
 exact ⟨hf.mode.trans h1, ops, i, r, k, hf.todo.trans h2, h3, by rw [<- yielded_rel hf.tmps]; exact h4⟩
theorem machineL (hC : Ctx P S G Sb) {K : Sit} (hK : ∀ fr cs v, K fr cs v -> ∀ gh gs w sl t D, Inv P S G Sb B0 W C [] ch fr cs v none gh gs w t D -> Ends P PostQ (crowd gs w sl) t) (hL : L P S G Sb K Λ fr cs v) :
  ∀ gh gs w sl t D, InvW P S G Sb B0 W C ch fr cs v Λ gh gs w t D -> Ends P PostQ (crowd gs w sl) t := by
 induction hL with
 | out fr cs v h1 h2 h3 => exact fun gh gs w sl t D h => hK _ _ _ h3 _ _ _ _ _ _ (h.toInv h1 h2)
 | step Λ fr cs v hh ht hex hk ih =>
  intro gh gs w sl t D h
  refine InvW.walk (fun gh gs w t D h => ?_) h.acc _ _ _ _ _ h
  obtain ⟨x, v', hr⟩ := hex w.tape w.drawn
  obtain ⟨g, g', w', es, D', h0, hst, hI⟩ := h.tame hC hh ht hr
  exact h.turn h0 hst fun sl => ih _ _ x v' hr _ _ _ _ _ D' hI
 | range fr cs v x ps asg body k f caps hm hs hto hx hev hfn hk ih =>
  intro gh gs w sl t D h
  refine InvW.walk (fun gh gs w t D h => ?_) h.acc _ _ _ _ _ h
  obtain ⟨fr', cs', hf, hcs, h0⟩ := h.main
  have hvf := hf.eval (h.mem.glob 0 (.inl rfl)) hC.sb x hx
  rw [hev] at hvf
  obtain ⟨ds, hev', hds⟩ : ∃ ds, fr'.eval x = .func (.func f) #[] ds /\ AsRel S (D.V 0).ρ caps ds := by
   generalize fr'.eval x = u at hvf
   cases hvf with
   | func _ _ bs _ ds h0 h1 h2 h3 h4 =>
    have : bs = #[] := Array.eq_empty_of_size_eq_zero h1.symm
    subst this
    exact ⟨ds, rfl, h3, h4⟩
  have hst := stepG_range (P := P) (w := w) (cs := cs') (hf.mode.trans hm) ⟨hf.defers.trans hs.1, hf.round.trans hs.2⟩ (by rw [hf.kind]; exact hf.early) (hf.todo.trans hto) hev' hfn
  have hdom := (h.mem.main).dom
  have htop := h.mem.top
  have hbs := h.mem.base.size
  have hargs : AsRel S (D.V 0).ρ (#[yl (w.heap.size + 1)] ++ caps) (#[yl (w.heap.size + 1)] ++ ds) := (AsRel.single (.yield _)).append hds
  have hcf : FRw S (D.V 0).ρ { fr with todo := .inRangeFunc (w.heap.size + 1) :: k, defers := col w.heap.size } { fr' with todo := .inRangeFunc (w.heap.size + 1) :: k, defers := col w.heap.size } := ⟨hf.fn, hf.tmps, rfl, hf.mode, hf.kind, hf.early, rfl, hf.round⟩
  have hI : InvW P S G Sb B0 W C ch (Frame.enter P f (#[yl (w.heap.size + 1)] ++ caps) .normal) ({ fr with todo := .inRangeFunc (w.heap.size + 1) :: k, defers := col w.heap.size } :: cs) v (some ⟨fr.fn, fr.tmps, ps, asg, body, w.heap.size + 1, w.heap.size, .ready, none⟩) gh _ _ _ D := h.ctl (w' := put2 w { state := .ready, pending := none, fn := fr'.fn, tmps := fr'.tmps, params := ps, assign := asg, body := body, defers := w.heap.size }) h0 (.enter f .normal (by simp) hargs) (.cons hcf hcs) (by show w.heap.size <= ((w.heap.push _).push _).size; rw [Array.size_push, Array.size_push]; omega) rfl rfl rfl (fun c hc _ => by
    show ((w.heap.push _).push _)[c]? = _
    rw [Array.getElem?_push, Array.size_push, if_neg (by omega), Array.getElem?_push, if_neg (by omega)]) (fun e he => by simp at he) ⟨by show B0 <= w.heap.size + 1; omega, by show B0 <= w.heap.size; omega, by show w.heap.size + 1 ≠ w.heap.size; omega, ⟨fr'.tmps, hf.tmps, by
     show ((w.heap.push _).push _)[w.heap.size + 1]? = _
     rw [Array.getElem?_push, Array.size_push, if_pos rfl]
     show some (Obj.loop { state := .ready, pending := none, fn := fr'.fn, tmps := fr'.tmps, params := ps, assign := asg, body := body, defers := w.heap.size }) = _
     rw [hf.fn]; rfl⟩, by
     show ((w.heap.push _).push _)[w.heap.size]? = _
     rw [Array.getElem?_push, Array.size_push, if_neg (by omega), Array.getElem?_push, if_pos rfl], fun b hb => (by have := (hdom b _ hb).2; simp only at this; omega), fun b hb => (by have := (hdom b _ hb).2; simp only at this; omega)⟩ (es := #[])
  exact h.turn h0 hst fun sl => ih _ _ hI.self _ _ _ _ _ D hI
 | yield q fr cs v o x as ats ho hop hx has hev hn hk ih =>
  intro gh gs w sl t D h
  refine InvW.walk (fun gh gs w t D h => ?_) h.acc _ _ _ _ _ h
  obtain ⟨fr', cs', hf, hcs, h0⟩ := h.main
  have hglob := h.mem.glob 0 (.inl rfl)
  have hvf := hf.eval hglob hC.sb x hx
  rw [hev] at hvf
  have hev' : fr'.eval x = yl q.l := by
   generalize fr'.eval x = u at hvf
   cases hvf
   rfl
  obtain ⟨k1, k2, k0, ⟨ts, k3, k4⟩, k5, k6, k7⟩ := h.loop
  have hst := stepG_yield (P := P) (w := w) (cs := cs') (by rw [hf.kind]; exact hf.early) (head_relw ho hf) hop hev' k4 hn
  have hmap : AsRel S (D.V 0).ρ (as.map fr.eval) (as.map fr'.eval) := ⟨by simp, fun i h1 h2 => by
   simp only [Array.getElem_map]
   exact hf.eval hglob hC.sb _ (Array.all_eq_true_iff_forall_mem.1 has _ (Array.getElem_mem _))⟩
  have hI : InvW P S G Sb B0 W C ch (Frame.round q.l q.fn (setPs q.params (as.map fr.eval) q.tmps) q.assign q.body .normal) (fr :: cs) v (some q) gh _ _ _ D := h.ctl (w' := w) (es := seen P fr'.fn #[⟨.obj q.l, false, false⟩]) h0 (f2' := Frame.round q.l q.fn (setPs q.params (as.map fr'.eval) ts) q.assign q.body .normal) ⟨rfl, setPs_rel hmap k3, rfl, rfl, rfl, (show CallKind.normal ≠ CallKind.early by simp), rfl, rfl⟩ (.cons hf hcs) (Nat.le_refl _) rfl rfl rfl (fun _ _ _ => rfl) (evO_one (Array.getElem?_eq_some_iff.1 k4).1) h.loop
  exact h.turn h0 hst fun sl => ih hI.self _ _ _ _ _ D hI
 | beg q fr cs v k hm hto hro hrd hk ih =>
  intro gh gs w sl t D h
  refine InvW.walk (fun gh gs w t D h => ?_) h.acc _ _ _ _ _ h
  obtain ⟨fr', cs', hf, hcs, h0⟩ := h.main
  have hlo := h.loop
  obtain ⟨k1, k2, k0, ⟨ts, k3, k4⟩, k5, k6, k7⟩ := h.loop
  have hlt := (Array.getElem?_eq_some_iff.1 k4).1
  have hst := stepG_beg (P := P) (w := w) (cs := cs') (by rw [hf.kind]; exact hf.early) (hf.mode.trans hm) (hf.todo.trans hto) (hf.round.trans hro) k4 hrd
  have hI : InvW P S G Sb B0 W C ch { fr with todo := k } cs v (some { q with st := .busy }) gh _ _ _ D := h.ctl (w' := { w with heap := w.heap.setIfInBounds q.l (.loop (({ q with st := .busy } : LRec).obj ts)) }) (es := seen P fr'.fn #[⟨.obj q.l, false, false⟩, ⟨.obj q.l, true, false⟩]) h0 (fRw_todo hf k) hcs (by rw [heap_set_size]; exact Nat.le_refl _) rfl rfl rfl (fun c hc hne => heap_keep c hc (hne q rfl).1) (evO_two (by rw [heap_set_size]; exact hlt)) (loop_set (q2 := { q with st := .busy }) hlo rfl rfl rfl k3)
  exact h.turn h0 hst fun sl => ih hI.self _ _ _ _ _ D hI
 | endr q fr c cs v jump hm hki hro hto hct hk ih =>
  intro gh gs w sl t D h
  refine InvW.walk (fun gh gs w t D h => ?_) h.acc _ _ _ _ _ h
  obtain ⟨fr', cs', hf, hcs, h0⟩ := h.main
  cases hcs with
  | @cons _ c' _ cs' hc hcs =>
  have hlo := h.loop
  obtain ⟨k1, k2, k0, ⟨ts, k3, k4⟩, k5, k6, k7⟩ := h.loop
  have hlt := (Array.getElem?_eq_some_iff.1 k4).1
  have hst := stepG_endr (P := P) (w := w) (cs := cs') (c := c') (jump := jump) (hf.mode.trans hm) (hf.kind.trans hki) (hf.round.trans hro) (by rw [hf.todo]; exact hto) k4
  obtain ⟨ops, i, r, kk, hct⟩ := hct
  have hI : InvW P S G Sb B0 W C ch (c.finish (.bool jump.isNone)) cs v (some { q with st := if jump.isNone then .ready else .done, pend := jump }) gh _ _ _ D := h.ctl (w' := { w with heap := w.heap.setIfInBounds q.l (.loop (({ q with st := if jump.isNone then .ready else .done, pend := jump } : LRec).obj ts)) }) (es := seen P fr'.fn #[⟨.obj q.l, false, false⟩, ⟨.obj q.l, true, false⟩]) h0 (hc.finish hct (.bool _)) hcs (by rw [heap_set_size]; exact Nat.le_refl _) rfl rfl rfl (fun c hc hne => heap_keep c hc (hne q rfl).1) (evO_two (by rw [heap_set_size]; exact hlt)) (loop_set (q2 := { q with st := if jump.isNone then .ready else .done, pend := jump }) hlo rfl rfl rfl k3)
  exact h.turn h0 hst fun sl => ih hI.self _ _ _ _ _ D hI
 | ret q fr c cs v k fn l hm hs hki hfn hres hct hk ih =>
  intro gh gs w sl t D h
  refine InvW.walk (fun gh gs w t D h => ?_) h.acc _ _ _ _ _ h
  obtain ⟨fr', cs', hf, hcs, h0⟩ := h.main
  cases hcs with
  | @cons _ c' _ cs' hc hcs =>
  have hst := stepG_retL (P := P) (w := w) (cs := cs') (c := c') (hf.mode.trans hm) ⟨hf.defers.trans hs.1, hf.round.trans hs.2⟩ (hf.kind.trans hki) (by rw [hf.fn]; exact hfn) hres (hc.todo.trans hct)
  have hI : InvW P S G Sb B0 W C ch { c with todo := .endRangeFunc l :: k } cs v (some q) gh _ _ _ D := h.ctl (w' := w) h0 (fRw_todo hc _) hcs (Nat.le_refl _) rfl rfl rfl (fun _ _ _ => rfl) (fun e he => by simp at he) h.loop (es := #[])
  exact h.turn h0 hst fun sl => ih hI.self _ _ _ _ _ D hI
 | endl q fr cs v k hm hto hnb hk ih =>
  intro gh gs w sl t D h
  refine InvW.walk (fun gh gs w t D h => ?_) h.acc _ _ _ _ _ h
  obtain ⟨fr', cs', hf, hcs, h0⟩ := h.main
  have hlo := h.loop
  obtain ⟨k1, k2, k0, ⟨ts, k3, k4⟩, k5, k6, k7⟩ := h.loop
  have hlt := (Array.getElem?_eq_some_iff.1 k4).1
  have hst := stepG_endl (P := P) (w := w) (cs := cs') (hf.mode.trans hm) (hf.todo.trans hto) k4 hnb
  have hI : InvW P S G Sb B0 W C ch { fr with todo := (q.pend.map Item.code).toList ++ k } cs v (some { q with st := .exhausted }) gh _ _ _ D := h.ctl (w' := { w with heap := w.heap.setIfInBounds q.l (.loop (({ q with st := .exhausted } : LRec).obj ts)) }) (es := seen P fr'.fn #[⟨.obj q.l, false, false⟩, ⟨.obj q.l, true, false⟩]) h0 (fRw_todo hf _) hcs (by rw [heap_set_size]; exact Nat.le_refl _) rfl rfl rfl (fun c hc hne => heap_keep c hc (hne q rfl).1) (evO_two (by rw [heap_set_size]; exact hlt)) (loop_set (q2 := { q with st := .exhausted }) hlo rfl rfl rfl k3)
  exact h.turn h0 hst fun sl => ih hI.self _ _ _ _ _ D hI
 | take q fr cs v hm hd hk ih =>
  intro gh gs w sl t D h
  refine InvW.walk (fun gh gs w t D h => ?_) h.acc _ _ _ _ _ h
  obtain ⟨fr', cs', hf, hcs, h0⟩ := h.main
  obtain ⟨k1, k2, k0, ⟨ts, k3, k4⟩, k5, k6, k7⟩ := h.loop
  have hlt := (Array.getElem?_eq_some_iff.1 k5).1
  have hst := stepG_take (P := P) (w := w) (cs := cs') (hf.mode.trans hm) (hf.defers.trans hd) k5
  have hI : InvW P S G Sb B0 W C ch { fr with defers := [] } cs v none gh _ _ _ D := h.ctl (w' := { w with heap := w.heap.setIfInBounds q.r (.deferred none) }) (es := seen P fr'.fn #[⟨.obj q.r, false, false⟩, ⟨.obj q.r, true, false⟩]) h0 (f2' := { fr' with defers := [] }) ⟨hf.fn, hf.tmps, hf.todo, hf.mode, hf.kind, hf.early, rfl, hf.round⟩ hcs (by rw [heap_set_size]; exact Nat.le_refl _) rfl rfl rfl (fun c hc hne => heap_keep c hc (hne q rfl).2) (evO_two (by rw [heap_set_size]; exact hlt)) trivial
  exact h.turn h0 hst fun sl => ih hI.self _ _ _ _ _ D hI
end
end
section
open Go Go.Conc Go.RowKit
section
variable {P : Program} {S : FuncId -> Prop} {G Sb : Nat -> Bool} {B0 : Nat} {W w w' : World} {C : Nat} {Γ : List Post} {ch : Option Nat} {fr : Frame} {cs : List Frame} {v : World} {park : Option Value} {gh : List Gh} {gs : Array Goroutine} {t : Trace} {D : Dat} {PostQ : Value -> World -> Prop}
theorem Inv.acc (h : Inv P S G Sb B0 W C Γ ch fr cs v park gh gs w t D) : Acc (LD (GhR P G Sb C)) gh := acc_list fun x hx => by
 obtain ⟨i, hi⟩ := List.mem_iff_getElem?.1 hx
 obtain ⟨g, _, hI⟩ := h.ghs i x hi
 cases x with
 | leav q => exact acc_leav q
 | start f caps v Q => exact acc_start hI.2.2.2
 | work f1 c1 v1 Q => exact acc_work hI.2.2
theorem Inv.walk (hC : Ctx P S G Sb) (hpk : ∀ z, park = some z -> ch = some C /\ HasTodo fr /\ Γ ≠ []) (K : park = none -> ∀ gh gs w t D, Inv P S G Sb B0 W C Γ ch fr cs v park gh gs w t D -> Turn P PostQ gs w t)
  (KT : park ≠ none -> ∀ gs w t sl, Took P S G Sb B0 W C Γ ch fr cs v gs w t -> Ends P PostQ (crowd gs w sl) t) :
  ∀ {gh : List Gh}, Acc (LD (GhR P G Sb C)) gh -> ∀ gs w sl t D, Inv P S G Sb B0 W C Γ ch fr cs v park gh gs w t D -> (∀ z, park = some z -> D.pd = []) -> Ends P PostQ (crowd gs w sl) t := by
 intro gh hacc
 induction hacc with
 | intro gh _ ih =>
  intro gs w sl t D h hpd
  obtain ⟨f0, c0, hf0, hc0, h0⟩ := h.main
  have haw : ∀ g ∈ gs, awake g := by
   intro g hg
   obtain ⟨i, hi, rfl⟩ := Array.mem_iff_getElem.1 hg
   have he : gs[i]? = some gs[i] := Array.getElem?_eq_getElem hi
   cases i with
   | zero =>
    rw [he] at h0
    injection h0 with h0
    rw [h0]
    cases park with
    | none => exact awake_of (.inl rfl)
    | some z => exact awake_of (.inr (.inl rfl))
   | succ i => exact awake_of ((h.status he).elim .inl fun x => .inr (.inr x))
  have some1 : ∃ (i : Nat) (g : Goroutine), gs[i]? = some g /\ g.status = .running := by
   cases hp : park with
   | none => rw [hp] at h0; exact ⟨0, _, h0, rfl⟩
   | some z =>
    obtain ⟨_, _, hne⟩ := hpk z hp
    have hE : D.E ≠ [] := fun e => hne (by rw [<- h.gam, e]; rfl)
    obtain ⟨e, he⟩ := List.exists_mem_of_ne_nil _ hE
    rcases h.out e he with ⟨x, h1, h2⟩ | ⟨p, h1, _⟩
    ·obtain ⟨g, hg, hI⟩ := h.ghs _ x h1
     refine ⟨_, g, hg, ?_⟩
     cases x with
     | leav q => cases h2
     | start f caps v Q => obtain ⟨_, ⟨caps', _, rfl⟩, _⟩ := hI; rfl
     | work fr cs v Q => obtain ⟨_, ⟨fr', cs', _, _, rfl⟩, _⟩ := hI; rfl
    ·rw [hpd z hp] at h1; cases h1
  obtain ⟨i, g, d, sl', hi, hg, hst⟩ := crowd_pick (P := P) (w := w) (sl := sl) haw some1
  have hd := h.at d
  cases i with
  | zero =>
   have hp : park = none := by
    cases hp : park with
    | none => rfl
    | some z =>
     rw [hp, hi] at h0
     injection h0 with h0
     rw [h0] at hg
     cases hg
   rcases K hp gh gs (w.at d) t D hd sl' with ⟨m', ops, h1, h2⟩ | ⟨o, w', ops, h1, h2⟩
   ·exact Ends.next (hst.trans h1) h2
   ·exact Ends.now (hst.trans h1) (h2 w sl)
  | succ k =>
   obtain ⟨gs', w', ops, h1, h2⟩ := hd.other hC (fun z hz => ⟨(hpk z hz).1, hpd z hz, (hpk z hz).2.1⟩) hi hg sl'
   refine Ends.next (hst.trans h1) ?_
   rcases h2 with ⟨gh', D', h3, h4, h5⟩ | ⟨h3, h4⟩
   ·exact ih gh' h3 gs' w' sl' _ D' h4 h5
   ·exact KT h3 gs' w' _ sl' h4
theorem Inv.calm (h : Inv P S G Sb B0 W C Γ ch fr cs v none gh gs w t D) (j : Nat) (y : Goroutine) (hy : gs[j]? = some y) : y.status = .running ∨ y.status = .finished := by
 cases j with
 | zero =>
  obtain ⟨f0, c0, _, _, h3⟩ := h.main
  rw [hy] at h3
  injection h3 with h3
  subst h3
  exact .inl rfl
 | succ j => exact h.status hy
theorem Inv.recv (hC : Ctx P S G Sb) (h : Inv P S G Sb B0 W C Γ ch fr cs v none gh gs w t D) (hch : ch = some C) (hne : Γ ≠ []) {o : Oper} {x : Operand} {z : Value} (ho : Head fr o) (hx : okX G Sb x = true) (hev : fr.eval x = .chan (some C))
  (hex : ∀ (ev : Operand -> Value) w es, ev x = .chan (some C) -> (execOp ev o).runT P w es = (.ok (.comm #[rcase C z] true (.recv false)) w, es))
  (K : ∀ gs w t sl, Took P S G Sb B0 W C Γ ch fr cs v gs w t -> Ends P PostQ (crowd gs w sl) t) : Turn P PostQ gs w t := by
 intro sl
 left
 have hl := h.len
 have hlt0 : 0 < gs.size := by omega
 obtain ⟨fr', cs', hf, hcs, h0⟩ := h.main
 have h0 : gs[0]? = some (Go.Conc.G fr' cs') := h0
 obtain ⟨hm, ops, i, r, k, hto, hto', hop, hwt⟩ := head_rel ho hf
 obtain ⟨hchn, hB0, hs⟩ := h.chan hch
 have hCs : C < w.heap.size := (Array.getElem?_eq_some_iff.1 hchn).1
 have hev' : fr'.eval x = .chan (some C) := by
  have hvc := hf.eval (h.mem.glob 0 (.inl rfl)) hC.sb x hx
  rw [hev] at hvc
  generalize fr'.eval x = u at hvc
  cases hvc
  rfl
 have hst : stepG P (0 == 0) (Go.Conc.G fr' cs') w = .comm (Go.Conc.G fr' cs') #[rcase C z] true (.recv false) w #[] := by
  rw [oper_comm (P := P) (main := (0 == 0)) (fr := fr') (cs := cs') (w := w) (w' := w) (es := #[]) hf.tm hm hto' hop hwt (hex _ w #[] hev'), seen_none]
 have hparts : partners (gs.setIfInBounds 0 ph) C true = [] := Go.Conc.partners_nil fun j y hy => by
  refine offersAt_of_not_blocked ?_ _ _
  rcases getElem?_stand gs 0 j y hy with ⟨_, rfl⟩ | ⟨_, hy⟩
  ·simp [ph]
  ·rcases h.calm j y hy with e | e <;> rw [e] <;> simp
 cases hpd : D.pd with
 | nil =>
  rw [hpd] at hchn
  have hstep := crowd_waits (sl := sl) h0 hst fun cc hcc => by
   have : cc = rcase C z := by simpa using hcc
   subst this
   exact ways_recv_none hchn hparts
  refine ⟨_, _, hstep, ?_⟩
  rw [events_none, Array.append_empty]
  have hI : Inv P S G Sb B0 W C Γ ch fr cs v (some z) gh (gs.setIfInBounds 0 (parked (Go.Conc.G fr' cs') #[rcase C z] (.recv false))) w t D := by
   refine { h with main := ?_, bound := ?_, len := ?_, ghs := ?_ }
   ·exact ⟨fr', cs', hf, hcs, by rw [Array.getElem?_setIfInBounds_self_of_lt hlt0]; rfl⟩
   ·intro e he
    rw [Array.size_setIfInBounds]
    exact h.bound e he
   ·rw [Array.size_setIfInBounds]; exact hl
   ·intro m y hy
    obtain ⟨g, h1, h2⟩ := h.ghs m y hy
    exact ⟨g, by rw [Array.getElem?_setIfInBounds_ne (by omega)]; exact h1, h2⟩
  exact Inv.walk hC (fun z hz => ⟨hch, ⟨ops, i, r, k, hto⟩, hne⟩) (fun e => by cases e) (fun _ => K) hI.acc _ _ _ _ _ hI fun z hz => hpd
 | cons p rest =>
  have hstep := crowd_recv_buf (sl := sl) h0 hst hchn (by rw [hpd]; simp) hparts
  rw [finishComm_recv, events_none, Array.empty_append] at hstep
  have e1 : (D.pd.map Pd.y).toArray.getD 0 undef = p.y := by rw [hpd]; simp
  have e2 : (D.pd.map Pd.y).toArray.extract 1 (D.pd.map Pd.y).toArray.size = (rest.map Pd.y).toArray := by
   rw [hpd]
   simp
   exact List.take_of_length_le (by simp)
  rw [e1, e2] at hstep
  refine ⟨_, _, hstep, ?_⟩
  have hI : Inv P S G Sb B0 W C Γ ch fr cs v none gh gs w (t ++ #[{ g := 0, fn := fr'.fn, pos := fr'.place, act := .recv C D.r 3 }, { g := 0, fn := fr'.fn, pos := fr'.place, act := .recvDone C D.r }]) D := by
   refine { h with tr := ?_, pds := ?_ }
   ·exact h.tr.quietA (Nat.le_refl _) fun y hy => by
     rcases mem2 hy with rfl | rfl <;> exact ⟨rfl, hCs, fun m hm => by cases hm⟩
   ·intro n p hp
    obtain ⟨h1, h2, sp, op, h3, h4, h5⟩ := h.pds n p hp
    exact ⟨h1, h2, sp, op, h3, by rw [getElem?_append_old (lt_size_of_getElem? h4)]; exact h4, h5⟩
  obtain ⟨Γ1, Q1, Γ2, v', x', D2, k1, k2, k3, k4, k5, k6⟩ := hI.took hpd (f' := fr') (c' := cs') h0 hto (pp := t.size + 1) (z := { g := 0, fn := fr'.fn, pos := fr'.place, act := .recvDone C D.r })
   (by rw [Array.getElem?_append_right (by omega), show t.size + 1 - t.size = 1 by omega]; rfl) rfl rfl
  exact K _ _ _ _ ⟨Γ1, Q1, Γ2, v', x', gh, D2, k1, k2, k3, k4, k6⟩
theorem Inv.fin (hC : Ctx P S G Sb) (h : Inv P S G Sb B0 W C [] ch fr [] v none gh gs w t D) {F : Value -> Prop} {x : Value} (hF : ∀ ρ x y, VRel S ρ x y -> F x -> F y) (hlv : fr.leaving P (aT2 v w.tape w.drawn) (.returned x)) (hin : P.inits.idxOf? fr.fn = none) (hFx : F x) :
  Turn P (fun y w' => F y /\ Below B0 W w') gs w t := by
 intro sl
 right
 have hl := h.len
 have hE : D.E = [] := List.map_eq_nil_iff.1 h.gam
 have hA : ∀ j, ¬ ActE D.E j := fun j ⟨Q, hq⟩ => by rw [hE] at hq; cases hq
 obtain ⟨fr', cs', hf, hcs, h0⟩ := h.main
 have h0 : gs[0]? = some (Go.Conc.G fr' cs') := h0
 cases hcs
 have hmb : Mb (ActE D.E) 0 := .inl rfl
 have hv0 := h.v0
 subst hv0
 have hw := h.mem.main
 have hpl : Plain (aT2 (D.V 0).v w.tape w.drawn) := h.mem.plain 0 hmb
 obtain ⟨hm, hd, hk, fn, hfn, hr⟩ := hlv
 obtain ⟨ρ₂, y, w', evs, he, hrt, hxy, hw2, hG⟩ := Sim.results (P := P) (S := S) (N0 := (D.V 0).N) fn hf.tmps (D.V 0).ρ _ w (Ext.refl _) hw x _ hr
 have hrt := hrt #[]
 rw [Array.empty_append] at hrt
 have hst : stepG P (0 == 0) (Go.Conc.G fr' []) w = .ended (.done y) w' (seen P fr'.fn evs) := by
  have hfn' := hf.fn
  have htd := hf.todo
  have hmd := hf.mode
  have hkd := hf.kind
  have hdf := hf.defers'
  obtain ⟨fn', tmps', todo', defers', mode', kind', roundOf'⟩ := fr'
  simp only at *
  subst hfn' hmd hkd hdf
  simp only [Go.Conc.G, stepG, hm, unwind, hfn, hrt, doReturn, hk, hin, GStep.after]
  simp
 have hmem := h.mem.step hmb he hw2 hG hpl (fun b _ => rfl)
 obtain ⟨hr1, hr2, hr3⟩ := h.mem.ranges hmb (v' := aT2 (D.V 0).v w.tape w.drawn) he hG
 have htr := h.tr.step h.mem.sep (g := 0) (.inl rfl) hG.size hr1 hr2 hr3 (u := MemOp.ofEvents 0 fr'.fn fr'.place (seen P fr'.fn evs)) fun op hop => by
  obtain ⟨e, hee, rfl⟩ := Go.Conc.mem_ofEvents hop
  have hO := opC_of_EvC hw2 (hG.evs e (mem_seen hee)) (not_extern hee)
  refine ⟨rfl, hO.1, hO.2.1, fun a ha => ?_⟩
  obtain ⟨c, k1, ⟨b, k2⟩, k3⟩ := hO.2.2 a ha
  refine ⟨c, k1, ⟨b, k2⟩, fun hwr => ?_⟩
  obtain ⟨b2, k4, k5⟩ := k3 hwr
  exact ⟨b2, k4, k5⟩
 refine ⟨_, _, _, runT_many_ended h0 hst, fun w0 sl0 => ⟨y, rfl, ⟨hF _ _ _ hxy hFx, hmem.base⟩, htr.calm, htr.over hA, ⟨fun g hg => ?_, rfl⟩, fun j g hg hj => ?_⟩⟩
 ·obtain ⟨j, hj⟩ := List.mem_iff_getElem?.1 hg
  rw [List.getElem?_drop] at hj
  have hj : gs[j + 1]? = some g := by rw [Nat.add_comm]; simpa [crowd] using hj
  have hlt := (Array.getElem?_eq_some_iff.1 hj).1
  obtain ⟨g', h1, h2⟩ := h.ghs j gh[j] (List.getElem?_eq_getElem (by omega))
  rw [hj] at h1
  injection h1 with h1
  subst h1
  cases hh : gh[j] with
  | leav q => rw [hh] at h2; exact ⟨_, (QuitsD.of_quitsIn h2).leaves⟩
  | start f caps v Q => exact absurd (h.run j _ Q (List.getElem?_eq_getElem (by omega)) (by rw [hh]; rfl)).1 (by rw [hE]; simp)
  | work f1 c1 v1 Q => exact absurd (h.run j _ Q (List.getElem?_eq_getElem (by omega)) (by rw [hh]; rfl)).1 (by rw [hE]; simp)
 ·obtain ⟨m, rfl⟩ : ∃ m, j = m + 1 := ⟨j - 1, by omega⟩
  have hj : gs[m + 1]? = some g := hg
  have hlt := (Array.getElem?_eq_some_iff.1 hj).1
  obtain ⟨g', h1, h2⟩ := h.ghs m gh[m] (List.getElem?_eq_getElem (by omega))
  rw [hj] at h1
  injection h1 with h1
  subst h1
  cases hh : gh[m] with
  | leav q =>
   rw [hh] at h2
   refine ⟨q, ?_⟩
   have e := htr.word.deaf (m + 1) (t ++ MemOp.ofEvents 0 fr'.fn fr'.place (seen P fr'.fn evs)).size
   show Goroutine.endsWith P _ q g ((t ++ MemOp.ofEvents 0 fr'.fn fr'.place (seen P fr'.fn evs)).deaf (m + 1) (t ++ MemOp.ofEvents 0 fr'.fn fr'.place (seen P fr'.fn evs)).size) = some 0
   rw [e]
   exact (QuitsD.of_quitsIn h2).hears _
  | start f caps v Q => exact absurd (h.run m _ Q (List.getElem?_eq_getElem (by omega)) (by rw [hh]; rfl)).1 (by rw [hE]; simp)
  | work f1 c1 v1 Q => exact absurd (h.run m _ Q (List.getElem?_eq_getElem (by omega)) (by rw [hh]; rfl)).1 (by rw [hE]; simp)
theorem machine (hC : Ctx P S G Sb) {F : Value -> Prop} (hF : ∀ ρ x y, VRel S ρ x y -> F x -> F y) (hM : M P S G Sb F Γ ch fr cs v) :
  ∀ C gh gs w sl t D, Inv P S G Sb B0 W C Γ ch fr cs v none gh gs w t D -> Ends P (fun y w' => F y /\ Below B0 W w') (crowd gs w sl) t := by
 induction hM with
 | fin ch fr v x hlv hin hFx =>
  intro C gh gs w sl t D h
  exact Inv.walk hC (fun z hz => by cases hz) (fun _ gh gs w t D h => h.fin hC hF (hlv _ _) hin hFx) (fun e => absurd rfl e) h.acc _ _ _ _ _ h fun z hz => by cases hz
 | step Γ ch fr cs v hh hex hk ih =>
  intro C gh gs w sl t D h
  refine Inv.walk hC (fun z hz => by cases hz) (fun _ gh gs w t D h sl => ?_) (fun e => absurd rfl e) h.acc _ _ _ _ _ h fun z hz => by cases hz
  obtain ⟨x, v', hr⟩ := hex w.tape w.drawn
  obtain ⟨g, g', w', es, D', h0, hst, hI⟩ := h.tame hC hh hr
  refine .inl ⟨_, _, runT_crowd_go h0 hst, ?_⟩
  rw [h.woken _ _ fun z hz => by cases hz]
  exact ih _ _ x v' hr C _ _ _ _ _ D' hI
 | enter Γ ch fr cs v o f as ats ho hop ha hfn hk ih =>
  intro C gh gs w sl t D h
  refine Inv.walk hC (fun z hz => by cases hz) (fun _ gh gs w t D h sl => ?_) (fun e => absurd rfl e) h.acc _ _ _ _ _ h fun z hz => by cases hz
  obtain ⟨g, g', h0, hst, hI⟩ := h.entered hC ho hop ha hfn
  refine .inl ⟨_, _, runT_crowd_go h0 hst, ?_⟩
  rw [h.woken _ _ (fun z hz => by cases hz), events_none, Array.append_empty]
  exact ih C _ _ _ _ _ D hI
 | chan ch fr cs v o ho hex hk ih =>
  intro C gh gs w sl t D h
  refine Inv.walk hC (fun z hz => by cases hz) (fun _ gh gs w t D h sl => ?_) (fun e => absurd rfl e) h.acc _ _ _ _ _ h fun z hz => by cases hz
  obtain ⟨g, g', D', h0, hst, hI⟩ := h.made ho hex
  refine .inl ⟨_, _, runT_crowd_go h0 hst, ?_⟩
  rw [h.woken _ _ (fun z hz => by cases hz), events_none, Array.append_empty]
  exact ih _ _ _ _ _ _ _ D' hI
 | fork Γ C0 fr cs v o x ats f caps Q ho hop hx hev hfn hlen hQ hT hk ih =>
  intro C gh gs w sl t D h
  refine Inv.walk hC (fun z hz => by cases hz) (fun _ gh gs w t D h sl => ?_) (fun e => absurd rfl e) h.acc _ _ _ _ _ h fun z hz => by cases hz
  have hc0 := h.only C0 rfl
  subst hc0
  obtain ⟨g, g', child, gh', D', h0, hst, hI⟩ := h.forked hC rfl ho hop hx hev hfn hlen hQ hT
  exact .inl ⟨_, _, runT_crowd_spawn h0 hst, ih _ _ _ _ _ _ D' hI⟩
 | recv Γ C0 fr cs v o x z ho hx hev hex hne hk ih =>
  intro C gh gs w sl t D h
  refine Inv.walk hC (fun z hz => by cases hz) (fun _ gh gs w t D h => ?_) (fun e => absurd rfl e) h.acc _ _ _ _ _ h fun z hz => by cases hz
  have hc0 := h.only C0 rfl
  subst hc0
  exact h.recv hC rfl hne ho hx hev hex fun gs w t sl ⟨Γ1, Q, Γ2, v', x', gh', D', e1, e2, e3, e4, e5⟩ => ih Γ1 Q Γ2 e1 v' x' e2 e3 e4 _ _ _ _ _ _ D' e5
 | loops K ch fr cs v hL hk ih => exact fun C gh gs w sl t D h => machineL hC (fun fr cs v hK gh gs w sl t D hI => ih fr cs v hK C gh gs w sl t D hI) hL _ _ _ _ _ _ h.toW
theorem inv_start {N : Nat} {ρ : Ren} {f' : Frame} {c' : List Frame} (hw : WRel P S N ρ (aT2 v W.tape W.drawn) W) (hp : Plain v) (hG : GlOk G ρ) (hf : FRel S ρ fr f') (hc : FsRel S ρ cs c') (hcl : ∀ b o, b < N -> v.heap[b]? = some o -> shutO o = o) (hfl : ∀ b c, N <= b -> ρ b c -> B0 <= c) (hB : B0 <= W.heap.size) :
  Inv P S G Sb B0 W C [] none fr cs v none [] #[Go.Conc.G f' c'] W #[] ⟨fun _ => ⟨N, ρ, v⟩, [], [], fun _ => none, 0, 0⟩ where
 v0 := rfl
 mem := by
  have no : ∀ j, ¬ ActE [] j := fun j ⟨Q, h⟩ => by cases h
  have mb : ∀ j, Mb (ActE []) j -> j = 0 := fun j h => h.resolve_right (no j)
  exact ⟨fun j _ => hw, fun j _ => hp, fun j _ => hG, fun j h => absurd h (no j), fun j k b b' c hj hk hjk => absurd ((mb j hj).trans (mb k hk).symm) hjk, fun j h => absurd h (no j), fun j h => absurd h (no j), fun j h => absurd h (no j), hcl, fun j b c _ => hfl b c, hB, .refl _ _⟩
 tr := tr_nil fun j ⟨Q, h⟩ => by cases h
 main := ⟨f', c', hf, hc, rfl⟩
 gam := rfl
 nod := List.nodup_nil
 three := by simp
 inv e he := by cases he
 bound e he := by cases he
 len := rfl
 ghs i h hi := by simp at hi
 run i h Q hi := by simp at hi
 out e he := by cases he
 pds n p hp := by simp at hp
 pnod := List.nodup_nil
 opened e := absurd rfl e
 only c hc := by cases hc
 chan hc := by cases hc
end
end
section
open Go Go.Conc Go.RowKit
theorem some_view (S : FuncId -> Prop) (ρ : Ren) : ∀ y : Value, ∃ x, VRel S ρ x y := fun y => by
 cases y with
 | bool b => exact ⟨_, .bool b⟩
 | agg ys =>
  have ih : ∀ i, i < ys.size -> ∃ x, ∀ h : i < ys.size, VRel S ρ x ys[i] := fun i hi => by
   obtain ⟨x, hx⟩ := some_view S ρ ys[i]
   exact ⟨x, fun _ => hx⟩
  obtain ⟨xs, h1, h2⟩ := arr_choose ih
  exact ⟨.agg xs, .agg xs ys h1 fun i h h' => h2 i h h'⟩
 | tuple ys =>
  have ih : ∀ i, i < ys.size -> ∃ x, ∀ h : i < ys.size, VRel S ρ x ys[i] := fun i hi => by
   obtain ⟨x, hx⟩ := some_view S ρ ys[i]
   exact ⟨x, fun _ => hx⟩
  obtain ⟨xs, h1, h2⟩ := arr_choose ih
  exact ⟨.tuple xs, .tuple xs ys h1 fun i h h' => h2 i h h'⟩
 | _ => exact ⟨.nilFunc, .nilFunc _ rfl⟩
termination_by y => SizeOf.sizeOf y
open Classical in
noncomputable def cleanV (S : FuncId -> Prop) (ρ : Ren) (y : Value) : Value := if VRel S ρ y y then y else Classical.choose (some_view S ρ y)
theorem cleanV_rel (S : FuncId -> Prop) (ρ : Ren) (y : Value) : VRel S ρ (cleanV S ρ y) y := by
 unfold cleanV
 split
 ·assumption
 ·exact Classical.choose_spec (some_view S ρ y)
theorem cleanV_id {S : FuncId -> Prop} {ρ : Ren} {y : Value} (h : VRel S ρ y y) : cleanV S ρ y = y := if_pos h
def rho0 (W : World) : Ren := fun b c => c = b /\ ∃ cs t fr, W.heap[b]? = some (.cells cs t fr)
noncomputable def cleanO (S : FuncId -> Prop) (ρ : Ren) : Obj -> Obj
 | .cells cs t _ => .cells (cs.map (cleanV S ρ)) t (0, cs.size)
 | _ => .coro none
noncomputable def cleanW (S : FuncId -> Prop) (W : World) : World := { W with heap := W.heap.map (cleanO S (rho0 W)) }
section
variable {P : Program} {S : FuncId -> Prop} {G : Nat -> Bool} {W : World}
theorem clean_get (b : Nat) : (cleanW S W).heap[b]? = (W.heap[b]?).map (cleanO S (rho0 W)) := Array.getElem?_map ..
theorem clean_size : (cleanW S W).heap.size = W.heap.size := Array.size_map ..
theorem clean_plain : Plain (cleanW S W) := fun b o ho => by
 rw [clean_get] at ho
 obtain ⟨o', _, rfl⟩ := Option.map_eq_some_iff.1 ho
 cases o' <;> rfl
theorem clean_closed (b : Nat) (o : Obj) (ho : (cleanW S W).heap[b]? = some o) : shutO o = o := by
 rw [clean_get] at ho
 obtain ⟨o', _, rfl⟩ := Option.map_eq_some_iff.1 ho
 cases o' <;> first | rfl | (simp [cleanO, shutO])
theorem clean_rel (hg : P.globals.size <= W.heap.size) : WRel P S W.heap.size (rho0 W) (cleanW S W) W where
 inj b b' c h h' := h.1.symm.trans h'.1
 func b c c' h h' := h.1.trans h'.1.symm
 dom b c h := by
  obtain ⟨rfl, cs, t, fr, h⟩ := h
  have := (Array.getElem?_eq_some_iff.1 h).1
  exact ⟨by rw [clean_size]; exact this, this⟩
 cell b c h := by
  obtain ⟨rfl, cs, t, fr, h⟩ := h
  refine .inl ⟨cs.map (cleanV S (rho0 W)), cs, t, (0, cs.size), fr, by rw [clean_get, h]; rfl, h, ⟨Array.size_map .., fun i h1 h2 => ?_⟩, fun hn => absurd (Array.getElem?_eq_some_iff.1 h).1 (Nat.not_lt.2 hn), fun _ off ho => ⟨Nat.zero_le _, by rw [Array.size_map] at ho; exact ho⟩⟩
  rw [Array.getElem_map]
  exact cleanV_rel S _ _
 tape := rfl
 drawn := rfl
 low := by rw [clean_size]; exact Nat.le_refl _
 glob := hg
 lowW := hg
 same b c h _ := h.1
 nl b o ho := by
  rw [clean_get] at ho
  obtain ⟨o', _, rfl⟩ := Option.map_eq_some_iff.1 ho
  cases o' <;> rfl
theorem clean_cell (a : Addr) : (cleanW S W).cell? a = (W.cell? a).map (cleanV S (rho0 W)) := by
 unfold World.cell?
 rw [clean_get]
 cases h : W.heap[a.block]? with
 | none => rfl
 | some o =>
  cases o <;> first | rfl | skip
  simp only [Option.map_some, cleanO]
  split
  ·rfl
  ·rw [Array.getElem?_map]
def GoodL (S : FuncId -> Prop) (W : World) (cs : List Value) : Prop := ∀ c ∈ cs, VRel S (rho0 W) c c
def plainTy (P : Program) : Nat -> TypeId -> Bool
 | 0, _ => false
 | n + 1, t => match P.underlying t with
  | some .bool | some (.int _) | some .string => true
  | some (.slice e) => plainTy P n e && decide (0 < P.cellsOf e)
  | some (.struct fs) => fs.all (fun f => plainTy P n f.type) && (List.range (P.cellsOf t)).all fun i => fs.any fun f => decide (f.offset <= i) && decide (i < f.offset + P.cellsOf f.type)
  | _ => false
theorem mapM_same {α β : Type} {f g : α -> Option β} : ∀ {l : List α} {r : List β}, (∀ a ∈ l, ∀ b, f a = some b -> g a = some b) -> l.mapM f = some r -> l.mapM g = some r
 | [], r, _, h => h
 | a :: l, r, hfg, h => by
  simp only [List.mapM_cons, Option.bind_eq_bind, Option.bind_eq_some_iff, Option.pure_def, Option.some.injEq] at h ⊢
  obtain ⟨b, hb, r', hr', rfl⟩ := h
  exact ⟨b, hfg a (List.mem_cons_self ..) b hb, r', mapM_same (fun x hx => hfg x (List.mem_cons_of_mem _ hx)) hr', rfl⟩
theorem clean_cells {a : Addr} {n : Nat} {l : List Value} (h : W.cells? 0 a n = some l) (hg : GoodL S W l) : (cleanW S W).cells? 0 a n = some l := by
 unfold World.cells? at h ⊢
 rw [if_pos (Nat.zero_le _)] at h ⊢
 have key : ∀ (is : List Nat) (l : List Value), (is.mapM fun i => W.cell? (a.add i)) = some l -> (is.mapM fun i => (cleanW S W).cell? (a.add i)) = some (l.map (cleanV S (rho0 W))) := by
  intro is
  induction is with
  | nil => intro l h; simp at h; subst h; rfl
  | cons i is ih =>
   intro l h
   simp only [List.mapM_cons, Option.bind_eq_bind, Option.bind_eq_some_iff, Option.pure_def, Option.some.injEq] at h ⊢
   obtain ⟨b, hb, r', hr', rfl⟩ := h
   exact ⟨_, by rw [clean_cell, hb]; rfl, _, ih r' hr', rfl⟩
 rw [key _ _ h]
 congr 1
 conv => rhs; rw [<- List.map_id l]
 exact List.map_congr_left fun c hc => cleanV_id (hg c hc)
theorem cells_block {a : Addr} {n : Nat} {l : List Value} (hn : 0 < n) (h : W.cells? 0 a n = some l) : ∃ cs t fr, W.heap[a.block]? = some (.cells cs t fr) := by
 unfold World.cells? at h
 rw [if_pos (Nat.zero_le _)] at h
 obtain ⟨m, rfl⟩ : ∃ m, n = m + 1 := ⟨n - 1, by omega⟩
 rw [List.range_succ_eq_map] at h
 simp only [List.mapM_cons, Option.bind_eq_bind, Option.bind_eq_some_iff, Option.pure_def] at h
 obtain ⟨b, hb, _⟩ := h
 unfold World.cell? at hb
 have e : (a.add 0).block = a.block := rfl
 rw [e] at hb
 split at hb
 ·rename_i cs t fr ho; exact ⟨cs, t, fr, ho⟩
 ·cases hb
variable {H : Type} {enc : TypeId × Value -> H}
theorem trod_clean : ∀ (fuel n : Nat) (t : TypeId) (cs : List Value) (x : DataW H × List MemPlace), plainTy P n t = true -> DataW.trod enc P W 0 (fun _ => true) true fuel t cs = some x ->
  GoodL S W cs /\ DataW.trod enc P (cleanW S W) 0 (fun _ => true) true fuel t cs = some x := by
 intro fuel
 induction fuel with
 | zero => intro n t cs x _ h; simp [DataW.trod] at h
 | succ fuel ih =>
  intro n t cs x hp h
  cases n with
  | zero => cases hp
  | succ n =>
   unfold plainTy at hp
   have h0 := h
   unfold DataW.trod at h ⊢
   cases hu : P.underlying t with
   | none => rw [hu] at hp; cases hp
   | some d =>
    rw [hu] at hp h
    cases d with
    | bool =>
     simp only at h ⊢
     split at h <;> first | (exact ⟨fun c hc => by simp at hc; subst hc; exact .bool _, h⟩) | simp_all
    | int k =>
     simp only at h ⊢
     split at h <;> first | (exact ⟨fun c hc => by simp at hc; subst hc; exact .int _ _, h⟩) | simp_all
    | string =>
     simp only at h ⊢
     split at h <;> first | (exact ⟨fun c hc => by simp at hc; subst hc; exact .string _, h⟩) | simp_all
    | slice e =>
     simp only [Bool.and_eq_true, decide_eq_true_eq] at hp
     obtain ⟨hpe, hce⟩ := hp
     rcases DataW.trod_slice hu h0 with ⟨rfl, rfl⟩ | ⟨a, len, cap, elems, rest, m, hm, rfl, rfl, hb, hl, hc, hel, hels, hsp, _⟩
     ·exact ⟨fun c hc => by simp at hc; subst hc; exact .nils _ _, rfl⟩
     ·obtain rfl : fuel = m := by omega
      obtain ⟨hrl, hrest⟩ := hsp rfl
      have tr : ∀ i b, (W.cells? 0 (a.add (i * P.cellsOf e)) (P.cellsOf e)).bind (DataW.trod enc P W 0 (fun _ => true) true fuel e) = some b -> ((cleanW S W).cells? 0 (a.add (i * P.cellsOf e)) (P.cellsOf e)).bind (DataW.trod enc P (cleanW S W) 0 (fun _ => true) true fuel e) = some b := fun i b hb => by
       rw [Option.bind_eq_some_iff] at hb ⊢
       obtain ⟨l, h1, h2⟩ := hb
       obtain ⟨h3, h4⟩ := ih n e l b hpe h2
       exact ⟨l, clean_cells h1 h3, h4⟩
      refine ⟨fun c hc => ?_, ?_⟩
      ·simp only [List.mem_singleton] at hc
       subst hc
       by_cases hcap : cap = 0
       ·obtain rfl : len = 0 := by omega
        subst hcap
        exact .sl0 a
       ·have h1 : ∃ b, (W.cells? 0 (a.add (0 * P.cellsOf e)) (P.cellsOf e)).bind (DataW.trod enc P W 0 (fun _ => true) true fuel e) = some b := by
         by_cases hlen : len = 0
         ·have h2 := hrest 0 (by omega)
          rw [hlen] at h2
          rw [show (0 + 0) * P.cellsOf e = 0 * P.cellsOf e by simp] at h2
          exact ⟨_, h2.trans (List.getElem?_eq_getElem (by omega))⟩
         ·exact ⟨_, (hels 0 (by omega)).trans (List.getElem?_eq_getElem (by omega))⟩
        obtain ⟨b, hb⟩ := h1
        rw [Option.bind_eq_some_iff] at hb
        obtain ⟨l, h3, _⟩ := hb
        have h4 := cells_block hce h3
        rw [show (a.add (0 * P.cellsOf e)).block = a.block by unfold Addr.add; split <;> rfl] at h4
        obtain ⟨ab, ao, as⟩ := a
        exact .sl ab ab ao as len cap ⟨rfl, h4⟩
      ·simp only at h ⊢
       split at h
       ·rename_i hcond
        rw [if_pos hcond]
        simp only [Option.bind_eq_some_iff, Option.map_eq_some_iff, if_true] at h ⊢
        obtain ⟨r1, h1, r2, h2, h3⟩ := h
        exact ⟨r1, mapM_same (fun i _ b hb => tr i b hb) h1, r2, mapM_same (fun j _ b hb => tr (len + j) b hb) h2, h3⟩
       ·cases h
    | struct fs =>
     simp only [Bool.and_eq_true] at hp
     obtain ⟨hpf, hcov⟩ := hp
     simp only at h ⊢
     split at h
     ·rename_i hlen
      rw [if_pos hlen]
      simp only [Option.map_eq_some_iff] at h ⊢
      obtain ⟨xs, h1, h2⟩ := h
      have hf : ∀ f ∈ fs.toList, ∀ b, DataW.trod enc P W 0 (fun _ => true) true fuel f.type ((cs.drop f.offset).take (P.cellsOf f.type)) = some b -> GoodL S W ((cs.drop f.offset).take (P.cellsOf f.type)) /\ DataW.trod enc P (cleanW S W) 0 (fun _ => true) true fuel f.type ((cs.drop f.offset).take (P.cellsOf f.type)) = some b := fun f hf b hb =>
       ih n f.type _ b (Array.all_eq_true_iff_forall_mem.1 hpf f (Array.mem_toList_iff.1 hf)) hb
      refine ⟨fun c hc => ?_, xs, mapM_same (fun f hfm b hb => (hf f hfm b hb).2) h1, h2⟩
      obtain ⟨i, hi, rfl⟩ := List.mem_iff_getElem.1 hc
      have hci := List.all_eq_true.1 hcov i (List.mem_range.2 (by omega))
      obtain ⟨j, hj0, hfi⟩ := Array.any_eq_true.1 hci
      have hj : j < fs.toList.length := by simpa using hj0
      rw [show fs[j] = fs.toList[j] by simp] at hfi
      simp only [Bool.and_eq_true, decide_eq_true_eq] at hfi
      have hfm2 : fs.toList[j] ∈ fs.toList := List.getElem_mem hj
      have hxl : xs.length = fs.toList.length := by simpa using mapM_some_length h1
      obtain ⟨b, hb⟩ : ∃ b, DataW.trod enc P W 0 (fun _ => true) true fuel fs.toList[j].type ((cs.drop fs.toList[j].offset).take (P.cellsOf fs.toList[j].type)) = some b := ⟨_, (mapM_some_get h1 j _ (List.getElem?_eq_getElem hj)).trans (List.getElem?_eq_getElem (by omega))⟩
      refine (hf _ hfm2 b hb).1 _ ?_
      rw [List.mem_iff_getElem?]
      refine ⟨i - fs.toList[j].offset, ?_⟩
      rw [List.getElem?_take_of_lt (by omega), List.getElem?_drop, show fs.toList[j].offset + (i - fs.toList[j].offset) = i by omega]
      exact List.getElem?_eq_getElem hi
     ·cases h
    | _ => cases hp
end
end
section
open Go Go.Conc
inductive PlugR (K : List Item) (df : List Deferred) (rr : Option Nat) (cs0 : List Frame) : List Frame -> List Frame -> Prop
 | base (f : Frame) {ops : Array Oper} (l : List Nat) : f.todo = [.inRegion ops l, mk] -> PlugR K df rr cs0 [f] ({ f with todo := .inRegion ops l :: K, defers := df, roundOf := rr } :: cs0)
 | baseC (f : Frame) (id : Nat) (ops : Array Oper) (dr : Bool) : f.todo = [.code (.region id ops dr), mk] -> PlugR K df rr cs0 [f] ({ f with todo := .code (.region id ops dr) :: K, defers := df, roundOf := rr } :: cs0)
 | base0 (f : Frame) : f.todo = [mk] -> PlugR K df rr cs0 [f] ({ f with todo := K, defers := df, roundOf := rr } :: cs0)
 | up (f : Frame) (l l' : List Frame) : l ≠ [] -> PlugR K df rr cs0 l l' -> PlugR K df rr cs0 (f :: l) (f :: l')
section
variable {P : Program} {S : FuncId -> Prop} {G Sb : Nat -> Bool} {K : List Item} {df : List Deferred} {rr : Option Nat} {cs0 : List Frame}
theorem step_plugR {fr : Frame} {fs : List Frame} {l' : List Frame} (hp : PlugR K df rr cs0 (fr :: fs) l') (hst : Strict fr) {v v' : World} {x : Frame × List Frame} (hmb : fs = [] -> fr.mode = .run) (h : (stepS P fr (fs ++ [cBad])).run P v = .ok x v') :
  ∃ fp csp, l' = fp :: csp /\ (okHead P G Sb fr -> okHead P G Sb fp) /\ TmW fp /\ ∃ fs' xp, x.2 = fs' ++ [cBad] /\ (stepS P fp csp).run P v = .ok xp v' /\ PlugR K df rr cs0 (x.1 :: fs') (xp.1 :: xp.2) := by
 have hts := tmw_strict hst
 obtain ⟨fn, tmps, todo, defers, mode, kind, roundOf⟩ := fr
 cases hp with
 | base0 _ hpre =>
  exfalso
  simp only at hpre
  subst hpre
  have hm : mode = .run := hmb rfl
  subst hm
  unfold Go.Proofs.YtlipmagkplbkdaaDoor.stepS at h
  exact run_stuck_ok h
 | baseC _ id ops dr hpre =>
  simp only at hpre
  subst hpre
  have hm : mode = .run := hmb rfl
  subst hm
  have tm : TmW { fn := fn, tmps := tmps, todo := .code (.region id ops dr) :: K, defers := df, mode := .run, kind := kind, roundOf := rr } := ⟨fun e => (by cases e), fun _ => ⟨rfl, by simp, fun k e => by cases e⟩⟩
  refine ⟨_, _, rfl, fun _ => trivial, tm, ?_⟩
  unfold Go.Proofs.YtlipmagkplbkdaaDoor.stepS at h ⊢
  simp only at h ⊢
  split at h
  ·rename_i hd
   obtain ⟨t, w1, h4, h5⟩ := run_bind_ok h
   obtain ⟨rfl, rfl⟩ := run_pure_ok h5
   refine ⟨[], (_, cs0), rfl, ?_, .base { fn := fn, tmps := tmps, todo := [.inRegion ops (Region.schedule (P.follows .mixedOrders) ops t), mk], defers := defers, mode := .run, kind := kind, roundOf := roundOf } (Region.schedule (P.follows .mixedOrders) ops t) rfl⟩
   simp only [hd, if_true]
   show Sem.run P (Sem.bind _ _) v = _
   rw [Sem.run_bind', h4]
   rfl
  ·rename_i hd
   obtain ⟨rfl, rfl⟩ := run_pure_ok h
   exact ⟨[], (_, cs0), rfl, by first | rfl | (simp only [if_neg hd]; rfl), .base { fn := fn, tmps := tmps, todo := [.inRegion ops (List.range ops.size), mk], defers := defers, mode := .run, kind := kind, roundOf := roundOf } (List.range ops.size) rfl⟩
 | base _ l hpre =>
  rename_i ops
  simp only at hpre
  subst hpre
  have hm : mode = .run := hmb rfl
  subst hm
  have tm : TmW { fn := fn, tmps := tmps, todo := .inRegion ops l :: K, defers := df, mode := .run, kind := kind, roundOf := rr } := ⟨fun e => (by cases e), fun _ => ⟨rfl, by simp, fun k e => by cases e⟩⟩
  have push : ∀ (ts : Array Value) (q : List Nat), PlugR K df rr cs0 [{ fn := fn, tmps := ts, todo := [.inRegion ops q, mk], defers := defers, mode := .run, kind := kind, roundOf := roundOf }] ({ fn := fn, tmps := ts, todo := .inRegion ops q :: K, defers := df, mode := .run, kind := kind, roundOf := rr } :: cs0) := fun ts q => .base { fn := fn, tmps := ts, todo := [.inRegion ops q, mk], defers := defers, mode := .run, kind := kind, roundOf := roundOf } q rfl
  refine ⟨_, _, rfl, ?_, tm, ?_⟩
  ·intro ho
   unfold okHead at ho ⊢
   cases l <;> exact ho
  unfold Go.Proofs.YtlipmagkplbkdaaDoor.stepS at h ⊢
  cases l with
  | nil =>
   obtain ⟨rfl, rfl⟩ := run_pure_ok h
   exact ⟨[], (_, cs0), rfl, rfl, .base0 { fn := fn, tmps := tmps, todo := [mk], defers := defers, mode := .run, kind := kind, roundOf := roundOf } rfl⟩
  | cons i rest =>
   simp only at h ⊢
   split at h
   ·rename_i ho
    obtain ⟨rfl, rfl⟩ := run_pure_ok h
    exact ⟨[], (_, cs0), rfl, by first | rfl | (simp only [ho]; rfl), push _ rest⟩
   ·rename_i o ho
    split at h
    ·rename_i hw
     obtain ⟨nx, w1, h4, h5⟩ := run_bind_ok h
     have go : ∀ (f : Next -> Sem (Frame × List Frame)) y, (f nx).run P w1 = .ok y v' -> (execOp (Frame.eval { fn := fn, tmps := tmps, todo := .inRegion ops (i :: rest) :: K, defers := df, mode := .run, kind := kind, roundOf := rr }) o >>= f).run P v = .ok y v' := fun f y hy => by
      have e : Frame.eval { fn := fn, tmps := tmps, todo := .inRegion ops (i :: rest) :: K, defers := df, mode := .run, kind := kind, roundOf := rr } = Frame.eval { fn := fn, tmps := tmps, todo := [.inRegion ops (i :: rest), mk], defers := defers, mode := .run, kind := kind, roundOf := roundOf } := by
       funext z; cases z <;> rfl
      rw [e]
      show Sem.run P (Sem.bind _ _) v = _
      rw [Sem.run_bind', h4]
      exact hy
     cases nx with
     | value u =>
      obtain ⟨rfl, rfl⟩ := run_pure_ok h5
      exact ⟨[], (_, cs0), rfl, by first | exact go _ _ rfl | (simp only [hw, if_true]; exact go _ _ rfl) | (simp only [ho, hw, if_true]; exact go _ _ rfl), push _ rest⟩
     | skip =>
      obtain ⟨rfl, rfl⟩ := run_pure_ok h5
      exact ⟨[], (_, cs0), rfl, by first | exact go _ _ rfl | (simp only [hw, if_true]; exact go _ _ rfl) | (simp only [ho, hw, if_true]; exact go _ _ rfl), push _ rest⟩
     | enter f args =>
      obtain ⟨rfl, rfl⟩ := run_pure_ok h5
      exact ⟨[_], (_, _ :: cs0), rfl, by first | exact go _ _ rfl | (simp only [hw, if_true]; exact go _ _ rfl) | (simp only [ho, hw, if_true]; exact go _ _ rfl), .up _ _ _ (by simp) (push _ (i :: rest))⟩
     | _ => exact (run_stuck_ok h5).elim
    ·rename_i hw
     obtain ⟨rfl, rfl⟩ := run_pure_ok h
     exact ⟨[], (_, cs0), rfl, by first | rfl | (simp only [if_neg hw]; rfl) | (simp only [ho, if_neg hw]; rfl), push _ rest⟩
 | up _ l l'' hne hl =>
  refine ⟨_, _, rfl, id, hts, ?_⟩
  have push : ∀ f, PlugR K df rr cs0 (f :: fs) (f :: l'') := fun f => .up f fs l'' hne hl
  cases mode with
  | panicking ch => unfold Go.Proofs.YtlipmagkplbkdaaDoor.stepS at h; exact (run_stuck_ok h).elim
  | run =>
   unfold Go.Proofs.YtlipmagkplbkdaaDoor.stepS at h ⊢
   simp only at h ⊢
   split at h
   case h_8 c a b k =>
    split at h
    ·rename_i t ht
     obtain ⟨rfl, rfl⟩ := run_pure_ok h
     exact ⟨fs, (_, l''), rfl, by first | rfl | (simp only [ht]; rfl), push _⟩
    ·exact (run_stuck_ok h).elim
   case h_13 id k =>
    split at h
    ·rename_i k' hk
     obtain ⟨rfl, rfl⟩ := run_pure_ok h
     exact ⟨fs, (_, l''), rfl, by first | rfl | (simp only [hk]; rfl), push _⟩
    ·exact (run_stuck_ok h).elim
   case h_14 id ops draw k =>
    split at h
    ·rename_i hd
     obtain ⟨t, w1, h4, h5⟩ := run_bind_ok h
     obtain ⟨rfl, rfl⟩ := run_pure_ok h5
     refine ⟨fs, (_, l''), rfl, ?_, push _⟩
     simp only [hd, if_true]
     show Sem.run P (Sem.bind _ _) v = _
     rw [Sem.run_bind', h4]
     rfl
    ·rename_i hd
     obtain ⟨rfl, rfl⟩ := run_pure_ok h
     exact ⟨fs, (_, l''), rfl, by first | rfl | (simp only [if_neg hd]; rfl), push _⟩
   case h_16 ops i rest k =>
    split at h
    ·rename_i ho
     obtain ⟨rfl, rfl⟩ := run_pure_ok h
     exact ⟨fs, (_, l''), rfl, by first | rfl | (simp only [ho]; rfl), push _⟩
    ·rename_i o ho
     split at h
     ·rename_i hw
      obtain ⟨nx, w1, h4, h5⟩ := run_bind_ok h
      have go : ∀ (f : Next -> Sem (Frame × List Frame)) y, (f nx).run P w1 = .ok y v' -> (execOp (Frame.eval { fn := fn, tmps := tmps, todo := .inRegion ops (i :: rest) :: k, defers := defers, mode := .run, kind := kind, roundOf := roundOf }) o >>= f).run P v = .ok y v' := fun f y hy => by
       show Sem.run P (Sem.bind _ _) v = _
       rw [Sem.run_bind', h4]
       exact hy
      cases nx with
      | value u =>
       obtain ⟨rfl, rfl⟩ := run_pure_ok h5
       exact ⟨fs, (_, l''), rfl, by first | exact go _ _ rfl | (simp only [hw, if_true]; exact go _ _ rfl) | (simp only [ho, hw, if_true]; exact go _ _ rfl), push _⟩
      | skip =>
       obtain ⟨rfl, rfl⟩ := run_pure_ok h5
       exact ⟨fs, (_, l''), rfl, by first | exact go _ _ rfl | (simp only [hw, if_true]; exact go _ _ rfl) | (simp only [ho, hw, if_true]; exact go _ _ rfl), push _⟩
      | enter f args =>
       obtain ⟨rfl, rfl⟩ := run_pure_ok h5
       exact ⟨_ :: fs, (_, _ :: l''), rfl, by first | exact go _ _ rfl | (simp only [hw, if_true]; exact go _ _ rfl) | (simp only [ho, hw, if_true]; exact go _ _ rfl), .up _ _ _ (by simp) (push _)⟩
      | _ => exact (run_stuck_ok h5).elim
     ·rename_i hw
      obtain ⟨rfl, rfl⟩ := run_pure_ok h
      exact ⟨fs, (_, l''), rfl, by first | rfl | (simp only [if_neg hw]; rfl) | (simp only [ho, if_neg hw]; rfl), push _⟩
   case h_17 id k =>
    split at h
    ·rename_i k' hk
     obtain ⟨rfl, rfl⟩ := run_pure_ok h
     exact ⟨fs, (_, l''), rfl, by first | rfl | (simp only [hk]; rfl), push _⟩
    ·exact (run_stuck_ok h).elim
   case h_18 => exact (run_stuck_ok h).elim
   all_goals
    obtain ⟨rfl, rfl⟩ := run_pure_ok h
    exact ⟨fs, (_, l''), rfl, rfl, push _⟩
  | returning =>
   unfold Go.Proofs.YtlipmagkplbkdaaDoor.stepS at h
   simp only at h
   cases fs with
   | nil => exact absurd rfl hne
   | cons c fs =>
    split at h
    ·rename_i c1 rest f heq hf
     injection heq with e1 e2
     subst e1 e2
     split at h
     ·rename_i ops i r k htc
      obtain ⟨u, w1, h4, h5⟩ := run_bind_ok h
      obtain ⟨rfl, rfl⟩ := run_pure_ok h5
      have fin : ∀ (cp : Frame) (lp : List Frame), l'' = cp :: lp -> (∃ q, cp.todo = .inRegion ops (i :: r) :: q) -> PlugR K df rr cs0 (c.finish u :: fs) (cp.finish u :: lp) ->
        ∃ fs' xp, (c.finish u, fs ++ [cBad]).2 = fs' ++ [cBad] /\ (stepS P { fn := fn, tmps := tmps, todo := todo, defers := defers, mode := .returning, kind := .normal, roundOf := roundOf } l'').run P v = .ok xp w1 /\ PlugR K df rr cs0 ((c.finish u, fs ++ [cBad]).1 :: fs') (xp.1 :: xp.2) := fun cp lp e ⟨q, hq⟩ hP => by
       subst e
       exact ⟨fs, (cp.finish u, lp), rfl, stepS_ret rfl rfl hf hq h4, hP⟩
      cases hl with
      | up _ l1 l2 hne2 hl2 => exact fin c l2 rfl ⟨k, htc⟩ (.up _ _ _ hne2 hl2)
      | base0 _ hpre =>
       rw [htc] at hpre
       simp [mk] at hpre
      | baseC _ id ops' dr hpre =>
       rw [htc] at hpre
       simp at hpre
      | base _ l0 hpre =>
       rw [htc] at hpre
       injection hpre with e1 e2
       injection e1 with e3 e4
       subst e3 e4 e2
       refine fin { c with todo := .inRegion ops (i :: r) :: K, defers := df, roundOf := rr } cs0 rfl ⟨_, rfl⟩ ?_
       have e1 : c.finish u = { c with tmps := match (ops[i]?).bind (·.dst) with | some d => c.tmps.setIfInBounds d u | none => c.tmps, todo := [.inRegion ops r, mk] } := by
        unfold Frame.finish; rw [htc]; rfl
       have e2 : (Frame.finish { c with todo := .inRegion ops (i :: r) :: K, defers := df, roundOf := rr } u) = { c with tmps := match (ops[i]?).bind (·.dst) with | some d => c.tmps.setIfInBounds d u | none => c.tmps, todo := .inRegion ops r :: K, defers := df, roundOf := rr } := rfl
       rw [e1, e2]
       exact .base { c with tmps := match (ops[i]?).bind (·.dst) with | some d => c.tmps.setIfInBounds d u | none => c.tmps, todo := [.inRegion ops r, mk] } r rfl
     ·exact (run_stuck_ok h).elim
    ·exact (run_stuck_ok h).elim
end
section
variable {P : Program} {S : FuncId -> Prop} {G Sb : Nat -> Bool} {X : Sit}
theorem Plug.strict {E K : List Item} {cs0 : List Frame} {fr fp : Frame} {fs csp : List Frame} (hp : Plug E K cs0 (fr :: fs) (fp :: csp)) (h : Strict fr) : Strict fp := by
 cases hp <;> exact h
theorem JI.str {fr : Frame} {cs : List Frame} {v : World} (h : JI P S G Sb fr cs v) : Strict fr := by
 obtain ⟨fs, _, _, _, _, _, N0, ρ, _, _, hf, _⟩ := h
 exact hf.str
theorem TreeW.plug {Q : Sit} (hX : BackW P G Sb X) {E K : List Item} {cs0 : List Frame} (hEK : E = [mk] ∨ (E = [] /\ K = [])) (hQ : ∀ fr cs v, Q fr cs v -> cs = [cBad] /\ ∀ fp, Plug E K cs0 [fr] (fp :: cs0) -> X fp cs0 v) {fr : Frame} {cs : List Frame} {v : World} (h : T P (JI P S G Sb) Q fr cs v) :
  ∀ fs fp csp, cs = fs ++ [cBad] -> Plug E K cs0 (fr :: fs) (fp :: csp) -> X fp csp v := by
 induction h with
 | stop fr cs v hq =>
  rintro fs fp csp rfl hp
  obtain ⟨h1, h2⟩ := hQ _ _ _ hq
  have : fs = [] := by
   cases fs with
   | nil => rfl
   | cons c fs =>
    have := congrArg List.length h1
    simp at this
  subst this
  cases hp with
  | base _ pre hpre => exact h2 _ (.base _ pre hpre)
  | up _ _ _ hne _ => exact absurd rfl hne
 | step fr cs v hj h k ih =>
  rintro fs fp csp rfl hp
  have hst : Strict fp := hp.strict hj.str
  have hh : okHead P G Sb fr := by obtain ⟨_, _, ho, _⟩ := hj; exact ho.head
  have one : ∀ τ d, ∃ x v', (stepS P fr (fs ++ [cBad])).run P (aT2 v τ d) = .ok x v' /\ ∃ fs' xp, x.2 = fs' ++ [cBad] /\ (stepS P fp csp).run P (aT2 v τ d) = .ok xp v' /\ Plug E K cs0 (x.1 :: fs') (xp.1 :: xp.2) := fun τ d => by
   obtain ⟨x, v', hr⟩ := h τ d
   obtain ⟨fp', csp', e, _, fs', xp, h1, h2, h3⟩ := step_plug (P := P) (G := G) (Sb := Sb) hEK hp hr
   injection e with e1 e2
   subst e1 e2
   exact ⟨x, v', hr, fs', xp, h1, h2, h3⟩
  have hhp : okHead P G Sb fp := by
   obtain ⟨x, v', hr⟩ := h v.tape v.drawn
   obtain ⟨fp', csp', e, h0, _⟩ := step_plug (P := P) (G := G) (Sb := Sb) hEK hp hr
   injection e with e1 e2
   subst e1
   exact h0 hh
  refine hX fp csp v hhp (tmw_strict hst) (fun τ d => let ⟨x, v', _, fs', xp, _, h2, _⟩ := one τ d; ⟨xp, v', h2⟩) fun τ d xp v' hr => ?_
  obtain ⟨x, v2, hr2, fs', xp2, h1, h2, h3⟩ := one τ d
  rw [h2] at hr
  injection hr with e1 e2
  subst e1 e2
  exact ih τ d x v2 hr2 fs' _ _ h1 h3
theorem TreeR.plug {Q : Sit} (hX : BackW P G Sb X) {K : List Item} {df : List Deferred} {rr : Option Nat} {cs0 : List Frame} (hQ : ∀ fr cs v, Q fr cs v -> cs = [cBad] /\ ∀ fp, PlugR K df rr cs0 [fr] (fp :: cs0) -> X fp cs0 v) {fr : Frame} {cs : List Frame} {v : World} (h : T P (JI P S G Sb) Q fr cs v) :
  ∀ fs fp csp, cs = fs ++ [cBad] -> PlugR K df rr cs0 (fr :: fs) (fp :: csp) -> X fp csp v := by
 induction h with
 | stop fr cs v hq =>
  rintro fs fp csp rfl hp
  obtain ⟨h1, h2⟩ := hQ _ _ _ hq
  have : fs = [] := by
   cases fs with
   | nil => rfl
   | cons c fs =>
    have := congrArg List.length h1
    simp at this
  subst this
  cases hp with
  | base _ l hpre => exact h2 _ (.base _ l hpre)
  | base0 _ hpre => exact h2 _ (.base0 _ hpre)
  | baseC _ id ops dr hpre => exact h2 _ (.baseC _ id ops dr hpre)
  | up _ _ _ hne _ => exact absurd rfl hne
 | step fr cs v hj h k ih =>
  rintro fs fp csp rfl hp
  have hst : Strict fr := hj.str
  have hh : okHead P G Sb fr := by obtain ⟨_, _, ho, _⟩ := hj; exact ho.head
  have hmb : fs = [] -> fr.mode = .run := fun e => by
   subst e
   obtain ⟨fs', _, ho, hm, _⟩ := hj
   refine hm.resolve_right fun hm => ?_
   obtain ⟨x, v', hr⟩ := h v.tape v.drawn
   unfold Go.Proofs.YtlipmagkplbkdaaDoor.stepS at hr
   rw [hm] at hr
   simp only [ho.kind, List.nil_append] at hr
   cases hfn : P.funcs[fr.fn]? with
   | none => rw [hfn] at hr; exact run_stuck_ok hr
   | some fn => rw [hfn] at hr; exact run_stuck_ok hr
  have one : ∀ τ d, ∃ x v', (stepS P fr (fs ++ [cBad])).run P (aT2 v τ d) = .ok x v' /\ ∃ fs' xp, x.2 = fs' ++ [cBad] /\ (stepS P fp csp).run P (aT2 v τ d) = .ok xp v' /\ PlugR K df rr cs0 (x.1 :: fs') (xp.1 :: xp.2) := fun τ d => by
   obtain ⟨x, v', hr⟩ := h τ d
   obtain ⟨fp', csp', e, _, _, fs', xp, h1, h2, h3⟩ := step_plugR (P := P) (G := G) (Sb := Sb) hp hst hmb hr
   injection e with e1 e2
   subst e1 e2
   exact ⟨x, v', hr, fs', xp, h1, h2, h3⟩
  have hhp : okHead P G Sb fp /\ TmW fp := by
   obtain ⟨x, v', hr⟩ := h v.tape v.drawn
   obtain ⟨fp', csp', e, h0, h1, _⟩ := step_plugR (P := P) (G := G) (Sb := Sb) hp hst hmb hr
   injection e with e1 e2
   subst e1
   exact ⟨h0 hh, h1⟩
  refine hX fp csp v hhp.1 hhp.2 (fun τ d => let ⟨x, v', _, fs', xp, _, h2, _⟩ := one τ d; ⟨xp, v', h2⟩) fun τ d xp v' hr => ?_
  obtain ⟨x, v2, hr2, fs', xp2, h1, h2, h3⟩ := one τ d
  rw [h2] at hr
  injection hr with e1 e2
  subst e1 e2
  exact ih τ d x v2 hr2 fs' _ _ h1 h3
theorem Selfw.piece {b : Frame} {a : Act} {t t' : List Item} {cs : List Frame} {v : World} (hd : a.defers = []) (h : Selfw P S G (b.at a t) cs v) : Self P S G (b.at a t') [] v := by
 obtain ⟨hp, N0, ρ, hw, hG, hf, hl⟩ := h
 exact ⟨hp, N0, ρ, hw, hG, fRel_at (hf.strict ⟨hd, rfl⟩), .nil⟩
theorem tree_arrivesW (hC : Ctx P S G Sb) (hX : BackW P G Sb X) (hXa : ∀ fr cs v τ d, X fr cs v -> X fr cs (aT2 v τ d)) {b : Frame} {a : Act} {it : Item} {k : List Item} {cs : List Frame} {v : World} (hb : b.kind = .normal) (hd : a.defers = []) (hf : ∃ fn, P.funcs[b.fn]? = some fn) (hi : okI P G Sb it = true)
  (h : ∀ τ d, ∃ e a' w', Leads X b k cs e a' w' /\ Arrives P (lone (b.at a [it, mk]) [cBad] (aT2 v τ d)) b [mk] [cBad] e a' w') (hs : Selfw P S G (b.at a (it :: k)) cs v) : X (b.at a (it :: k)) cs v := by
 let Q : Sit := fun fr cs' w => cs' = [cBad] /\ ((∃ a', fr = b.at a' [mk] /\ X (b.at a' k) cs w) ∨ ∃ a' todo, fr = { b.at a' todo with mode := .returning } /\ ∀ todo, X { b.at a' todo with mode := .returning } cs w)
 have hQ : QOk Q := ⟨fun fr cs' w τ d hq => ⟨hq.1, hq.2.elim (fun ⟨a', e, hx⟩ => .inl ⟨a', e, hXa _ _ _ _ _ hx⟩) fun ⟨a', todo, e, hx⟩ => .inr ⟨a', todo, e, fun t => hXa _ _ _ _ _ (hx t)⟩⟩, fun fr cs' w hq => hq.1, fun fr cs' w c hq => by
  rcases hq.2 with ⟨a', e, _⟩ | ⟨a', todo, e, _⟩ <;> rw [e] <;> simp [Frame.at]⟩
 have hj : ∀ τ d, JI P S G Sb (b.at a [it, mk]) [cBad] (aT2 v τ d) := fun τ d => ⟨[], rfl, ⟨hb, hf, fun i hi' => by
  have hi' : i ∈ [it, mk] := hi'
  simp only [List.mem_cons, List.not_mem_nil, or_false] at hi'
  rcases hi' with rfl | rfl
  ·exact hi
  ·rfl⟩, .inl rfl, fun f hf => (by cases hf), (hs.piece hd).at2 τ d⟩
 have hT : T P (JI P S G Sb) Q (b.at a [it, mk]) [cBad] v := bar (JI.kept hC) hQ.at2 (by have := hj v.tape v.drawn; exact this) fun τ d => by
  obtain ⟨e, a', w', hl, ha⟩ := h τ d
  cases e with
  | normal =>
   obtain ⟨n, hn⟩ := ha
   exact reach_of_run hC hQ n (hj τ d) hn ⟨_, _, _, rfl, rfl, .inl ⟨a', rfl, hl⟩⟩
  | ret =>
   obtain ⟨todo, n, hn⟩ := ha
   exact reach_of_run hC hQ n (hj τ d) hn ⟨_, _, _, rfl, rfl, .inr ⟨a', todo, rfl, hl⟩⟩
  | _ => exact hl.elim
 refine TreeW.plug hX (E := [mk]) (K := k) (.inl rfl) (fun fr cs' w hq => ⟨hq.1, fun fp hp => ?_⟩) hT [] _ _ rfl (.base (b.at a [it, mk]) [it] rfl)
 rcases hq.2 with ⟨a', rfl, hx⟩ | ⟨a', todo, rfl, hx⟩
 ·cases hp with
  | base _ pre hpre =>
   have hpre : [mk] = pre ++ [mk] := hpre
   have : pre = [] := by
    cases pre with
    | nil => rfl
    | cons y p => have := congrArg List.length hpre; simp at this
   subst this
   exact hx
  | up _ _ _ hne _ => exact absurd rfl hne
 ·cases hp with
  | base _ pre hpre => exact hx (pre ++ k)
  | up _ _ _ hne _ => exact absurd rfl hne
def LeadsR (X : Sit) (b : Frame) (df : List Deferred) (k : List Item) (cs : List Frame) : Exit -> Act -> World -> Prop
 | .normal, a, w => X (b.atR { a with defers := df } k) cs w
 | _, _, _ => False
theorem tree_region (hC : Ctx P S G Sb) (hX : BackW P G Sb X) (hXa : ∀ fr cs v τ d, X fr cs v -> X fr cs (aT2 v τ d)) {b : Frame} {a : Act} {id : Nat} {dr : Bool} {ops : Array Oper} {k : List Item} {cs : List Frame} {v : World} (hb : b.kind = .normal) (hf : ∃ fn, P.funcs[b.fn]? = some fn) (hi : (ops.all fun o => okOp P (okX G Sb) Sb o.op) = true)
  (h : ∀ τ d, (Code.region id ops dr).wp P (LeadsR X b a.defers k cs) { a with defers := [] } (aT2 v τ d)) (hs : Selfw P S G (b.atR a (.code (.region id ops dr) :: k)) cs v) : X (b.atR a (.code (.region id ops dr) :: k)) cs v := by
 let b0 : Frame := { b with roundOf := none }
 let a0 : Act := { a with defers := [] }
 let Q : Sit := fun fr cs' w => cs' = [cBad] /\ ∃ a', fr = b0.at a' [mk] /\ X (b.atR { a' with defers := a.defers } k) cs w
 have hQ : QOk Q := ⟨fun fr cs' w τ d ⟨h1, a', e, hx⟩ => ⟨h1, a', e, hXa _ _ _ _ _ hx⟩, fun fr cs' w hq => hq.1, fun fr cs' w c ⟨_, a', e, _⟩ => by rw [e]; simp [Frame.at]⟩
 have hself : Self P S G (b0.at a0 [.code (.region id ops dr), mk]) [] v := by
  obtain ⟨hp, N0, ρ, hw, hG, hf, hl⟩ := hs
  exact ⟨hp, N0, ρ, hw, hG, ⟨rfl, hf.tmps, rfl, rfl, rfl, hf.early, rfl, rfl, rfl, rfl⟩, .nil⟩
 have hj : ∀ τ d, JI P S G Sb (b0.at a0 [.code (.region id ops dr), mk]) [cBad] (aT2 v τ d) := fun τ d => ⟨[], rfl, ⟨hb, hf, fun i hi' => by
  have hi' : i ∈ [Item.code (.region id ops dr), mk] := hi'
  simp only [List.mem_cons, List.not_mem_nil, or_false] at hi'
  rcases hi' with rfl | rfl
  ·exact hi
  ·rfl⟩, .inl rfl, fun f hf => (by cases hf), hself.at2 τ d⟩
 have hT : T P (JI P S G Sb) Q (b0.at a0 [.code (.region id ops dr), mk]) [cBad] v := bar (JI.kept hC) hQ.at2 (by have := hj v.tape v.drawn; exact this) fun τ d => by
  obtain ⟨e, a', w', hl, ha⟩ := h τ d b0 [mk] [cBad]
  cases e with
  | normal =>
   obtain ⟨n, hn⟩ := ha
   exact reach_of_run hC hQ n (hj τ d) hn ⟨_, _, _, rfl, rfl, a', rfl, hl⟩
  | _ => exact hl.elim
 refine TreeR.plug hX (K := k) (df := a.defers) (rr := b.roundOf) (fun fr cs' w hq => ⟨hq.1, fun fp hp => ?_⟩) hT [] _ _ rfl (.baseC (b0.at a0 [.code (.region id ops dr), mk]) id ops dr rfl)
 obtain ⟨_, a', rfl, hx⟩ := hq
 cases hp with
 | base0 _ hpre => exact hx
 | base _ l0 hpre => cases hpre
 | baseC _ _ _ _ hpre => cases hpre
 | up _ _ _ hne _ => exact absurd rfl hne
theorem tree_callsW (hC : Ctx P S G Sb) (hX : BackW P G Sb X) (hXa : ∀ fr cs v τ d, X fr cs v -> X fr cs (aT2 v τ d)) {f : FuncId} {args : Array Value} {c : Frame} {cs : List Frame} {v : World} (hf : S f) (hc : AtCall c)
  (h : ∀ τ d, Calls P f args (aT2 v τ d) fun e w => ∃ x, e = .returned x /\ X (c.finish x) cs w) (hs : Selfw P S G (Frame.enter P f args .normal) (c :: cs) v) : X (Frame.enter P f args .normal) (c :: cs) v := by
 let Q : Sit := fun fr cs' w => cs' = [cBad] /\ (fr.mode = .returning /\ Strict fr /\ fr.kind = .normal) /\ ∃ x, (∀ τ d, ∃ fn, P.funcs[fr.fn]? = some fn /\ (results fn fr.tmps).run P (aT2 w τ d) = .ok x (aT2 w τ d)) /\ X (c.finish x) cs w
 have hQ : QOk Q := ⟨fun fr cs' w τ d ⟨h1, h2, x, h3, h4⟩ => ⟨h1, h2, x, fun τ' d' => h3 τ' d', hXa _ _ _ _ _ h4⟩, fun fr cs' w hq => hq.1, fun fr cs' w c hq => by rw [hq.2.1.1]; simp⟩
 have hself : Self P S G (Frame.enter P f args .normal) [] v := by
  obtain ⟨hp, N0, ρ, hw, hG, hfr, hl⟩ := hs
  exact ⟨hp, N0, ρ, hw, hG, hfr.strict ⟨rfl, rfl⟩, .nil⟩
 have hj : ∀ τ d, JI P S G Sb (Frame.enter P f args .normal) [cBad] (aT2 v τ d) := fun τ d => ⟨[], rfl, okFr_enter hC hf args, .inl rfl, fun f hf => (by cases hf), hself.at2 τ d⟩
 have hT : T P (JI P S G Sb) Q (Frame.enter P f args .normal) [cBad] v := bar (JI.kept hC) hQ.at2 (by have := hj v.tape v.drawn; exact this) fun τ d => by
  obtain ⟨e, w', fr, ⟨x, rfl, hx⟩, hcm, hfn, hm, hd, hk, fn, hfn2, hr⟩ := h τ d [cBad]
  obtain ⟨n, hn⟩ := hcm
  have hji := ji_of_run hC n (hj τ d) hn (fun c h => by rw [hm] at h; cases h)
  have hp : Plain w' := by
   obtain ⟨fs, _, _, _, _, hs⟩ := hji
   exact hs.1
  refine reach_of_run hC hQ n (hj τ d) hn ⟨_, _, _, rfl, rfl, ⟨hm, hji.str, hk⟩, x, fun τ' d' => ⟨fn, hfn2, ?_⟩, hx⟩
  have hfin : Fin P (results fn fr.tmps) := by
   unfold Go.results
   refine Fin.bind (Fin.arrMapM (fun a => ?_) _) fun _ => Fin.pure _
   cases a with
   | tmp t => exact Fin.pure _
   | cell a t => exact Fin.bind (Fin.asAddr _) fun _ => Fin.loadVar _ _
  obtain ⟨_, k, h2, h3⟩ := run_shift hfin hp hr
  obtain rfl : k = 0 := by omega
  exact h3 τ' d' fun i hi => by omega
 refine TreeW.plug hX (E := []) (K := []) (.inr ⟨rfl, rfl⟩) (fun fr cs' w hq => ⟨hq.1, fun fp hp => ?_⟩) hT [] _ _ rfl (.base (Frame.enter P f args .normal) _ (by rw [List.append_nil]) : Plug [] [] (c :: cs) [Frame.enter P f args .normal] _)
 obtain ⟨_, ⟨hm, hd, hk⟩, x, hr, hx⟩ := hq
 cases hp with
 | up _ _ _ hne _ => exact absurd rfl hne
 | base _ pre hpre =>
  rw [List.append_nil] at hpre
  obtain ⟨hcm, ops, i, r, k, hct⟩ := hc
  have hst : ∀ τ d, (stepS P { fr with todo := pre ++ [] } (c :: cs)).run P (aT2 w τ d) = .ok (c.finish x, cs) (aT2 w τ d) := fun τ d => by
   obtain ⟨fn, hfn, hr⟩ := hr τ d
   exact stepS_ret hm hk hfn hct hr
  refine hX _ _ _ ?_ (tmw_strict hd) (fun τ d => ⟨_, _, hst τ d⟩) fun τ d y w' hy => ?_
  ·unfold okHead
   simp only [hm]
  ·rw [hst] at hy
   injection hy with e1 e2
   subst e1 e2
   exact hXa _ _ _ _ _ hx
end
theorem tmw_atR {b : Frame} {a : Act} {i : Item} {t : List Item} (h : ∀ k, i :: t ≠ .code .ret :: k) : TmW (b.atR a (i :: t)) := ⟨fun e => (by cases e), fun _ => ⟨rfl, by simp [Frame.atR], h⟩⟩
structure WalkL (P : Program) (S : FuncId -> Prop) (G Sb : Nat -> Bool) (X : Sit) : Prop where
 back : BackW P G Sb X
 at2 : ∀ fr cs v τ d, X fr cs v -> X fr cs (aT2 v τ d)
 self : ∀ fr cs v, (Selfw P S G fr cs v -> X fr cs v) -> X fr cs v
def LS (P : Program) (S : FuncId -> Prop) (G Sb : Nat -> Bool) (K : Sit) (Λ : Option LRec) : Sit := fun fr cs v => Selfw P S G fr cs v -> L P S G Sb K Λ fr cs v
section
variable {P : Program} {S : FuncId -> Prop} {G Sb : Nat -> Bool} {F : Value -> Prop} {Γ : List Post} {ch : Option Nat} {K : Sit} {Λ : Option LRec}
theorem LS.walk (hC : Ctx P S G Sb) (hK : ∀ fr cs v τ d, K fr cs v -> K fr cs (aT2 v τ d)) : WalkL P S G Sb (LS P S G Sb K Λ) where
 back fr cs v hh ht h k hs := .step _ _ _ _ hh ht h fun τ d x v' hr => k τ d x v' hr (Selfw.step hC hh (hs.at2 τ d) hr)
 at2 fr cs v τ d h hs := (((h hs.of_at2).at2 τ d)).mono fun fr cs v ⟨v0, τ', d', h0, e⟩ => by rw [e]; exact hK _ _ _ _ _ h0
 self fr cs v h hs := h hs hs
variable {X : Sit} {b : Frame} {a : Act} {k : List Item} {cs : List Frame} {v v' : World}
theorem WalkL.one (hX : WalkL P S G Sb X) {fr fr' : Frame} {cs' : List Frame} (ho : okHead P G Sb fr) (ht : TmW fr) (h : ∀ τ d, (stepS P fr cs).run P (aT2 v τ d) = .ok (fr', cs') (aT2 v' τ d)) (k : X fr' cs' v') : X fr cs v :=
 hX.back fr cs v ho ht (fun τ d => ⟨_, _, h τ d⟩) fun τ d x w hr => by
  rw [h] at hr
  injection hr with e1 e2
  subst e1 e2
  exact hX.at2 _ _ _ τ d k
theorem WalkL.seq (hX : WalkL P S G Sb X) {x y : Code} (h : X (b.at a (.code x :: .code y :: k)) cs v) : X (b.at a (.code (.seq x y) :: k)) cs v := hX.one trivial tmw_at (fun _ _ => rfl) h
theorem WalkL.skip (hX : WalkL P S G Sb X) (h : X (b.at a k) cs v) : X (b.at a (.code .skip :: k)) cs v := hX.one trivial tmw_at (fun _ _ => rfl) h
theorem WalkL.label (hX : WalkL P S G Sb X) {n : Nat} (h : X (b.at a k) cs v) : X (b.at a (.code (.label n) :: k)) cs v := hX.one trivial tmw_at (fun _ _ => rfl) h
theorem WalkL.inBlock (hX : WalkL P S G Sb X) {n : Nat} (h : X (b.at a k) cs v) : X (b.at a (.inBlock n :: k)) cs v := hX.one trivial tmw_at (fun _ _ => rfl) h
theorem WalkL.inScope (hX : WalkL P S G Sb X) {c : Code} (h : X (b.at a k) cs v) : X (b.at a (.inScope c :: k)) cs v := hX.one trivial tmw_at (fun _ _ => rfl) h
theorem WalkL.block (hX : WalkL P S G Sb X) {n : Nat} {c : Code} (h : X (b.at a (.code c :: .inBlock n :: k)) cs v) : X (b.at a (.code (.block n c) :: k)) cs v := hX.one trivial tmw_at (fun _ _ => rfl) h
theorem WalkL.loop (hX : WalkL P S G Sb X) {c : Code} (h : X (b.at a (.code c :: .inLoop c :: k)) cs v) : X (b.at a (.code (.loop c) :: k)) cs v := hX.one trivial tmw_at (fun _ _ => rfl) h
theorem WalkL.again (hX : WalkL P S G Sb X) {c : Code} (h : X (b.at a (.code c :: .inLoop c :: k)) cs v) : X (b.at a (.inLoop c :: k)) cs v := hX.one trivial tmw_at (fun _ _ => rfl) h
theorem WalkL.scope (hX : WalkL P S G Sb X) {c : Code} (h : X (b.at a (.code c :: .inScope c :: k)) cs v) : X (b.at a (.code (.scope c) :: k)) cs v := hX.one trivial tmw_at (fun _ _ => rfl) h
theorem WalkL.exit (hX : WalkL P S G Sb X) {n : Nat} {k' : List Item} (he : exitTo n k = some k') (h : X (b.at a k') cs v) : X (b.at a (.code (.exit n) :: k)) cs v := hX.one trivial tmw_at (fun τ d => by
 unfold stepS
 show Sem.run P (match exitTo n k with | some k' => Pure.pure _ | none => stuck "exit") _ = _
 rw [he]; rfl) h
theorem WalkL.ret (hX : WalkL P S G Sb X) (h : X { b.at a (.code .ret :: k) with mode := .returning } cs v) : X (b.at a (.code .ret :: k)) cs v := hX.one trivial tmw_at (fun _ _ => rfl) h
theorem WalkL.cond (hX : WalkL P S G Sb X) {c : Operand} {x y : Code} {t : Bool} (hc : okX G Sb c = true) (he : a.eval c = .bool t) (h : X (b.at a (.code (if t then x else y) :: k)) cs v) : X (b.at a (.code (.cond c x y) :: k)) cs v := hX.one hc tmw_at (fun τ d => by
 unfold stepS
 show Sem.run P (match a.eval c with | .bool _ => _ | _ => stuck "cond") _ = _
 rw [he]; rfl) h
theorem WalkL.region (hX : WalkL P S G Sb X) {n : Nat} {ops : Array Oper} (h : X (b.at a (.inRegion ops (List.range ops.size) :: k)) cs v) : X (b.at a (.code (.region n ops false) :: k)) cs v := hX.one trivial tmw_at (fun _ _ => rfl) h
theorem WalkL.done (hX : WalkL P S G Sb X) {ops : Array Oper} (h : X (b.at a k) cs v) : X (b.at a (.inRegion ops [] :: k)) cs v := hX.one trivial tmw_at (fun _ _ => rfl) h
theorem WalkL.drawn (hX : WalkL P S G Sb X) {n : Nat} {ops : Array Oper} (h : ∀ t, X (b.at a (.inRegion ops (Region.schedule (P.follows .mixedOrders) ops t) :: k)) cs v) : X (b.at a (.code (.region n ops true) :: k)) cs v := by
 refine hX.back _ _ _ trivial tmw_at (fun τ d => ?_) fun τ d x w hr => ?_
 ·have : (stepS P (b.at a (.code (.region n ops true) :: k)) cs) = (choose (.order b.fn n) >>= fun t => Pure.pure (b.at a (.inRegion ops (Region.schedule (P.follows .mixedOrders) ops t) :: k), cs)) := rfl
  rw [this]
  show ∃ x v', Sem.run P (Sem.bind _ _) _ = _
  rw [Sem.run_bind']
  exact ⟨_, _, rfl⟩
 ·have e : (stepS P (b.at a (.code (.region n ops true) :: k)) cs) = (choose (.order b.fn n) >>= fun t => Pure.pure (b.at a (.inRegion ops (Region.schedule (P.follows .mixedOrders) ops t) :: k), cs)) := rfl
  rw [e] at hr
  obtain ⟨t, w1, h1, h2⟩ := run_bind_ok hr
  obtain ⟨rfl, rfl⟩ := run_pure_ok h2
  have hw : ∃ d', w1 = aT2 v τ d' := by
   have h1 : (choose (.order b.fn n)).run P (aT2 v τ d) = .ok t w1 := h1
   have h1 : Result.ok _ ({ aT2 v τ d with drawn := (aT2 v τ d).drawn + 1 } : World) = .ok t w1 := h1
   injection h1 with _ h1
   exact ⟨d + 1, h1.symm⟩
  obtain ⟨d', rfl⟩ := hw
  exact hX.at2 _ _ _ _ _ (h t)
theorem WalkL.value (hX : WalkL P S G Sb X) {ops : Array Oper} {i : Nat} {r : List Nat} {o : Oper} {x : Value} (ho : ops[i]? = some o) (hk : okOp P (okX G Sb) Sb o.op = true) (hw : Region.wanted o (yielded ops a.tmps) = true)
  (he : ∀ τ d, (execOp a.eval o).run P (aT2 v τ d) = .ok (.value x) (aT2 v' τ d)) (h : X (b.at (a.put o.dst x) (.inRegion ops r :: k)) cs v') : X (b.at a (.inRegion ops (i :: r) :: k)) cs v := by
 refine hX.one (fr' := b.at (a.put o.dst x) (.inRegion ops r :: k)) (fun o' ho' => by rw [ho] at ho'; injection ho' with ho'; subst ho'; exact hk) tmw_at (fun τ d => ?_) h
 have hfin : (b.at a (.inRegion ops (i :: r) :: k)).finish x = b.at (a.put o.dst x) (.inRegion ops r :: k) := by rw [Frame.finish_at, ho]; rfl
 rw [<- hfin]
 unfold stepS
 show Sem.run P (match ops[i]? with | none => _ | some o => _) _ = _
 rw [ho]
 show Sem.run P (if Region.wanted o (yielded ops a.tmps) = true then _ else _) _ = _
 rw [if_pos hw]
 show Sem.run P (Sem.bind (execOp a.eval o) _) _ = _
 rw [Sem.run_bind', he]
 rfl
theorem WalkL.unit (hX : WalkL P S G Sb X) {ops : Array Oper} {i : Nat} {r : List Nat} {o : Oper} (ho : ops[i]? = some o) (hk : okOp P (okX G Sb) Sb o.op = true) (hw : Region.wanted o (yielded ops a.tmps) = true)
  (he : ∀ τ d, (execOp a.eval o).run P (aT2 v τ d) = .ok .skip (aT2 v' τ d)) (h : X (b.at (a.put o.dst undef) (.inRegion ops r :: k)) cs v') : X (b.at a (.inRegion ops (i :: r) :: k)) cs v := by
 refine hX.one (fr' := b.at (a.put o.dst undef) (.inRegion ops r :: k)) (fun o' ho' => by rw [ho] at ho'; injection ho' with ho'; subst ho'; exact hk) tmw_at (fun τ d => ?_) h
 have hfin : (b.at a (.inRegion ops (i :: r) :: k)).finish undef = b.at (a.put o.dst undef) (.inRegion ops r :: k) := by rw [Frame.finish_at, ho]; rfl
 rw [<- hfin]
 unfold stepS
 show Sem.run P (match ops[i]? with | none => _ | some o => _) _ = _
 rw [ho]
 show Sem.run P (if Region.wanted o (yielded ops a.tmps) = true then _ else _) _ = _
 rw [if_pos hw]
 show Sem.run P (Sem.bind (execOp a.eval o) _) _ = _
 rw [Sem.run_bind', he]
 rfl
theorem WalkL.pass (hX : WalkL P S G Sb X) {ops : Array Oper} {i : Nat} {r : List Nat} {o : Oper} (ho : ops[i]? = some o) (hk : okOp P (okX G Sb) Sb o.op = true) (hw : Region.wanted o (yielded ops a.tmps) = false)
  (h : X (b.at (a.put o.dst undef) (.inRegion ops r :: k)) cs v) : X (b.at a (.inRegion ops (i :: r) :: k)) cs v := by
 refine hX.one (fr' := b.at (a.put o.dst undef) (.inRegion ops r :: k)) (fun o' ho' => by rw [ho] at ho'; injection ho' with ho'; subst ho'; exact hk) tmw_at (fun τ d => ?_) h
 have hfin : (b.at a (.inRegion ops (i :: r) :: k)).finish undef = b.at (a.put o.dst undef) (.inRegion ops r :: k) := by rw [Frame.finish_at, ho]; rfl
 rw [<- hfin]
 unfold stepS
 show Sem.run P (match ops[i]? with | none => _ | some o => _) _ = _
 rw [ho]
 show Sem.run P (if Region.wanted o (yielded ops a.tmps) = true then _ else _) _ = _
 rw [if_neg (by rw [hw]; simp)]
 rfl
theorem WalkL.enter (hX : WalkL P S G Sb X) {ops : Array Oper} {i : Nat} {r : List Nat} {o : Oper} {f : FuncId} {args : Array Value} (ho : ops[i]? = some o) (hk : okOp P (okX G Sb) Sb o.op = true) (hw : Region.wanted o (yielded ops a.tmps) = true)
  (he : ∀ τ d, (execOp a.eval o).run P (aT2 v τ d) = .ok (.enter f args) (aT2 v τ d)) (h : X (Frame.enter P f args .normal) (b.at a (.inRegion ops (i :: r) :: k) :: cs) v) : X (b.at a (.inRegion ops (i :: r) :: k)) cs v := by
 refine hX.one (fr' := Frame.enter P f args .normal) (fun o' ho' => by rw [ho] at ho'; injection ho' with ho'; subst ho'; exact hk) tmw_at (fun τ d => ?_) h
 unfold stepS
 show Sem.run P (match ops[i]? with | none => _ | some o => _) _ = _
 rw [ho]
 show Sem.run P (if Region.wanted o (yielded ops a.tmps) = true then _ else _) _ = _
 rw [if_pos hw]
 show Sem.run P (Sem.bind (execOp a.eval o) _) _ = _
 rw [Sem.run_bind', he]
 rfl
theorem WalkL.back' (hX : WalkL P S G Sb X) {fr : Frame} {ops : Array Oper} {i : Nat} {r : List Nat} {o : Oper} {fn : Func} {x : Value} (hm : fr.mode = .returning) (hd : Strict fr) (hk : fr.kind = .normal) (hf : P.funcs[fr.fn]? = some fn) (ho : ops[i]? = some o)
  (hr : ∀ τ d, (results fn fr.tmps).run P (aT2 v τ d) = .ok x (aT2 v τ d)) (h : X (b.at (a.put o.dst x) (.inRegion ops r :: k)) cs v) : X fr (b.at a (.inRegion ops (i :: r) :: k) :: cs) v := by
 have hfin : (b.at a (.inRegion ops (i :: r) :: k)).finish x = b.at (a.put o.dst x) (.inRegion ops r :: k) := by rw [Frame.finish_at, ho]; rfl
 refine hX.one (fr' := b.at (a.put o.dst x) (.inRegion ops r :: k)) (by unfold okHead; rw [hm]; trivial) (tmw_strict hd) (fun τ d => ?_) h
 rw [<- hfin]
 exact stepS_ret hm hk hf rfl (hr τ d)
theorem WalkL.seqR (hX : WalkL P S G Sb X) {x y : Code} (h : X (b.atR a (.code x :: .code y :: k)) cs v) : X (b.atR a (.code (.seq x y) :: k)) cs v := hX.one trivial (tmw_atR (by intro k e; cases e)) (fun _ _ => rfl) h
theorem WalkL.skipR (hX : WalkL P S G Sb X) (h : X (b.atR a k) cs v) : X (b.atR a (.code .skip :: k)) cs v := hX.one trivial (tmw_atR (by intro k e; cases e)) (fun _ _ => rfl) h
theorem WalkL.inBlockR (hX : WalkL P S G Sb X) {n : Nat} (h : X (b.atR a k) cs v) : X (b.atR a (.inBlock n :: k)) cs v := hX.one trivial (tmw_atR (by intro k e; cases e)) (fun _ _ => rfl) h
theorem WalkL.blockR (hX : WalkL P S G Sb X) {n : Nat} {c : Code} (h : X (b.atR a (.code c :: .inBlock n :: k)) cs v) : X (b.atR a (.code (.block n c) :: k)) cs v := hX.one trivial (tmw_atR (by intro k e; cases e)) (fun _ _ => rfl) h
theorem WalkL.condR (hX : WalkL P S G Sb X) {c : Operand} {x y : Code} {t : Bool} (hc : okX G Sb c = true) (he : a.eval c = .bool t) (h : X (b.atR a (.code (if t then x else y) :: k)) cs v) : X (b.atR a (.code (.cond c x y) :: k)) cs v := hX.one hc (tmw_atR (by intro k e; cases e)) (fun τ d => by
 unfold stepS
 show Sem.run P (match a.eval c with | .bool _ => _ | _ => stuck "cond") _ = _
 rw [he]; rfl) h
theorem WalkL.wp (hC : Ctx P S G Sb) (hX : WalkL P S G Sb X) {c : Code} (hb : b.kind = .normal) (hd : a.defers = []) (hf : ∃ fn, P.funcs[b.fn]? = some fn) (hc : okC P G Sb c = true) (h : ∀ τ d, c.wp P (Leads X b k cs) a (aT2 v τ d)) : X (b.at a (.code c :: k)) cs v :=
 hX.self _ _ _ fun hs => tree_arrivesW hC hX.back hX.at2 hb hd hf (it := .code c) hc (fun τ d => h τ d b [Go.Proofs.YtlipmagkplbkdaaDoor.mk] [cBad]) hs
theorem WalkL.wpOps (hC : Ctx P S G Sb) (hX : WalkL P S G Sb X) {ops : Array Oper} {l : List Nat} (hb : b.kind = .normal) (hd : a.defers = []) (hf : ∃ fn, P.funcs[b.fn]? = some fn) (hc : (ops.all fun o => okOp P (okX G Sb) Sb o.op) = true)
  (h : ∀ τ d, Go.wpOps P ops (Leads X b k cs) l a (aT2 v τ d)) : X (b.at a (.inRegion ops l :: k)) cs v :=
 hX.self _ _ _ fun hs => tree_arrivesW hC hX.back hX.at2 hb hd hf (it := .inRegion ops l) hc (fun τ d => wp_ops l a _ (h τ d) b [Go.Proofs.YtlipmagkplbkdaaDoor.mk] [cBad]) hs
theorem WalkL.calls (hC : Ctx P S G Sb) (hX : WalkL P S G Sb X) {ops : Array Oper} {i : Nat} {r : List Nat} {o : Oper} {f : FuncId} {args : Array Value} (ho : ops[i]? = some o) (hk : okOp P (okX G Sb) Sb o.op = true) (hw : Region.wanted o (yielded ops a.tmps) = true) (hf : S f)
  (he : ∀ τ d, (execOp a.eval o).run P (aT2 v τ d) = .ok (.enter f args) (aT2 v τ d)) (h : ∀ τ d, Calls P f args (aT2 v τ d) fun e w => ∃ x, e = .returned x /\ X (b.at (a.put o.dst x) (.inRegion ops r :: k)) cs w) : X (b.at a (.inRegion ops (i :: r) :: k)) cs v := by
 refine hX.enter ho hk hw he (hX.self _ _ _ fun hs => tree_callsW hC hX.back hX.at2 hf ⟨rfl, ops, i, r, k, rfl⟩ (fun τ d => ?_) hs)
 have hfin : ∀ x, (b.at a (.inRegion ops (i :: r) :: k)).finish x = b.at (a.put o.dst x) (.inRegion ops r :: k) := fun x => by rw [Frame.finish_at, ho]; rfl
 exact (h τ d).mono fun e w ⟨x, hx, hX'⟩ => ⟨x, hx, by rw [hfin]; exact hX'⟩
theorem WalkL.reg (hC : Ctx P S G Sb) (hX : WalkL P S G Sb X) {id : Nat} {dr : Bool} {ops : Array Oper} (hb : b.kind = .normal) (hf : ∃ fn, P.funcs[b.fn]? = some fn) (hc : (ops.all fun o => okOp P (okX G Sb) Sb o.op) = true)
  (h : ∀ τ d, (Code.region id ops dr).wp P (LeadsR X b a.defers k cs) { a with defers := [] } (aT2 v τ d)) : X (b.atR a (.code (.region id ops dr) :: k)) cs v :=
 hX.self _ _ _ fun hs => tree_region hC hX.back hX.at2 hb hf hc h hs
theorem WalkL.fall (hX : WalkL P S G Sb X) (h : X { b.at a [] with mode := .returning } cs v) : X (b.at a []) cs v := hX.one trivial tmw_at (fun _ _ => rfl) h
theorem WalkL.loopN (hX : WalkL P S G Sb X) {body : Code} (I : Nat -> Act -> World -> Prop) (round : ∀ n a v, I n a v -> (∀ n' a' v', n' < n -> I n' a' v' -> X (b.at a' (.inLoop body :: k)) cs v') -> X (b.at a (.code body :: .inLoop body :: k)) cs v) :
  ∀ n a v, I n a v -> X (b.at a (.code (.loop body) :: k)) cs v := by
 have key : ∀ n a v, I n a v -> X (b.at a (.code body :: .inLoop body :: k)) cs v := by
  intro n
  induction n using Nat.strongRecOn with
  | _ n ih => exact fun a v h => round n a v h fun n' a' v' hn h' => hX.again (ih n' hn a' v' h')
 exact fun n a v h => hX.loop (key n a v h)
end
end
end Go.Proofs.YtlipmagkplbkdaaDoor
