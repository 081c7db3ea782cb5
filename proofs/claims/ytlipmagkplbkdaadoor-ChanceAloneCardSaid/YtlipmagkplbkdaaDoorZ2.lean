/- Texts of the proof that the statement of ChanceAlone holds, several in one. -/
import Derived.Test.YtlipmagkplbkdaaDoorZ1
import Derived.Conc.CrowdComm
import Derived.DyingRun
import Derived.AtR
import Derived.Conc.Beside
import Derived.Below
import Derived.Conc.Quits
import Derived.Conc.QuitsD
import Derived.Conc.Own2
set_option linter.unusedVariables false
set_option linter.unusedSimpArgs false
set_option linter.unusedSectionVars false
set_option maxRecDepth 100000
set_option maxHeartbeats 8000000
namespace Go.Proofs.YtlipmagkplbkdaaDoor
section
open Go Go.Conc
def StopM (Q : Sit) (m : Machine) : Prop := ∃ fr cs v, m = lone fr cs v /\ Q fr cs v
structure QOk (Q : Sit) : Prop where
 at2 : ∀ fr cs v τ d, Q fr cs v -> Q fr cs (aT2 v τ d)
 base : ∀ fr cs v, Q fr cs v -> cs = [cBad]
 mode : ∀ fr cs v ch, Q fr cs v -> fr.mode ≠ .panicking ch
section
variable {P : Program} {S : FuncId -> Prop} {G Sb : Nat -> Bool} {Q : Sit}
theorem lone_inj {fr fr' : Frame} {cs cs' : List Frame} {w w' : World} (h : lone fr cs w = lone fr' cs' w') : fr = fr' /\ cs = cs' /\ w = w' := by
 unfold lone at h
 injection h with h1 h2 h3
 have h2 := congrArg (fun a : Array Goroutine => a[0]?) h2
 simp only [List.getElem?_toArray, List.getElem?_cons_zero, Option.some.injEq] at h2
 injection h2 with h4 h5
 exact ⟨h4, h5, h1⟩
def Dead (P : Program) (Q : Sit) (m : Machine) : Prop := ∀ n m', runN P n m = .next m' -> ¬ StopM Q m'
theorem Dead.ended {m : Machine} {o : Outcome} {w : World} (h : step P m = .ended o w) (h0 : ¬ StopM Q m) : Dead P Q m := fun n m' hr => by
 cases n with
 | zero => simp only [runN, Stepped.next.injEq] at hr; exact hr ▸ h0
 | succ n => simp only [runN, h] at hr; cases hr
theorem Dead.next {m m1 : Machine} (h : step P m = .next m1) (h0 : ¬ StopM Q m) (h1 : Dead P Q m1) : Dead P Q m := fun n m' hr => by
 cases n with
 | zero => simp only [runN, Stepped.next.injEq] at hr; exact hr ▸ h0
 | succ n => simp only [runN, h] at hr; exact h1 n m' hr
theorem not_panic (hQ : QOk Q) {fr : Frame} {cs : List Frame} {v : World} {ch : List PanicEntry} (h : fr.mode = .panicking ch) : ¬ StopM Q (lone fr cs v) := by
 rintro ⟨fr', cs', v', e, hq⟩
 obtain ⟨rfl, rfl, rfl⟩ := lone_inj e
 exact hQ.mode _ _ _ _ hq h
theorem not_base (hQ : QOk Q) {fr : Frame} {cs : List Frame} {v : World} (h : cs ≠ [cBad]) : ¬ StopM Q (lone fr cs v) := by
 rintro ⟨fr', cs', v', e, hq⟩
 obtain ⟨rfl, rfl, rfl⟩ := lone_inj e
 exact h (hQ.base _ _ _ hq)
theorem dead_panic (hQ : QOk Q) : ∀ (fs : List Frame) (fr : Frame) (v : World) (ch : List PanicEntry), fr.mode = .panicking ch -> fr.defers = [] -> (∃ fn, P.funcs[fr.fn]? = some fn) ->
  (∀ f ∈ fs, f.mode = .run /\ f.defers = [] /\ ∃ fn, P.funcs[f.fn]? = some fn) -> Dead P Q (lone fr (fs ++ [cBad]) v)
 | [], fr, v, ch, hm, hd, ⟨fn, hf⟩, _ => by
  have h1 : step P (lone fr ([] ++ [cBad]) v) = .next (lone (cBad.raise ch) [] v) := step_lone_go (by simp [stepG, unwind, hm, hd, hf, Frame.catches])
  refine Dead.next h1 (not_panic hQ hm) (Dead.ended (o := _) (w := v) (step_lone_ended (o := .unsupported (.noEntry "machine/Return: a deferred call of a nil function value, made while the frame is unwinding") (({ cBad.raise ch with defers := [] } : Frame).pos P)) ?_) (not_base hQ (by simp)))
  simp [stepG, unwind, callDeferred, cBad, Frame.raise]
 | c :: fs, fr, v, ch, hm, hd, ⟨fn, hf⟩, hfs => by
  have hc := hfs c (List.mem_cons_self ..)
  have h1 : step P (lone fr ((c :: fs) ++ [cBad]) v) = .next (lone (c.raise ch) (fs ++ [cBad]) v) := step_lone_go (by simp [stepG, unwind, hm, hd, hf, Frame.catches])
  have e : c.raise ch = { c with mode := .panicking ch } := by simp [Frame.raise, hc.1]
  rw [e] at h1
  exact Dead.next h1 (not_panic hQ hm) (dead_panic hQ fs _ v ch rfl hc.2.1 hc.2.2 fun f hf => hfs f (List.mem_cons_of_mem _ hf))
theorem FsRel.defers : ∀ {fs : List Frame} {ρ : Ren}, FsRel S ρ fs fs -> ∀ f ∈ fs, f.defers = []
 | [], _, _, f, hf => by cases hf
 | c :: fs, _, .cons h hl, f, hf => by
  rcases List.mem_cons.1 hf with e | e
  ·rw [e]; exact h.defers
  ·exact FsRel.defers hl f e
theorem oper_comm {main : Bool} {fr : Frame} {cs : List Frame} {w w' : World} {es : Array Event} {ops : Array Oper} {i : Nat} {r : List Nat} {k : List Item} {o : Oper} {cases : Array CommCase} {bl : Bool} {sh : CommShape} (ht : Tm fr) (hm : fr.mode = .run) (hto : fr.todo = .inRegion ops (i :: r) :: k) (ho : ops[i]? = some o) (hw : Region.wanted o (yielded ops fr.tmps) = true)
  (hr : (execOp fr.eval o).runT P w #[] = (.ok (.comm cases bl sh) w', es)) : stepG P main (Go.Conc.G fr cs) w = .comm (Go.Conc.G fr cs) cases bl sh w' (seen P fr.fn es) := by
 obtain ⟨fn, tmps, todo, defers, mode, kind, roundOf⟩ := fr
 obtain ⟨h1, h2, h3⟩ := ht
 simp only at h1 h2 h3 hm hto
 subst h1 h2 hm hto
 have hk : (kind == CallKind.early) = false := by simpa using h3
 simp only [Go.Conc.G, stepG, stepG.exec, ho, Option.map_some, hw, Option.getD_some, if_true, stepG.oper, Frame.oper?, stepG.apply, hr, hk]
 simp [GStep.after]
theorem send_dead {fr : Frame} {cs : List Frame} {v v' : World} {es : Array Event} {u x z : Value} (hst : stepG P true (Go.Conc.G fr cs) v = .comm (Go.Conc.G fr cs) #[{ chan := u, send := some x, zero := z }] true .send v' es) (hp : Plain v') :
  (∃ o w', step P (lone fr cs v) = .ended o w') ∨ ∃ m1, step P (lone fr cs v) = .next m1 /\ Dead P Q m1 := by
 have hl : lone fr cs v = crowd #[Go.Conc.G fr cs] v none := rfl
 have hs : step P (lone fr cs v) = (runT P (crowd #[Go.Conc.G fr cs] v none) 0).1 := by rw [step, stepT, move_lone, hl]
 rw [hs]
 by_cases hu : u = .chan none
 ·subst hu
  have h := crowd_waits (P := P) (gs := #[Go.Conc.G fr cs]) (w := v) (sl := none) (i := 0) (g := Go.Conc.G fr cs) rfl hst fun cc hcc => by
   have : cc = { chan := .chan none, send := some x, zero := z } := by simpa using hcc
   subst this
   exact ways_nil _
  rw [h]
  refine .inr ⟨_, rfl, ?_⟩
  obtain ⟨o', w', he, ho⟩ := endWith_ended v' 2 (bytes "fatal error: all goroutines are asleep - deadlock!\n") (.fatal "all goroutines are asleep - deadlock!")
  refine Dead.ended (o := o') (w := w') ?_ ?_
  ·simp [step, stepT, move, ask, askOn, crowd, parked, runnable_eq, due, ahead, Goroutine.canRun, List.range_succ, pure, Go.Conc.G]
   rw [he]
  ·rintro ⟨fr', cs', v2, e, _⟩
   have := congrArg (fun m : Machine => (m.gs[0]?).map (·.status)) e
   simp [crowd, parked, lone] at this
 ·refine .inl ⟨.stuck "a communication at a channel whose block is no channel's" (fr.pos P), v', ?_⟩
  rw [runT_crowd_comm (P := P) (gs := #[Go.Conc.G fr cs]) (i := 0) (g := Go.Conc.G fr cs) rfl hst]
  have hill : illMade v' { chan := u, send := some x, zero := z } = true := by
   unfold illMade
   simp only
   cases u <;> first | rfl | skip
   rename_i r
   cases r with
   | none => exact absurd rfl hu
   | some r =>
    simp only
    cases hr : v'.heap[r]? with
    | none => rfl
    | some o =>
     have := hp r o hr
     cases o <;> first | rfl | cases this
  have hany : (#[{ chan := u, send := some x, zero := z }] : Array CommCase).any (illMade v') = true := by simp [hill]
  unfold communicate
  simp only
  rw [if_pos]
  ·rfl
  ·exact hany
theorem after_halt (hC : Ctx P S G Sb) (hQ : QOk Q) {fr : Frame} {cs : List Frame} {v : World} (h : JI P S G Sb fr cs v) {x : Halt} {w : World} (hr : (stepS P fr cs).run P v = .halt x w) : (∃ o w', step P (lone fr cs v) = .ended o w') ∨ ∃ m1, step P (lone fr cs v) = .next m1 /\ Dead P Q m1 := by
 have hfin := fin_run ((JI.kept hC).fin _ _ _ h) ((JI.kept hC).plain _ _ _ h)
 rw [hr] at hfin
 have hfine : fineH x = true := hfin
 obtain ⟨fs, rfl, ho, hm, hfs, hs⟩ := h
 have hh := ho.head
 obtain ⟨hp, N0, ρ, hw, hG, hf, hl⟩ := hs
 have hround := hf.round
 have hdef := hf.defers
 have hfd := FsRel.defers hl
 have hpan : ∀ (w' : World) (ch : List PanicEntry), Dead P Q (lone { fr with mode := .panicking ch } (fs ++ [cBad]) w') := fun w' ch =>
  dead_panic hQ fs _ w' ch rfl hdef ho.fn fun f hf => ⟨(hfs f hf).2.1, hfd f hf, (hfs f hf).1.fn⟩
 rcases hm with hm | hm
 ·have hra : ∀ ch, fr.raise ch = { fr with mode := .panicking ch } := fun ch => by simp [Frame.raise, hm]
  unfold Go.Proofs.YtlipmagkplbkdaaDoor.stepS at hr
  rw [hm] at hr
  simp only at hr
  split at hr
  case h_8 c a b k ht =>
   refine .inl ⟨.stuck "cond: bool expected" (fr.pos P), v, step_lone_ended ?_⟩
   cases he : fr.eval c with
   | bool t => rw [he] at hr; cases hr
   | _ => simp [stepG, stepG.exec, hm, ht, he]
  case h_13 id k ht =>
   refine .inl ⟨.stuck "exit, goto: no such block or label" (fr.pos P), v, step_lone_ended ?_⟩
   cases he : exitTo id k with
   | some k' => rw [he] at hr; cases hr
   | none => simp [stepG, stepG.exec, hm, ht, he, hround]
  case h_14 id ops draw k ht =>
   split at hr
   ·exfalso
    have hr : (Sem.bind (choose (.order fr.fn id)) _).run P v = .halt x w := hr
    rw [Sem.run_bind'] at hr
    have hc : ∃ t v', (choose (.order fr.fn id)).run P v = .ok t v' := by
     show ∃ t v', (if (Question.order fr.fn id).forced = true then Result.ok 0 v else .ok ((Question.order fr.fn id).cut (v.tape v.drawn (.order fr.fn id))) { v with drawn := v.drawn + 1 }) = .ok t v'
     exact ⟨_, _, rfl⟩
    obtain ⟨t, v', hc⟩ := hc
    rw [hc] at hr
    cases hr
   ·cases hr
  case h_16 ops i rest k ht =>
   cases hop : ops[i]? with
   | none => rw [hop] at hr; cases hr
   | some o =>
    simp only [hop] at hr
    by_cases hwt : Region.wanted o (yielded ops fr.tmps) = true
    ·simp only [hwt, if_true] at hr
     have hr : (Sem.bind (execOp fr.eval o) _).run P v = .halt x w := hr
     rw [Sem.run_bind'] at hr
     have hev := fun x hx => hf.eval hG hC.sb x hx
     unfold okHead at hh
     rw [hm, ht] at hh
     have hg : ∀ (r : GStep), stepG.apply P true fr (fs ++ [cBad]) none (execOp fr.eval o) v = r -> stepG P true { frame := fr, callers := fs ++ [cBad], status := .running, dying := none } v = r := fun r e => by
      rw [<- e]
      simp [stepG, stepG.exec, stepG.oper, Frame.oper?, hm, ht, hop, hwt, hround]
     by_cases hsend : ∃ u x z v', (execOp fr.eval o).run P v = .ok (.comm #[{ chan := u, send := some x, zero := z }] true .send) v'
     ·obtain ⟨u, x, z, v', he⟩ := hsend
      have hp' : Plain v' := by
       have := fin_run (Fin.execOp hC.fin hev o (hh o hop)) hp
       rw [he] at this
       exact this
      obtain ⟨es, hT⟩ : ∃ es, (execOp fr.eval o).runT P v #[] = (.ok (.comm #[{ chan := u, send := some x, zero := z }] true .send) v', es) := ⟨_, by rw [Sem.runT_eq, he]⟩
      exact send_dead (oper_comm (main := true) hf.tm' hm ht hop hwt hT) hp'
     have hns : ∀ u x z v', (execOp fr.eval o).run P v = .ok (.comm #[{ chan := u, send := some x, zero := z }] true .send) v' -> ¬ (True = True) := fun u x z v' e _ => hsend ⟨u, x, z, v', e⟩
     cases he : (execOp fr.eval o).run P v with
     | ok nx v' =>
      exfalso
      rw [he] at hr
      obtain ⟨ρ', _, hN, _⟩ := (Sim.execOp hC.zero (hC.fn N0) hG hC.sb hev o (hh o hop)).det hw he
      cases hN <;> first | exact absurd rfl (hns _ _ _ _ he) | cases hr
     | halt y v' =>
      rw [he] at hr
      injection hr with e1 e2
      subst e1 e2
      cases y with
      | panic u =>
       have hst : step P (lone fr (fs ++ [cBad]) v) = .next (lone (fr.raise [{ v := u, recovered := false }]) (fs ++ [cBad]) v') := step_lone_go (by rw [hg _ rfl]; simp [stepG.apply, he])
       rw [hra] at hst
       exact .inr ⟨_, hst, hpan _ _⟩
      | stuck s => exact .inl ⟨.stuck s (fr.pos P), v', step_lone_ended (by rw [hg _ rfl]; simp [stepG.apply, he])⟩
      | unsupported u =>
       cases u with
       | initOrder g => exact absurd hfine Bool.false_ne_true
       | extern n => exact .inl ⟨.unsupported (.extern n) (fr.pos P), v', step_lone_ended (by rw [hg _ rfl]; simp [stepG.apply, he])⟩
       | noEntry n => exact .inl ⟨.unsupported (.noEntry n) (fr.pos P), v', step_lone_ended (by rw [hg _ rfl]; simp [stepG.apply, he])⟩
       | unsafePointer n => exact .inl ⟨.unsupported (.unsafePointer n) (fr.pos P), v', step_lone_ended (by rw [hg _ rfl]; simp [stepG.apply, he])⟩
       | evalOrder => exact .inl ⟨.unsupported .evalOrder (fr.pos P), v', step_lone_ended (by rw [hg _ rfl]; simp [stepG.apply, he])⟩
       | addressObserved => exact .inl ⟨.unsupported .addressObserved (fr.pos P), v', step_lone_ended (by rw [hg _ rfl]; simp [stepG.apply, he])⟩
       | resourceLimit n => exact .inl ⟨.unsupported (.resourceLimit n) (fr.pos P), v', step_lone_ended (by rw [hg _ rfl]; simp [stepG.apply, he])⟩
       | _ => rename_i n; exact .inl ⟨.unsupported (Unsupported.elab n) (fr.pos P), v', step_lone_ended (by rw [hg _ rfl]; simp [stepG.apply, he])⟩
      | _ => exact absurd hfine Bool.false_ne_true
    ·have hwt : Region.wanted o (yielded ops fr.tmps) = false := by simpa using hwt
     simp only [hwt, Bool.false_eq_true, if_false] at hr
     cases hr
  case h_17 id k ht =>
   refine .inl ⟨.stuck "exit, goto: no such block or label" (fr.pos P), v, step_lone_ended ?_⟩
   cases he : gotoIn id k with
   | some k' => rw [he] at hr; cases hr
   | none => simp [stepG, stepG.exec, hm, ht, he, hround]
  case h_18 =>
   cases hto : fr.todo with
   | nil => exfalso; solve_by_elim
   | cons it k =>
    have hi := ho.items it (by rw [hto]; exact List.mem_cons_self ..)
    cases it with
    | code c =>
     cases c with
     | refuse why => exact .inl ⟨.unsupported (Unsupported.elab why) (fr.pos P), v, step_lone_ended (by simp [stepG, stepG.exec, hm, hto])⟩
     | goto l => exfalso; solve_by_elim
     | rangeFunc f ps a b => exact absurd hi Bool.false_ne_true
     | _ => exfalso; solve_by_elim
    | inRegion ops l =>
     cases l with
     | nil => exfalso; solve_by_elim
     | cons i r => exfalso; solve_by_elim
    | inBlock _ => exfalso; solve_by_elim
    | inLoop _ => exfalso; solve_by_elim
    | inScope _ => exfalso; solve_by_elim
    | _ => exact absurd hi Bool.false_ne_true
  all_goals cases hr
 ·unfold Go.Proofs.YtlipmagkplbkdaaDoor.stepS at hr
  rw [hm] at hr
  simp only [ho.kind] at hr
  obtain ⟨fn, hfn⟩ := ho.fn
  have hkn := ho.kind
  have hleave : ∀ (c : Frame) (rest : List Frame), fs ++ [cBad] = c :: rest -> (∃ o w', step P (lone fr (fs ++ [cBad]) v) = .ended o w') ∨ ∃ u w', step P (lone fr (fs ++ [cBad]) v) = .next (lone (c.finish u) rest w') /\ (results fn fr.tmps).run P v = .ok u w' := fun c rest e => by
   cases hres : (results fn fr.tmps).run P v with
   | ok u w' => exact .inr ⟨u, w', step_lone_go (by rw [e]; simp [stepG, unwind, doReturn, hm, hdef, hkn, hfn, hres]), rfl⟩
   | halt y w' =>
    refine .inl ?_
    cases y with
    | stuck s => exact ⟨_, _, step_lone_ended (o := .stuck s (fr.pos P)) (w' := w') (by rw [e]; simp [stepG, unwind, doReturn, hm, hdef, hkn, hfn, hres])⟩
    | _ => exact ⟨_, _, step_lone_ended (o := .stuck "return: the result variables cannot be read" (fr.pos P)) (w' := w') (by rw [e]; simp [stepG, unwind, doReturn, hm, hdef, hkn, hfn, hres])⟩
  cases fs with
  | nil =>
   rcases hleave cBad [] rfl with ⟨o, w', h1⟩ | ⟨u, w', h1, _⟩
   ·exact .inl ⟨_, _, h1⟩
   ·refine .inr ⟨_, h1, Dead.ended (o := .unsupported (Unsupported.elab "") ((cBad.finish u).pos P)) (w := w') (step_lone_ended ?_) (not_base hQ (by simp))⟩
    simp [stepG, stepG.exec, cBad, Frame.finish]
  | cons c fs =>
   obtain ⟨hc1, hc2, ops, i, r, k, hck⟩ := hfs c (List.mem_cons_self ..)
   simp only [hfn, List.cons_append, hck] at hr
   rcases hleave c (fs ++ [cBad]) rfl with ⟨o, w', h1⟩ | ⟨u, w', h1, h2⟩
   ·exact .inl ⟨_, _, h1⟩
   ·exfalso
    have hr : (Sem.bind (results fn fr.tmps) _).run P v = .halt x w := hr
    rw [Sem.run_bind', h2] at hr
    cases hr
theorem dead_of_halt (hC : Ctx P S G Sb) (hQ : QOk Q) {fr : Frame} {cs : List Frame} {v : World} (h : JI P S G Sb fr cs v) {x : Halt} {w : World} (hr : (stepS P fr cs).run P v = .halt x w) (n : Nat) (m' : Machine) (hn : runN P (n + 1) (lone fr cs v) = .next m') : ¬ StopM Q m' := by
 rcases after_halt hC hQ h hr with ⟨o, w', h1⟩ | ⟨m1, h1, h2⟩
 ·rw [runN, h1] at hn; cases hn
 ·rw [runN, h1] at hn; exact h2 n m' hn
theorem reach_of_run (hC : Ctx P S G Sb) (hQ : QOk Q) : ∀ (n : Nat) {fr : Frame} {cs : List Frame} {v : World} {m' : Machine}, JI P S G Sb fr cs v -> runN P n (lone fr cs v) = .next m' -> StopM Q m' -> ReachS P Q fr cs v := by
 intro n
 induction n with
 | zero =>
  intro fr cs v m' hj hr hst
  simp only [runN, Stepped.next.injEq] at hr
  subst hr
  obtain ⟨fr', cs', v', e, hq⟩ := hst
  obtain ⟨rfl, rfl, rfl⟩ := lone_inj e
  exact .here _ _ _ hq
 | succ n ih =>
  intro fr cs v m' hj hr hst
  by_cases h0 : StopM Q (lone fr cs v)
  ·obtain ⟨fr', cs', v', e, hq⟩ := h0
   obtain ⟨rfl, rfl, rfl⟩ := lone_inj e
   exact .here _ _ _ hq
  ·cases hx : (stepS P fr cs).run P v with
   | halt x w => exact absurd hst (dead_of_halt hC hQ hj hx n m' hr)
   | ok x w =>
    have hj' := (JI.kept hC).step _ _ _ _ _ hj hx
    obtain ⟨es, hT⟩ : ∃ es, (stepS P fr cs).runT P v #[] = (.ok x w, es) := ⟨_, by rw [Sem.runT_eq, hx]⟩
    have htm : Tm fr := by
     obtain ⟨fs, rfl, ho, hm, hfs, hp, N0, ρ, hw, hG, hf, hl⟩ := hj
     exact hf.tm'
    have hg := stepG_of_S (main := true) htm hT
    have hst1 : step P (lone fr cs v) = .next (lone x.1 x.2 w) := step_lone_go (by
     show (stepG P true (Go.Conc.G fr cs) v).bare = _
     rw [hg]; rfl)
    rw [runN, hst1] at hr
    exact .next _ _ _ _ _ hx (ih hj' hr hst)
end
end
section
open Go Go.Conc
def mk : Item := .code (.refuse "")
inductive Plug (E K : List Item) (cs0 : List Frame) : List Frame -> List Frame -> Prop
 | base (f : Frame) (pre : List Item) : f.todo = pre ++ E -> Plug E K cs0 [f] ({ f with todo := pre ++ K } :: cs0)
 | up (f : Frame) (l l' : List Frame) : l ≠ [] -> Plug E K cs0 l l' -> Plug E K cs0 (f :: l) (f :: l')
def Back (P : Program) (G Sb : Nat -> Bool) (X : Sit) : Prop := ∀ fr cs v, okHead P G Sb fr -> (∀ τ d, ∃ x v', (stepS P fr cs).run P (aT2 v τ d) = .ok x v') -> (∀ τ d x v', (stepS P fr cs).run P (aT2 v τ d) = .ok x v' -> X x.1 x.2 v') -> X fr cs v
section
variable {P : Program} {S : FuncId -> Prop} {G Sb : Nat -> Bool} {E K : List Item} {cs0 : List Frame}
theorem stepS_ret {fr c : Frame} {l : List Frame} {fn : Func} {ops : Array Oper} {i : Nat} {r : List Nat} {k : List Item} {v w : World} {u : Value} (hm : fr.mode = .returning) (hk : fr.kind = .normal) (hf : P.funcs[fr.fn]? = some fn) (hc : c.todo = .inRegion ops (i :: r) :: k) (hr : (results fn fr.tmps).run P v = .ok u w) :
  (stepS P fr (c :: l)).run P v = .ok (c.finish u, l) w := by
 unfold Go.Proofs.YtlipmagkplbkdaaDoor.stepS
 simp only [hm, hk, hf, hc]
 show Sem.run P (Sem.bind _ _) v = _
 rw [Sem.run_bind', hr]
 rfl
theorem exitTo_app (id : Nat) : ∀ (pre : List Item) {k : List Item}, exitTo id (pre ++ E) = some k -> exitTo id E = none -> ∃ pre', k = pre' ++ E /\ ∀ K, exitTo id (pre ++ K) = some (pre' ++ K)
 | [], k, h, hE => by rw [List.nil_append, hE] at h; cases h
 | x :: pre, k, h, hE => by
  by_cases hx : ∃ b, x = .inBlock b
  ·obtain ⟨b, rfl⟩ := hx
   have h : (if b == id then some (pre ++ E) else exitTo id (pre ++ E)) = some k := h
   by_cases hb : (b == id) = true
   ·rw [if_pos hb] at h
    injection h with h
    exact ⟨pre, h.symm, fun K => by show (if b == id then some (pre ++ K) else exitTo id (pre ++ K)) = _; rw [if_pos hb]⟩
   ·rw [if_neg hb] at h
    obtain ⟨pre', h1, h2⟩ := exitTo_app id pre h hE
    exact ⟨pre', h1, fun K => by show (if b == id then some (pre ++ K) else exitTo id (pre ++ K)) = _; rw [if_neg hb]; exact h2 K⟩
  ·have e : ∀ l, exitTo id (x :: l) = exitTo id l := fun l => by cases x <;> first | rfl | exact absurd ⟨_, rfl⟩ hx
   rw [List.cons_append, e] at h
   obtain ⟨pre', h1, h2⟩ := exitTo_app id pre h hE
   exact ⟨pre', h1, fun K => by rw [List.cons_append, e]; exact h2 K⟩
theorem gotoIn_app (id : Nat) : ∀ (pre : List Item) {k : List Item}, gotoIn id (pre ++ E) = some k -> gotoIn id E = none -> ∃ pre', k = pre' ++ E /\ ∀ K, gotoIn id (pre ++ K) = some (pre' ++ K)
 | [], k, h, hE => by rw [List.nil_append, hE] at h; cases h
 | x :: pre, k, h, hE => by
  by_cases hx : ∃ c, x = .inScope c
  ·obtain ⟨c, rfl⟩ := hx
   have h : (match findLabel c id with | some rest => some (.code rest :: .inScope c :: (pre ++ E)) | none => gotoIn id (pre ++ E)) = some k := h
   cases hf : findLabel c id with
   | some rest =>
    rw [hf] at h
    injection h with h
    exact ⟨.code rest :: .inScope c :: pre, h.symm, fun K => by show (match findLabel c id with | some rest => some (Item.code rest :: Item.inScope c :: (pre ++ K)) | none => gotoIn id (pre ++ K)) = _; rw [hf]; rfl⟩
   | none =>
    rw [hf] at h
    obtain ⟨pre', h1, h2⟩ := gotoIn_app id pre h hE
    exact ⟨pre', h1, fun K => by show (match findLabel c id with | some rest => some (Item.code rest :: Item.inScope c :: (pre ++ K)) | none => gotoIn id (pre ++ K)) = _; rw [hf]; exact h2 K⟩
  ·have e : ∀ l, gotoIn id (x :: l) = gotoIn id l := fun l => by cases x <;> first | rfl | exact absurd ⟨_, rfl⟩ hx
   rw [List.cons_append, e] at h
   obtain ⟨pre', h1, h2⟩ := gotoIn_app id pre h hE
   exact ⟨pre', h1, fun K => by rw [List.cons_append, e]; exact h2 K⟩
theorem step_plug (hEK : E = [mk] ∨ (E = [] /\ K = [])) {fr : Frame} {fs : List Frame} {l' : List Frame} (hp : Plug E K cs0 (fr :: fs) l') {v v' : World} {x : Frame × List Frame} (h : (stepS P fr (fs ++ [cBad])).run P v = .ok x v') :
  ∃ fp csp, l' = fp :: csp /\ (okHead P G Sb fr -> okHead P G Sb fp) /\ ∃ fs' xp, x.2 = fs' ++ [cBad] /\ (stepS P fp csp).run P v = .ok xp v' /\ Plug E K cs0 (x.1 :: fs') (xp.1 :: xp.2) := by
 have hE0 : ∀ id, exitTo id E = none := fun id => by rcases hEK with rfl | ⟨rfl, rfl⟩ <;> rfl
 have hG0 : ∀ id, gotoIn id E = none := fun id => by rcases hEK with rfl | ⟨rfl, rfl⟩ <;> rfl
 obtain ⟨fn, tmps, todo, defers, mode, kind, roundOf⟩ := fr
 cases hp with
 | up _ l l'' hne hl =>
  refine ⟨_, _, rfl, id, ?_⟩
  have push : ∀ f, Plug E K cs0 (f :: fs) (f :: l'') := fun f => .up f fs l'' hne hl
  cases mode with
  | panicking ch => unfold Go.Proofs.YtlipmagkplbkdaaDoor.stepS at h; exact (run_stuck_ok h).elim
  | run =>
   unfold Go.Proofs.YtlipmagkplbkdaaDoor.stepS at h ⊢
   simp only at h ⊢
   split at h
   case h_8 c a b k =>
    split at h
    ·rename_i t ht
     obtain ⟨rfl, rfl⟩ := run_pure_ok h
     exact ⟨fs, (_, l''), rfl, by first | rfl | (simp only [ht]; rfl), push _⟩
    ·exact (run_stuck_ok h).elim
   case h_13 id k =>
    split at h
    ·rename_i k' hk
     obtain ⟨rfl, rfl⟩ := run_pure_ok h
     exact ⟨fs, (_, l''), rfl, by first | rfl | (simp only [hk]; rfl), push _⟩
    ·exact (run_stuck_ok h).elim
   case h_14 id ops draw k =>
    split at h
    ·rename_i hd
     obtain ⟨t, w1, h4, h5⟩ := run_bind_ok h
     obtain ⟨rfl, rfl⟩ := run_pure_ok h5
     refine ⟨fs, (_, l''), rfl, ?_, push _⟩
     simp only [hd, if_true]
     show Sem.run P (Sem.bind _ _) v = _
     rw [Sem.run_bind', h4]
     rfl
    ·rename_i hd
     obtain ⟨rfl, rfl⟩ := run_pure_ok h
     exact ⟨fs, (_, l''), rfl, by first | rfl | (simp only [if_neg hd]; rfl), push _⟩
   case h_16 ops i rest k =>
    split at h
    ·rename_i ho
     obtain ⟨rfl, rfl⟩ := run_pure_ok h
     exact ⟨fs, (_, l''), rfl, by first | rfl | (simp only [ho]; rfl), push _⟩
    ·rename_i o ho
     split at h
     ·rename_i hw
      obtain ⟨nx, w1, h4, h5⟩ := run_bind_ok h
      have go : ∀ (f : Next -> Sem (Frame × List Frame)) y, (f nx).run P w1 = .ok y v' -> (execOp (Frame.eval { fn := fn, tmps := tmps, todo := .inRegion ops (i :: rest) :: k, defers := defers, mode := .run, kind := kind, roundOf := roundOf }) o >>= f).run P v = .ok y v' := fun f y hy => by
       show Sem.run P (Sem.bind _ _) v = _
       rw [Sem.run_bind', h4]
       exact hy
      cases nx with
      | value u =>
       obtain ⟨rfl, rfl⟩ := run_pure_ok h5
       exact ⟨fs, (_, l''), rfl, by first | exact go _ _ rfl | (simp only [hw, if_true]; exact go _ _ rfl) | (simp only [ho, hw, if_true]; exact go _ _ rfl), push _⟩
      | skip =>
       obtain ⟨rfl, rfl⟩ := run_pure_ok h5
       exact ⟨fs, (_, l''), rfl, by first | exact go _ _ rfl | (simp only [hw, if_true]; exact go _ _ rfl) | (simp only [ho, hw, if_true]; exact go _ _ rfl), push _⟩
      | enter f args =>
       obtain ⟨rfl, rfl⟩ := run_pure_ok h5
       exact ⟨_ :: fs, (_, _ :: l''), rfl, by first | exact go _ _ rfl | (simp only [hw, if_true]; exact go _ _ rfl) | (simp only [ho, hw, if_true]; exact go _ _ rfl), .up _ _ _ (by simp) (push _)⟩
      | _ => exact (run_stuck_ok h5).elim
     ·rename_i hw
      obtain ⟨rfl, rfl⟩ := run_pure_ok h
      exact ⟨fs, (_, l''), rfl, by first | rfl | (simp only [if_neg hw]; rfl) | (simp only [ho, if_neg hw]; rfl), push _⟩
   case h_17 id k =>
    split at h
    ·rename_i k' hk
     obtain ⟨rfl, rfl⟩ := run_pure_ok h
     exact ⟨fs, (_, l''), rfl, by first | rfl | (simp only [hk]; rfl), push _⟩
    ·exact (run_stuck_ok h).elim
   case h_18 => exact (run_stuck_ok h).elim
   all_goals
    obtain ⟨rfl, rfl⟩ := run_pure_ok h
    exact ⟨fs, (_, l''), rfl, rfl, push _⟩
  | returning =>
   unfold Go.Proofs.YtlipmagkplbkdaaDoor.stepS at h
   simp only at h
   cases fs with
   | nil => exact absurd rfl hne
   | cons c fs =>
    split at h
    ·rename_i c1 rest f heq hf
     injection heq with e1 e2
     subst e1 e2
     split at h
     ·rename_i ops i r k htc
      obtain ⟨u, w1, h4, h5⟩ := run_bind_ok h
      obtain ⟨rfl, rfl⟩ := run_pure_ok h5
      have fin : ∀ (cp : Frame) (lp : List Frame), l'' = cp :: lp -> (∃ q, cp.todo = .inRegion ops (i :: r) :: q) -> Plug E K cs0 (c.finish u :: fs) (cp.finish u :: lp) ->
        ∃ fs' xp, (c.finish u, fs ++ [cBad]).2 = fs' ++ [cBad] /\ (stepS P { fn := fn, tmps := tmps, todo := todo, defers := defers, mode := .returning, kind := .normal, roundOf := roundOf } l'').run P v = .ok xp w1 /\ Plug E K cs0 ((c.finish u, fs ++ [cBad]).1 :: fs') (xp.1 :: xp.2) := fun cp lp e ⟨q, hq⟩ hP => by
       subst e
       exact ⟨fs, (cp.finish u, lp), rfl, stepS_ret rfl rfl hf hq h4, hP⟩
      cases hl with
      | up _ l1 l2 hne2 hl2 => exact fin c l2 rfl ⟨k, htc⟩ (.up _ _ _ hne2 hl2)
      | base _ pre hpre =>
       have hpre2 : ∃ pre', pre = .inRegion ops (i :: r) :: pre' /\ k = pre' ++ E := by
        rw [htc] at hpre
        cases pre with
        | nil =>
         rcases hEK with rfl | ⟨rfl, _⟩
         ·simp [mk] at hpre
         ·simp at hpre
        | cons y pre' =>
         rw [List.cons_append] at hpre
         injection hpre with e1 e2
         exact ⟨pre', by rw [e1], e2⟩
       obtain ⟨pre', rfl, hk'⟩ := hpre2
       refine fin { c with todo := .inRegion ops (i :: r) :: pre' ++ K } cs0 rfl ⟨_, rfl⟩ ?_
       have e1 : c.finish u = { c with tmps := match (ops[i]?).bind (·.dst) with | some d => c.tmps.setIfInBounds d u | none => c.tmps, todo := .inRegion ops r :: (pre' ++ E) } := by
        unfold Frame.finish; rw [htc, hk']; rfl
       have e2 : (Frame.finish { c with todo := .inRegion ops (i :: r) :: pre' ++ K } u) = { c with tmps := match (ops[i]?).bind (·.dst) with | some d => c.tmps.setIfInBounds d u | none => c.tmps, todo := (.inRegion ops r :: pre') ++ K } := rfl
       rw [e1, e2]
       exact .base _ (.inRegion ops r :: pre') rfl
     ·exact (run_stuck_ok h).elim
    ·exact (run_stuck_ok h).elim
 | base _ pre hpre =>
  simp only at hpre
  subst hpre
  refine ⟨_, _, rfl, ?_, ?_⟩
  ·intro ho
   unfold okHead at ho ⊢
   cases mode with
   | run =>
    cases pre with
    | nil =>
     simp only [List.nil_append]
     rcases hEK with rfl | ⟨rfl, rfl⟩
     ·exfalso
      unfold Go.Proofs.YtlipmagkplbkdaaDoor.stepS at h
      exact run_stuck_ok h
     ·exact ho
    | cons y pre' => cases y <;> first | exact ho | (rename_i c; cases c <;> exact ho) | (rename_i ops l; cases l <;> exact ho)
   | _ => trivial
  ·unfold Go.Proofs.YtlipmagkplbkdaaDoor.stepS at h ⊢
   cases mode with
   | panicking ch => exact (run_stuck_ok h).elim
   | returning =>
    exfalso
    simp only [List.nil_append] at h
    split at h
    ·rename_i c rest f _ heq _
     injection heq with e1 e2
     subst e1
     exact run_stuck_ok h
    ·exact run_stuck_ok h
   | run =>
    have push : ∀ (ts : Array Value) (q : List Item) (m : FrameMode), Plug E K cs0 [{ fn := fn, tmps := ts, todo := q ++ E, defers := defers, mode := m, kind := kind, roundOf := roundOf }] ({ fn := fn, tmps := ts, todo := q ++ K, defers := defers, mode := m, kind := kind, roundOf := roundOf } :: cs0) := fun ts q m => .base _ q rfl
    cases pre with
    | nil =>
     rcases hEK with rfl | ⟨rfl, rfl⟩
     ·exact (run_stuck_ok h).elim
     ·obtain ⟨rfl, rfl⟩ := run_pure_ok h
      exact ⟨[], (_, cs0), rfl, rfl, push _ [] _⟩
    | cons y pre =>
     simp only [List.cons_append] at h ⊢
     cases y with
     | inBlock id =>
      obtain ⟨rfl, rfl⟩ := run_pure_ok h
      exact ⟨[], (_, cs0), rfl, rfl, push _ pre _⟩
     | inScope c =>
      obtain ⟨rfl, rfl⟩ := run_pure_ok h
      exact ⟨[], (_, cs0), rfl, rfl, push _ pre _⟩
     | inLoop c =>
      obtain ⟨rfl, rfl⟩ := run_pure_ok h
      exact ⟨[], (_, cs0), rfl, rfl, push _ (.code c :: .inLoop c :: pre) _⟩
     | inRegion ops l =>
      cases l with
      | nil =>
       obtain ⟨rfl, rfl⟩ := run_pure_ok h
       exact ⟨[], (_, cs0), rfl, rfl, push _ pre _⟩
      | cons i rest =>
       simp only at h ⊢
       split at h
       ·rename_i ho
        obtain ⟨rfl, rfl⟩ := run_pure_ok h
        exact ⟨[], (_, cs0), rfl, by first | rfl | (simp only [ho]; rfl), push _ (.inRegion ops rest :: pre) _⟩
       ·rename_i o ho
        split at h
        ·rename_i hw
         obtain ⟨nx, w1, h4, h5⟩ := run_bind_ok h
         have go : ∀ (f : Next -> Sem (Frame × List Frame)) y, (f nx).run P w1 = .ok y v' -> (execOp (Frame.eval { fn := fn, tmps := tmps, todo := .inRegion ops (i :: rest) :: (pre ++ K), defers := defers, mode := .run, kind := kind, roundOf := roundOf }) o >>= f).run P v = .ok y v' := fun f y hy => by
          have e : Frame.eval { fn := fn, tmps := tmps, todo := .inRegion ops (i :: rest) :: (pre ++ K), defers := defers, mode := .run, kind := kind, roundOf := roundOf } = Frame.eval { fn := fn, tmps := tmps, todo := .inRegion ops (i :: rest) :: (pre ++ E), defers := defers, mode := .run, kind := kind, roundOf := roundOf } := by
           funext z; cases z <;> rfl
          rw [e]
          show Sem.run P (Sem.bind _ _) v = _
          rw [Sem.run_bind', h4]
          exact hy
         cases nx with
         | value u =>
          obtain ⟨rfl, rfl⟩ := run_pure_ok h5
          exact ⟨[], (_, cs0), rfl, by first | exact go _ _ rfl | (simp only [hw, if_true]; exact go _ _ rfl) | (simp only [ho, hw, if_true]; exact go _ _ rfl), push _ (.inRegion ops rest :: pre) _⟩
         | skip =>
          obtain ⟨rfl, rfl⟩ := run_pure_ok h5
          exact ⟨[], (_, cs0), rfl, by first | exact go _ _ rfl | (simp only [hw, if_true]; exact go _ _ rfl) | (simp only [ho, hw, if_true]; exact go _ _ rfl), push _ (.inRegion ops rest :: pre) _⟩
         | enter f args =>
          obtain ⟨rfl, rfl⟩ := run_pure_ok h5
          exact ⟨[_], (_, _ :: cs0), rfl, by first | exact go _ _ rfl | (simp only [hw, if_true]; exact go _ _ rfl) | (simp only [ho, hw, if_true]; exact go _ _ rfl), .up _ _ _ (by simp) (push _ (.inRegion ops (i :: rest) :: pre) _)⟩
         | _ => exact (run_stuck_ok h5).elim
        ·rename_i hw
         obtain ⟨rfl, rfl⟩ := run_pure_ok h
         exact ⟨[], (_, cs0), rfl, by first | rfl | (simp only [if_neg hw]; rfl) | (simp only [ho, if_neg hw]; rfl), push _ (.inRegion ops rest :: pre) _⟩
     | code c =>
      cases c with
      | ret =>
       obtain ⟨rfl, rfl⟩ := run_pure_ok h
       exact ⟨[], (_, cs0), rfl, rfl, push _ (.code .ret :: pre) _⟩
      | skip =>
       obtain ⟨rfl, rfl⟩ := run_pure_ok h
       exact ⟨[], (_, cs0), rfl, rfl, push _ pre _⟩
      | label l =>
       obtain ⟨rfl, rfl⟩ := run_pure_ok h
       exact ⟨[], (_, cs0), rfl, rfl, push _ pre _⟩
      | seq a b =>
       obtain ⟨rfl, rfl⟩ := run_pure_ok h
       exact ⟨[], (_, cs0), rfl, rfl, push _ (.code a :: .code b :: pre) _⟩
      | cond c a b =>
       have e : Frame.eval { fn := fn, tmps := tmps, todo := .code (.cond c a b) :: (pre ++ K), defers := defers, mode := .run, kind := kind, roundOf := roundOf } c = Frame.eval { fn := fn, tmps := tmps, todo := .code (.cond c a b) :: (pre ++ E), defers := defers, mode := .run, kind := kind, roundOf := roundOf } c := by
        cases c <;> rfl
       simp only [e] at h ⊢
       split at h
       ·rename_i t ht
        obtain ⟨rfl, rfl⟩ := run_pure_ok h
        exact ⟨[], (_, cs0), rfl, by first | rfl | (simp only [ht]; rfl), push _ (.code (if t then a else b) :: pre) _⟩
       ·exact (run_stuck_ok h).elim
      | block id c =>
       obtain ⟨rfl, rfl⟩ := run_pure_ok h
       exact ⟨[], (_, cs0), rfl, rfl, push _ (.code c :: .inBlock id :: pre) _⟩
      | loop c =>
       obtain ⟨rfl, rfl⟩ := run_pure_ok h
       exact ⟨[], (_, cs0), rfl, rfl, push _ (.code c :: .inLoop c :: pre) _⟩
      | scope c =>
       obtain ⟨rfl, rfl⟩ := run_pure_ok h
       exact ⟨[], (_, cs0), rfl, rfl, push _ (.code c :: .inScope c :: pre) _⟩
      | exit id =>
       simp only at h ⊢
       split at h
       ·rename_i k' hk
        obtain ⟨rfl, rfl⟩ := run_pure_ok h
        obtain ⟨pre', rfl, hK⟩ := exitTo_app id pre hk (hE0 id)
        exact ⟨[], (_, cs0), rfl, by first | rfl | (simp only [hK K]; rfl), push _ pre' _⟩
       ·exact (run_stuck_ok h).elim
      | goto id =>
       simp only at h ⊢
       split at h
       ·rename_i k' hk
        obtain ⟨rfl, rfl⟩ := run_pure_ok h
        obtain ⟨pre', rfl, hK⟩ := gotoIn_app id pre hk (hG0 id)
        exact ⟨[], (_, cs0), rfl, by first | rfl | (simp only [hK K]; rfl), push _ pre' _⟩
       ·exact (run_stuck_ok h).elim
      | region id ops draw =>
       simp only at h ⊢
       split at h
       ·rename_i hd
        obtain ⟨t, w1, h4, h5⟩ := run_bind_ok h
        obtain ⟨rfl, rfl⟩ := run_pure_ok h5
        refine ⟨[], (_, cs0), rfl, ?_, push _ (.inRegion ops (Region.schedule (P.follows .mixedOrders) ops t) :: pre) _⟩
        simp only [hd, if_true]
        show Sem.run P (Sem.bind _ _) v = _
        rw [Sem.run_bind', h4]
        rfl
       ·rename_i hd
        obtain ⟨rfl, rfl⟩ := run_pure_ok h
        exact ⟨[], (_, cs0), rfl, by first | rfl | (simp only [if_neg hd]; rfl), push _ (.inRegion ops (List.range ops.size) :: pre) _⟩
      | _ => exact (run_stuck_ok h).elim
     | _ => exact (run_stuck_ok h).elim
end
end
section
open Go Go.Conc
structure FRw (S : FuncId -> Prop) (ρ : Ren) (f f' : Frame) : Prop where
 fn : f'.fn = f.fn
 tmps : AsRel S ρ f.tmps f'.tmps
 todo : f'.todo = f.todo
 mode : f'.mode = f.mode
 kind : f'.kind = f.kind
 early : f.kind ≠ .early
 defers : f'.defers = f.defers
 round : f'.roundOf = f.roundOf
inductive FsRw (S : FuncId -> Prop) (ρ : Ren) : List Frame -> List Frame -> Prop
 | nil : FsRw S ρ [] []
 | cons {f f' : Frame} {l l' : List Frame} : FRw S ρ f f' -> FsRw S ρ l l' -> FsRw S ρ (f :: l) (f' :: l')
def Strict (f : Frame) : Prop := f.defers = [] /\ f.roundOf = none
def TmW (f : Frame) : Prop := (f.mode = .returning -> f.defers = []) /\ (f.roundOf ≠ none -> f.mode = .run /\ f.todo ≠ [] /\ ∀ k, f.todo ≠ .code .ret :: k)
theorem tmw_strict {f : Frame} (h : Strict f) : TmW f := ⟨fun _ => h.1, fun e => absurd h.2 e⟩
theorem tmw_at {b : Frame} {a : Act} {t : List Item} : TmW (b.at a t) := ⟨fun e => (by cases e), fun e => absurd rfl e⟩
section
variable {P : Program} {S : FuncId -> Prop} {G Sb : Nat -> Bool} {N0 : Nat} {ρ ρ' : Ren}
theorem FRel.weak {f f' : Frame} (h : FRel S ρ f f') : FRw S ρ f f' := ⟨h.fn, h.tmps, h.todo, h.mode, h.kind, h.early, h.defers'.trans h.defers.symm, h.round'.trans h.round.symm⟩
theorem FRw.strict {f f' : Frame} (h : FRw S ρ f f') (hs : Strict f) : FRel S ρ f f' := ⟨h.fn, h.tmps, h.todo, h.mode, h.kind, h.early, hs.1, h.defers.trans hs.1, hs.2, h.round.trans hs.2⟩
theorem FRel.str {f f' : Frame} (h : FRel S ρ f f') : Strict f := ⟨h.defers, h.round⟩
theorem FsRel.weak {l l' : List Frame} (h : FsRel S ρ l l') : FsRw S ρ l l' := by
 induction h with
 | nil => exact .nil
 | cons h _ ih => exact .cons h.weak ih
theorem FsRw.strict {l l' : List Frame} (h : FsRw S ρ l l') : (∀ f ∈ l, Strict f) -> FsRel S ρ l l' := by
 induction h with
 | nil => exact fun _ => .nil
 | cons h _ ih => exact fun hs => .cons (h.strict (hs _ (List.mem_cons_self ..))) (ih fun f hf => hs f (List.mem_cons_of_mem _ hf))
theorem FRw.mono {f f' : Frame} (h : FRw S ρ f f') (e : Ext ρ ρ') : FRw S ρ' f f' := ⟨h.fn, h.tmps.mono e, h.todo, h.mode, h.kind, h.early, h.defers, h.round⟩
theorem FsRw.mono {l l' : List Frame} (h : FsRw S ρ l l') (e : Ext ρ ρ') : FsRw S ρ' l l' := by
 induction h with
 | nil => exact .nil
 | cons h _ ih => exact .cons (h.mono e) ih
theorem FRw.eval {f f' : Frame} (h : FRw S ρ f f') (hG : GlOk G ρ) (hS : ∀ f, Sb f = true -> S f) (x : Operand) (hx : okX G Sb x = true) : VRel S ρ (f.eval x) (f'.eval x) := by
 cases x with
 | tmp t => exact h.tmps.getD t
 | const v => exact pureV_rel 8 v hx
 | global g => exact .ptr _ _ _ _ (hG g hx)
 | func g => exact .func g _ _ _ _ (hS g hx) rfl (fun i h => by simp at h) rfl (fun i h => by simp at h)
theorem FRw.finish {f f' : Frame} {x y : Value} {ops : Array Oper} {i : Nat} {r : List Nat} {k : List Item} (h : FRw S ρ f f') (hto : f.todo = .inRegion ops (i :: r) :: k) (hv : VRel S ρ x y) : FRw S ρ (f.finish x) (f'.finish y) := by
 obtain ⟨fn, tmps, todo, defers, mode, kind, roundOf⟩ := f
 obtain ⟨fn', tmps', todo', defers', mode', kind', roundOf'⟩ := f'
 obtain ⟨h1, h2, h3, h4, h5, h6, h7, h8⟩ := h
 simp only at *
 subst h1 h3 h4 h5 h7 h8 hto
 unfold Frame.finish
 simp only
 refine ⟨rfl, ?_, rfl, rfl, rfl, h6, rfl, rfl⟩
 simp only
 cases (ops[i]?).bind (·.dst) with
 | none => exact h2
 | some d => exact h2.set _ hv
theorem FRw.enter (f : FuncId) {as bs : Array Value} (kind : CallKind) (hk : kind ≠ .early) (h : AsRel S ρ as bs) : FRw S ρ (Frame.enter P f as kind) (Frame.enter P f bs kind) := (FRel.enter f kind hk h).weak
def StRw (S : FuncId -> Prop) (ρ : Ren) (a b : Frame × List Frame) : Prop := FRw S ρ a.1 b.1 /\ FsRw S ρ a.2 b.2
theorem Sim.mvw {a b : Frame × List Frame} (h : StRw S ρ a b) : Sim P S N0 ρ (StRw S) (Pure.pure a) (Pure.pure b) := Sim.pure fun ρ' e => ⟨h.1.mono e, h.2.mono e⟩
theorem Sim.stepW {f f' : Frame} {l l' : List Frame} (hZ : ZeroOk P S) (hF : FnOk P S G N0) (hG : GlOk G ρ) (hS : ∀ f, Sb f = true -> S f) (ho : okHead P G Sb f) (h : FRw S ρ f f') (hl : FsRw S ρ l l') :
  Sim P S N0 ρ (StRw S) (Go.Proofs.YtlipmagkplbkdaaDoor.stepS P f l) (Go.Proofs.YtlipmagkplbkdaaDoor.stepS P f' l') := by
 have hev := fun x hx => h.eval hG hS x hx
 have hfn := h.fn
 have hkd := h.kind
 have hyl := yielded_rel h.tmps
 have hto := h.todo
 have hmd := h.mode
 unfold Go.Proofs.YtlipmagkplbkdaaDoor.stepS
 unfold okHead at ho
 rw [hmd, hto, hkd, hfn]
 split
 ·rename_i hm
  rw [hm] at ho
  split
  case h_8 c x y k ht =>
   rw [ht] at ho
   simp only at ho
   have hc := hev c ho
   generalize f.eval c = u at *
   generalize f'.eval c = u' at *
   cases hc <;> first | exact Sim.halt | exact Sim.mvw ⟨⟨rfl, h.tmps, rfl, rfl, rfl, h.early, h.defers, h.round⟩, hl⟩
  case h_13 id k ht =>
   cases exitTo id k with
   | none => exact Sim.halt
   | some k' => exact Sim.mvw ⟨⟨rfl, h.tmps, rfl, rfl, rfl, h.early, h.defers, h.round⟩, hl⟩
  case h_14 id ops draw k ht =>
   refine Sim.ite (fun _ => ?_) fun _ => Sim.mvw ⟨⟨rfl, h.tmps, rfl, rfl, rfl, h.early, h.defers, h.round⟩, hl⟩
   refine Sim.bind (Sim.choose _) fun ρ1 t t' e1 htt => ?_
   obtain rfl : t = t' := htt
   exact Sim.mvw ⟨⟨rfl, h.tmps.mono e1, rfl, rfl, rfl, h.early, h.defers, h.round⟩, hl.mono e1⟩
  case h_16 ops i rest k ht =>
   rw [ht] at ho
   simp only at ho
   cases hop : ops[i]? with
   | none => exact Sim.mvw ⟨h.finish ht (.tuple _ _ rfl fun i h => by simp at h), hl⟩
   | some o =>
    simp only
    rw [<- hyl ops]
    refine Sim.ite (fun _ => ?_) fun _ => Sim.mvw ⟨h.finish ht (.tuple _ _ rfl fun i h => by simp at h), hl⟩
    refine Sim.bind (Sim.execOp hZ hF hG hS hev o (ho o hop)) fun ρ1 nx nx' e1 hn => ?_
    cases hn with
    | value x y hxy => exact Sim.mvw ⟨(h.mono e1).finish ht hxy, hl.mono e1⟩
    | skip => exact Sim.mvw ⟨(h.mono e1).finish ht (.tuple _ _ rfl fun i h => by simp at h), hl.mono e1⟩
    | enter g as bs hg hab => exact Sim.mvw ⟨.enter g .normal (by simp) hab, .cons (h.mono e1) (hl.mono e1)⟩
    | comm u u' x x' z z' => exact Sim.halt
  case h_17 id k ht =>
   cases gotoIn id k with
   | none => exact Sim.halt
   | some k' => exact Sim.mvw ⟨⟨rfl, h.tmps, rfl, rfl, rfl, h.early, h.defers, h.round⟩, hl⟩
  case h_18 => exact Sim.halt
  all_goals exact Sim.mvw ⟨⟨rfl, h.tmps, rfl, rfl, rfl, h.early, h.defers, h.round⟩, hl⟩
 ·cases hl with
  | nil =>
   split
   ·rename_i heq _; cases heq
   ·exact Sim.halt
  | cons hc hl =>
   rename_i c c' r r'
   split
   ·rename_i c2 r2 fn hk heq hfn
    injection heq with e1 e2
    subst e1 e2
    simp only [hk, hfn, hc.todo]
    split
    ·rename_i ht
     exact Sim.bind (Sim.results fn h.tmps) fun ρ1 x y e1 hxy => Sim.mvw ⟨(hc.mono e1).finish ht hxy, hl.mono e1⟩
    ·exact Sim.halt
   ·exact Sim.halt
 ·exact Sim.halt
def Selfw (P : Program) (S : FuncId -> Prop) (G : Nat -> Bool) (fr : Frame) (cs : List Frame) (v : World) : Prop :=
 Plain v /\ ∃ N0 ρ, WRel P S N0 ρ v v /\ GlOk G ρ /\ FRw S ρ fr fr /\ FsRw S ρ cs cs
theorem Self.weak {fr : Frame} {cs : List Frame} {v : World} (h : Self P S G fr cs v) : Selfw P S G fr cs v := by
 obtain ⟨hp, N0, ρ, hw, hG, hf, hl⟩ := h
 exact ⟨hp, N0, ρ, hw, hG, hf.weak, hl.weak⟩
theorem Fin.stepW (hC : Ctx P S G Sb) {fr : Frame} {cs : List Frame} {v : World} (ho : okHead P G Sb fr) (hs : Selfw P S G fr cs v) : Fin P (Go.Proofs.YtlipmagkplbkdaaDoor.stepS P fr cs) := by
 obtain ⟨_, N0, ρ, hw, hG, hf, hl⟩ := hs
 have hev := fun x hx => hf.eval hG hC.sb x hx
 unfold Go.Proofs.YtlipmagkplbkdaaDoor.stepS
 unfold okHead at ho
 split
 ·rename_i hm
  rw [hm] at ho
  split
  case h_8 => split <;> first | exact Fin.pure _ | exact Fin.stuck _
  case h_13 => split <;> first | exact Fin.pure _ | exact Fin.stuck _
  case h_14 => exact Fin.ite (fun _ => Fin.bind (Fin.choose _) fun _ => Fin.pure _) fun _ => Fin.pure _
  case h_16 ops i rest k ht =>
   rw [ht] at ho
   simp only at ho
   split
   ·exact Fin.pure _
   ·rename_i o hop
    refine Fin.ite (fun _ => Fin.bind (Fin.execOp hC.fin hev o (ho o hop)) fun nx => ?_) fun _ => Fin.pure _
    cases nx <;> first | exact Fin.pure _ | exact Fin.stuck _
  case h_17 => split <;> first | exact Fin.pure _ | exact Fin.stuck _
  case h_18 => exact Fin.stuck _
  all_goals exact Fin.pure _
 ·split
  ·split
   ·rename_i fn hk hfn _ _ _ _ _
    refine Fin.bind ?_ fun _ => Fin.pure _
    unfold Go.results
    refine Fin.bind (Fin.arrMapM (fun a => ?_) _) fun _ => Fin.pure _
    cases a with
    | tmp t => exact Fin.pure _
    | cell a t => exact Fin.bind (Fin.asAddr _) fun _ => Fin.loadVar _ _
   ·exact Fin.stuck _
  ·exact Fin.stuck _
 ·exact Fin.stuck _
theorem Selfw.step (hC : Ctx P S G Sb) {fr : Frame} {cs : List Frame} {v : World} (ho : okHead P G Sb fr) (hs : Selfw P S G fr cs v) {x : Frame × List Frame} {v' : World} (hr : (Go.Proofs.YtlipmagkplbkdaaDoor.stepS P fr cs).run P v = .ok x v') : Selfw P S G x.1 x.2 v' := by
 have hfin := Fin.stepW hC ho hs
 obtain ⟨hp, N0, ρ, hw, hG, hf, hl⟩ := hs
 obtain ⟨ρ', e, hA, hw'⟩ := (Sim.stepW hC.zero (hC.fn N0) hG hC.sb ho hf hl).det hw hr
 have hp' := fin_run hfin hp
 rw [hr] at hp'
 exact ⟨hp', N0, ρ', hw', hG.mono e, hA.1, hA.2⟩
theorem Selfw.at2 {fr : Frame} {cs : List Frame} {v : World} (hs : Selfw P S G fr cs v) (τ : Nat -> Question -> Nat) (d : Nat) : Selfw P S G fr cs (aT2 v τ d) := by
 obtain ⟨hp, N0, ρ, hw, hG, hf, hl⟩ := hs
 exact ⟨hp, N0, ρ, ⟨hw.inj, hw.func, hw.dom, hw.cell, rfl, rfl, hw.low, hw.glob, hw.lowW, hw.same, hw.nl⟩, hG, hf, hl⟩
theorem oper_apply {P : Program} {fr : Frame} {cs : List Frame} {w : World} {o : Oper} (ho : fr.oper? = some o) (hn : ∀ l c, fr.roundOf = some l -> o.op ≠ .defer c) : stepG.oper P true fr cs none w = stepG.apply P true fr cs none (execOp fr.eval o) w := by
 unfold stepG.oper
 rw [ho]
 first
  | done
  | (simp only; done)
  | (
    simp only
    split
    ·rename_i l c h1 h2
     exact absurd h2 (hn l c h1)
    ·rfl)
  | (
    split
    ·rename_i l c h1 h2
     exact absurd h2 (hn l c h1)
    ·rfl)
theorem stepG_of_W {P : Program} {fr fr' : Frame} {cs cs' : List Frame} {w w' : World} {es : Array Event} (hke : fr.kind ≠ .early) (ht : TmW fr) (h : (stepS P fr cs).runT P w #[] = (.ok (fr', cs') w', es)) :
  stepG P true (Go.Conc.G fr cs) w = .go (Go.Conc.G fr' cs') w' (seen P fr.fn es) := by
 obtain ⟨fn, tmps, todo, defers, mode, kind, roundOf⟩ := fr
 obtain ⟨h1, h2⟩ := ht
 simp only at h1 h2 hke
 have hk : (kind == CallKind.early) = false := by simpa using hke
 have mv : ∀ {x : Frame × List Frame}, (Pure.pure x : Sem (Frame × List Frame)).runT P w #[] = (.ok (fr', cs') w', es) -> fr' = x.1 /\ cs' = x.2 /\ w' = w /\ es = #[] := fun {x} hx => by
  obtain ⟨rfl, rfl, rfl⟩ := runT_pure_ok hx
  exact ⟨rfl, rfl, rfl, rfl⟩
 unfold stepS at h
 cases mode with
 | panicking ch => exact (runT_stuck_ok h).elim
 | returning =>
  have hd := h1 rfl
  subst hd
  simp only at h
  split at h
  ·rename_i c rest f hf
   split at h
   case h_2 => exact (runT_stuck_ok h).elim
   obtain ⟨v, w1, es1, h4, h5⟩ := runT_bind_ok h
   obtain ⟨e1, rfl, rfl⟩ := runT_pure_ok h5
   injection e1 with e1 e2
   subst e1 e2
   simp only [Go.Conc.G, stepG, unwind, hf, h4, doReturn, GStep.after]
   simp
  ·exact (runT_stuck_ok h).elim
 | run =>
  simp only at h
  split at h
  case h_1 =>
   have hro : roundOf = none := Classical.byContradiction fun e => (h2 e).2.1 rfl
   subst hro
   obtain ⟨rfl, rfl, rfl, rfl⟩ := mv h
   simp [Go.Conc.G, stepG, stepG.exec, seen_none]
  case h_2 k =>
   have hro : roundOf = none := Classical.byContradiction fun e => (h2 e).2.2 _ rfl
   subst hro
   obtain ⟨rfl, rfl, rfl, rfl⟩ := mv h
   simp [Go.Conc.G, stepG, stepG.exec, seen_none]
  case h_8 c x y k =>
   split at h
   ·rename_i b hb
    obtain ⟨rfl, rfl, rfl, rfl⟩ := mv h
    simp [Go.Conc.G, stepG, stepG.exec, hb, seen_none]
   ·exact (runT_stuck_ok h).elim
  case h_13 id k =>
   split at h
   ·rename_i k' hk'
    obtain ⟨rfl, rfl, rfl, rfl⟩ := mv h
    simp [Go.Conc.G, stepG, stepG.exec, hk', seen_none]
   ·exact (runT_stuck_ok h).elim
  case h_14 id ops draw k =>
   split at h
   ·rename_i hd
    obtain ⟨t, w1, es1, h4, h5⟩ := runT_bind_ok h
    obtain ⟨e1, rfl, rfl⟩ := runT_pure_ok h5
    injection e1 with e1 e2
    subst e1 e2
    have h6 : (choose (.order fn id)).run P w = .ok t w1 := by
     have := congrArg Prod.fst h4
     rw [Sem.runT_eq] at this
     exact this
    have h7 : es1 = #[] := by
     have h4 : (if (Question.order fn id).forced = true then (Result.ok 0 w, (#[] : Array Event)) else (.ok ((Question.order fn id).cut (w.tape w.drawn (.order fn id))) { w with drawn := w.drawn + 1 }, #[])) = (.ok t w1, es1) := h4
     exact (congrArg Prod.snd h4).symm
    subst h7
    simp [Go.Conc.G, stepG, stepG.exec, hd, h6, seen_none]
   ·rename_i hd
    obtain ⟨rfl, rfl, rfl, rfl⟩ := mv h
    have hd : draw = false := by simpa using hd
    simp [Go.Conc.G, stepG, stepG.exec, hd, seen_none]
  case h_16 ops i rest k =>
   split at h
   ·rename_i ho
    obtain ⟨rfl, rfl, rfl, rfl⟩ := mv h
    simp [Go.Conc.G, stepG, stepG.exec, ho, seen_none]
   ·rename_i o ho
    split at h
    ·rename_i hw
     obtain ⟨nx, w1, es1, h4, h5⟩ := runT_bind_ok h
     have hop : (⟨fn, tmps, .inRegion ops (i :: rest) :: k, defers, .run, kind, roundOf⟩ : Frame).oper? = some o := ho
     have hnd : ∀ l c, roundOf = some l -> o.op ≠ .defer c := fun l c _ e => by
      have h4' : (execOp (Frame.eval ⟨fn, tmps, .inRegion ops (i :: rest) :: k, defers, .run, kind, roundOf⟩) o).runT P w #[] = (.ok nx w1, es1) := h4
      unfold execOp at h4'
      simp only [e] at h4'
      obtain ⟨d, w2, es2, _, h6⟩ := runT_bind_ok h4'
      obtain ⟨rfl, _, _⟩ := runT_pure_ok h6
      exact (runT_stuck_ok h5).elim
     have hst : stepG P true (Go.Conc.G ⟨fn, tmps, .inRegion ops (i :: rest) :: k, defers, .run, kind, roundOf⟩ cs) w = stepG.apply P true ⟨fn, tmps, .inRegion ops (i :: rest) :: k, defers, .run, kind, roundOf⟩ cs none (execOp (Frame.eval ⟨fn, tmps, .inRegion ops (i :: rest) :: k, defers, .run, kind, roundOf⟩) o) w := by
      rw [<- oper_apply hop hnd]
      simp only [Go.Conc.G, stepG, stepG.exec, ho, Option.map_some, hw, Option.getD_some, if_true]
     rw [hst]
     simp only [stepG.apply, h4, hk]
     cases nx <;> first | exact (runT_stuck_ok h5).elim | skip
     all_goals
      obtain ⟨e1, rfl, rfl⟩ := runT_pure_ok h5
      injection e1 with e1 e2
      subst e1 e2
      simp [GStep.after]
      rfl
    ·rename_i hw
     obtain ⟨rfl, rfl, rfl, rfl⟩ := mv h
     have hw : Region.wanted o (yielded ops tmps) = false := by simpa using hw
     simp [Go.Conc.G, stepG, stepG.exec, ho, hw, seen_none]
  case h_17 id k =>
   split at h
   ·rename_i k' hk'
    obtain ⟨rfl, rfl, rfl, rfl⟩ := mv h
    simp [Go.Conc.G, stepG, stepG.exec, hk', seen_none]
   ·exact (runT_stuck_ok h).elim
  case h_18 => exact (runT_stuck_ok h).elim
  all_goals
   obtain ⟨rfl, rfl, rfl, rfl⟩ := mv h
   simp [Go.Conc.G, stepG, stepG.exec, seen_none]
end
end
section
open Go Go.Conc
def Head (f : Frame) (o : Oper) : Prop := f.mode = .run /\ ∃ ops i r k, f.todo = .inRegion ops (i :: r) :: k /\ ops[i]? = some o /\ Region.wanted o (yielded ops f.tmps) = true
structure LRec where
 fn : FuncId
 tmps : Array Value
 params : Array Tmp
 assign : Code
 body : Code
 l : Nat
 r : Nat
 st : LoopState
 pend : Option Code
def col (r : Nat) : List Deferred := [{ target := .collected r, args := #[] }]
def yl (l : Nat) : Value := .func (.yield l) #[] #[]
def setPs (params : Array Tmp) (args tmps : Array Value) : Array Value := (params.zip args).foldl (fun tmps (t, a) => tmps.setIfInBounds t a) tmps
inductive L (P : Program) (S : FuncId -> Prop) (G Sb : Nat -> Bool) (K : Sit) : Option LRec -> Frame -> List Frame -> World -> Prop
 | out (fr : Frame) (cs : List Frame) (v : World) : Strict fr -> (∀ c ∈ cs, Strict c) -> K fr cs v -> L P S G Sb K none fr cs v
 | step (Λ : Option LRec) (fr : Frame) (cs : List Frame) (v : World) : okHead P G Sb fr -> TmW fr -> (∀ τ d, ∃ x v', (stepS P fr cs).run P (aT2 v τ d) = .ok x v') ->
   (∀ τ d x v', (stepS P fr cs).run P (aT2 v τ d) = .ok x v' -> L P S G Sb K Λ x.1 x.2 v') -> L P S G Sb K Λ fr cs v
 | range (fr : Frame) (cs : List Frame) (v : World) (x : Operand) (ps : Array Tmp) (asg body : Code) (k : List Item) (f : FuncId) (caps : Array Value) : fr.mode = .run -> Strict fr -> fr.todo = .code (.rangeFunc x ps asg body) :: k -> okX G Sb x = true ->
   fr.eval x = .func (.func f) #[] caps -> (∃ fn c, P.funcs[f]? = some fn /\ fn.body = some c /\ (fn.name == "runtime.NumGoroutine") = false) ->
   (∀ l r, Selfw P S G (Frame.enter P f (#[yl l] ++ caps) .normal) ({ fr with todo := .inRangeFunc l :: k, defers := col r } :: cs) v ->
    L P S G Sb K (some ⟨fr.fn, fr.tmps, ps, asg, body, l, r, .ready, none⟩) (Frame.enter P f (#[yl l] ++ caps) .normal) ({ fr with todo := .inRangeFunc l :: k, defers := col r } :: cs) v) -> L P S G Sb K none fr cs v
 | yield (q : LRec) (fr : Frame) (cs : List Frame) (v : World) (o : Oper) (x : Operand) (as : Array Operand) (ats : Array TypeId) : Head fr o -> o.op = .call { callee := .value x, args := as, argTypes := ats } -> okX G Sb x = true -> as.all (okX G Sb) = true ->
   fr.eval x = yl q.l -> as.size = q.params.size ->
   (Selfw P S G (Frame.round q.l q.fn (setPs q.params (as.map fr.eval) q.tmps) q.assign q.body .normal) (fr :: cs) v -> L P S G Sb K (some q) (Frame.round q.l q.fn (setPs q.params (as.map fr.eval) q.tmps) q.assign q.body .normal) (fr :: cs) v) -> L P S G Sb K (some q) fr cs v
 | beg (q : LRec) (fr : Frame) (cs : List Frame) (v : World) (k : List Item) : fr.mode = .run -> fr.todo = .beginRound :: k -> fr.roundOf = some q.l -> q.st = .ready ->
   (Selfw P S G { fr with todo := k } cs v -> L P S G Sb K (some { q with st := .busy }) { fr with todo := k } cs v) -> L P S G Sb K (some q) fr cs v
 | endr (q : LRec) (fr c : Frame) (cs : List Frame) (v : World) (jump : Option Code) : fr.mode = .run -> fr.kind = .normal -> fr.roundOf = some q.l -> ((fr.todo = [] /\ jump = none) ∨ ∃ k, fr.todo = .code .ret :: k /\ jump = some .ret) ->
   (∃ ops i r k, c.todo = .inRegion ops (i :: r) :: k) ->
   (Selfw P S G (c.finish (.bool jump.isNone)) cs v -> L P S G Sb K (some { q with st := if jump.isNone then .ready else .done, pend := jump }) (c.finish (.bool jump.isNone)) cs v) -> L P S G Sb K (some q) fr (c :: cs) v
 | ret (q : LRec) (fr c : Frame) (cs : List Frame) (v : World) (k : List Item) (fn : Func) (l : Nat) : fr.mode = .returning -> Strict fr -> fr.kind = .normal -> P.funcs[fr.fn]? = some fn -> fn.results = #[] -> c.todo = .inRangeFunc l :: k ->
   (Selfw P S G { c with todo := .endRangeFunc l :: k } cs v -> L P S G Sb K (some q) { c with todo := .endRangeFunc l :: k } cs v) -> L P S G Sb K (some q) fr (c :: cs) v
 | endl (q : LRec) (fr : Frame) (cs : List Frame) (v : World) (k : List Item) : fr.mode = .run -> fr.todo = .endRangeFunc q.l :: k -> q.st ≠ .busy ->
   (Selfw P S G { fr with todo := (q.pend.map Item.code).toList ++ k } cs v -> L P S G Sb K (some { q with st := .exhausted }) { fr with todo := (q.pend.map Item.code).toList ++ k } cs v) -> L P S G Sb K (some q) fr cs v
 | take (q : LRec) (fr : Frame) (cs : List Frame) (v : World) : fr.mode = .returning -> fr.defers = col q.r ->
   (Selfw P S G { fr with defers := [] } cs v -> L P S G Sb K none { fr with defers := [] } cs v) -> L P S G Sb K (some q) fr cs v
def BackW (P : Program) (G Sb : Nat -> Bool) (X : Sit) : Prop := ∀ fr cs v, okHead P G Sb fr -> TmW fr -> (∀ τ d, ∃ x v', (stepS P fr cs).run P (aT2 v τ d) = .ok x v') -> (∀ τ d x v', (stepS P fr cs).run P (aT2 v τ d) = .ok x v' -> X x.1 x.2 v') -> X fr cs v
section
variable {P : Program} {S : FuncId -> Prop} {G Sb : Nat -> Bool} {K : Sit} {Λ : Option LRec}
def At2K (K : Sit) : Sit := fun fr cs v => ∃ v0 τ d, K fr cs v0 /\ v = aT2 v0 τ d
theorem Selfw.of_at2 {fr : Frame} {cs : List Frame} {v : World} {τ : Nat -> Question -> Nat} {d : Nat} (hs : Selfw P S G fr cs (aT2 v τ d)) : Selfw P S G fr cs v := by
 have := hs.at2 v.tape v.drawn
 exact this
theorem L.mono {K' : Sit} (hk : ∀ fr cs v, K fr cs v -> K' fr cs v) {fr : Frame} {cs : List Frame} {v : World} (h : L P S G Sb K Λ fr cs v) : L P S G Sb K' Λ fr cs v := by
 induction h with
 | out fr cs v h1 h2 h3 => exact .out _ _ _ h1 h2 (hk _ _ _ h3)
 | step Λ fr cs v h1 h2 h3 _ ih => exact .step _ _ _ _ h1 h2 h3 ih
 | range fr cs v x ps asg body k f caps h1 h2 h3 h4 h5 h6 _ ih => exact .range _ _ _ x ps asg body k f caps h1 h2 h3 h4 h5 h6 ih
 | yield q fr cs v o x as ats h1 h2 h3 h4 h5 h6 _ ih => exact .yield q _ _ _ o x as ats h1 h2 h3 h4 h5 h6 ih
 | beg q fr cs v k h1 h2 h3 h4 _ ih => exact .beg q _ _ _ k h1 h2 h3 h4 ih
 | endr q fr c cs v j h1 h2 h3 h4 h5 _ ih => exact .endr q _ _ _ _ j h1 h2 h3 h4 h5 ih
 | ret q fr c cs v k fn l h1 h2 h3 h4 h5 h6 _ ih => exact .ret q _ _ _ _ k fn l h1 h2 h3 h4 h5 h6 ih
 | endl q fr cs v k h1 h2 h3 _ ih => exact .endl q _ _ _ k h1 h2 h3 ih
 | take q fr cs v h1 h2 _ ih => exact .take q _ _ _ h1 h2 ih
theorem L.at2 {fr : Frame} {cs : List Frame} {v : World} (h : L P S G Sb K Λ fr cs v) : ∀ τ d, L P S G Sb (At2K K) Λ fr cs (aT2 v τ d) := by
 have up : ∀ {Λ : Option LRec} {fr : Frame} {cs : List Frame} {v : World}, L P S G Sb K Λ fr cs v -> L P S G Sb (At2K K) Λ fr cs v := fun h => h.mono fun fr cs v hk => ⟨v, v.tape, v.drawn, hk, rfl⟩
 induction h with
 | out fr cs v h1 h2 h3 => exact fun τ d => .out _ _ _ h1 h2 ⟨v, τ, d, h3, rfl⟩
 | step Λ fr cs v h1 h2 h3 k _ => exact fun τ d => .step _ _ _ _ h1 h2 (fun τ' d' => h3 τ' d') fun τ' d' x v' hr => up (k τ' d' x v' hr)
 | range fr cs v x ps asg body k f caps h1 h2 h3 h4 h5 h6 _ ih => exact fun τ d => .range _ _ _ x ps asg body k f caps h1 h2 h3 h4 h5 h6 fun l r hs => ih l r hs.of_at2 τ d
 | yield q fr cs v o x as ats h1 h2 h3 h4 h5 h6 _ ih => exact fun τ d => .yield q _ _ _ o x as ats h1 h2 h3 h4 h5 h6 fun hs => ih hs.of_at2 τ d
 | beg q fr cs v k h1 h2 h3 h4 _ ih => exact fun τ d => .beg q _ _ _ k h1 h2 h3 h4 fun hs => ih hs.of_at2 τ d
 | endr q fr c cs v j h1 h2 h3 h4 h5 _ ih => exact fun τ d => .endr q _ _ _ _ j h1 h2 h3 h4 h5 fun hs => ih hs.of_at2 τ d
 | ret q fr c cs v k fn l h1 h2 h3 h4 h5 h6 _ ih => exact fun τ d => .ret q _ _ _ _ k fn l h1 h2 h3 h4 h5 h6 fun hs => ih hs.of_at2 τ d
 | endl q fr cs v k h1 h2 h3 _ ih => exact fun τ d => .endl q _ _ _ k h1 h2 h3 fun hs => ih hs.of_at2 τ d
 | take q fr cs v h1 h2 _ ih => exact fun τ d => .take q _ _ _ h1 h2 fun hs => ih hs.of_at2 τ d
end
end
section
open Go Go.Conc
abbrev Post := Value -> World -> Prop
def shutO : Obj -> Obj
 | .cells cs t _ => .cells cs t (0, cs.size)
 | .stringIter _ _ => .coro none
 | o => o
def shut (v : World) : World := { v with heap := v.heap.map shutO }
structure Grow (v v' : World) : Prop where
 size : v.heap.size <= v'.heap.size
 keep : ∀ b, b < v.heap.size -> v'.heap[b]? = v.heap[b]?
 os : v'.os = v.os
 output : v'.output = v.output
open Classical in
noncomputable def hide (v v' : World) : World := { v' with heap := v'.heap.mapIdx fun b o => if b < v.heap.size /\ shutO o ≠ o then .coro none else o }
theorem hide_size (v v' : World) : (hide v v').heap.size = v'.heap.size := Array.size_mapIdx ..
theorem hide_get {v v' : World} {m : Nat} (h : v.heap.size <= m ∨ ∀ o, v'.heap[m]? = some o -> shutO o = o) : (hide v v').heap[m]? = v'.heap[m]? := by
 show (v'.heap.mapIdx _)[m]? = _
 rw [Array.getElem?_mapIdx]
 cases ho : v'.heap[m]? with
 | none => rfl
 | some o =>
  rw [Option.map_some, if_neg]
  rintro ⟨h1, h2⟩
  rcases h with h | h
  ·omega
  ·exact h2 (h o ho)
theorem hide_cell {v v' : World} {a : Addr} {u : Value} (h : (hide v v').cell? a = some u) : v'.cell? a = some u /\ (v.heap.size <= a.block ∨ ∀ o, v'.heap[a.block]? = some o -> shutO o = o) := by
 have key : v.heap.size <= a.block ∨ ∀ o, v'.heap[a.block]? = some o -> shutO o = o := by
  by_cases h1 : v.heap.size <= a.block
  ·exact .inl h1
  ·refine .inr fun o ho => ?_
   by_cases h2 : shutO o = o
   ·exact h2
   ·exfalso
    have e : (hide v v').heap[a.block]? = some (.coro none) := by
     show (v'.heap.mapIdx _)[a.block]? = _
     rw [Array.getElem?_mapIdx, ho, Option.map_some, if_pos ⟨by omega, h2⟩]
    unfold World.cell? at h
    rw [e] at h
    cases h
 exact ⟨by rw [<- World.cell?_of_block (hide_get key)]; exact h, key⟩
structure HRel (S : FuncId -> Prop) (ρ : Ren) (v v' : World) : Prop where
 cell : ∀ b c, ρ b c -> ∀ off u, v.cell? ⟨b, off, none⟩ = some u -> ∃ u', v'.cell? ⟨c, off, none⟩ = some u' /\ VRel S ρ u u'
 frozen : ∀ b c, ρ b c -> ∀ off, v'.frozen? ⟨c, off, none⟩ = true -> v.frozen? ⟨b, off, none⟩ = true
 dom : ∀ b c, ρ b c -> c < v'.heap.size
structure InvQ (S : FuncId -> Prop) (Q : Post) : Prop where
 turn : ∀ ρ v v' x y, HRel S ρ v v' -> VRel S ρ x y -> Q x v -> Q y v'
 at2 : ∀ x v τ d, Q x v -> Q x (aT2 v τ d)
def exitFrame (P : Program) : Frame := { (default : Frame) with fn := P.funcs.size, defers := [], mode := .panicking [goexitEntry] }
def AtSend (P : Program) (G Sb : Nat -> Bool) (C : Nat) (Q : Post) : Sit := fun fr cs v => cs = [] /\ fr.mode = .run /\ fr.kind = .deferred /\
 ∃ ops i k o chx xop q, fr.todo = .inRegion ops [i] :: k /\ ops[i]? = some o /\ Region.wanted o (yielded ops fr.tmps) = true /\ o.op = .send chx xop /\ okX G Sb chx = true /\ okX G Sb xop = true /\
  fr.eval chx = .chan (some C) /\ Q (fr.eval xop) v /\ ∀ tmps, QuitsIn P q (Go.Conc.G { fn := fr.fn, tmps, todo := .inRegion ops [] :: k, defers := [], mode := .run, kind := .deferred } [exitFrame P])
def HD (P : Program) (G Sb : Nat -> Bool) : Sit := fun fr _ _ => okHead P G Sb fr
inductive M (P : Program) (S : FuncId -> Prop) (G Sb : Nat -> Bool) (F : Value -> Prop) : List Post -> Option Nat -> Frame -> List Frame -> World -> Prop
 | fin (ch : Option Nat) (fr : Frame) (v : World) (x : Value) : (∀ τ d, fr.leaving P (aT2 v τ d) (.returned x)) -> P.inits.idxOf? fr.fn = none -> F x -> M P S G Sb F [] ch fr [] v
 | step (Γ : List Post) (ch : Option Nat) (fr : Frame) (cs : List Frame) (v : World) : okHead P G Sb fr -> (∀ τ d, ∃ x v', (stepS P fr cs).run P (aT2 v τ d) = .ok x v') ->
   (∀ τ d x v', (stepS P fr cs).run P (aT2 v τ d) = .ok x v' -> M P S G Sb F Γ ch x.1 x.2 v') -> M P S G Sb F Γ ch fr cs v
 | enter (Γ : List Post) (ch : Option Nat) (fr : Frame) (cs : List Frame) (v : World) (o : Oper) (f : FuncId) (as : Array Operand) (ats : Array TypeId) : Head fr o -> o.op = .call { callee := .value (.func f), args := as, argTypes := ats } -> as.all (okX G Sb) = true ->
   (∃ fn c, P.funcs[f]? = some fn /\ fn.body = some c /\ (fn.name == "runtime.NumGoroutine") = false) -> M P S G Sb F Γ ch (Frame.enter P f (as.map fr.eval) .normal) (fr :: cs) v -> M P S G Sb F Γ ch fr cs v
 | chan (ch : Option Nat) (fr : Frame) (cs : List Frame) (v : World) (o : Oper) : Head fr o ->
   (∀ (f0 : Frame) w es, (execOp f0.eval o).runT P w es = (.ok (.value (.chan (some w.heap.size))) { w with heap := w.heap.push (.chan 3 #[] false 0 0 false) }, es)) ->
   (∀ C, M P S G Sb F [] (some C) (fr.finish (.chan (some C))) cs v) -> M P S G Sb F [] ch fr cs v
 | fork (Γ : List Post) (C : Nat) (fr : Frame) (cs : List Frame) (v : World) (o : Oper) (x : Operand) (ats : Array TypeId) (f : FuncId) (caps : Array Value) (Q : Post) : Head fr o -> o.op = .go { callee := .value x, args := #[], argTypes := ats } ->
   okX G Sb x = true -> fr.eval x = .func (.func f) #[] caps -> (∃ fn c, P.funcs[f]? = some fn /\ fn.body = some c /\ (fn.name == "runtime.NumGoroutine") = false) -> Γ.length < 3 -> InvQ S Q ->
   T P (HD P G Sb) (AtSend P G Sb C Q) (Frame.enter P f caps .deferred) [] (shut v) -> M P S G Sb F (Γ ++ [Q]) (some C) (fr.finish undef) cs (shut v) -> M P S G Sb F Γ (some C) fr cs v
 | recv (Γ : List Post) (C : Nat) (fr : Frame) (cs : List Frame) (v : World) (o : Oper) (x : Operand) (z : Value) : Head fr o -> okX G Sb x = true -> fr.eval x = .chan (some C) ->
   (∀ (ev : Operand -> Value) w es, ev x = .chan (some C) -> (execOp ev o).runT P w es = (.ok (.comm #[rcase C z] true (.recv false)) w, es)) -> Γ ≠ [] ->
   (∀ Γ1 Q Γ2, Γ = Γ1 ++ Q :: Γ2 -> ∀ v' y, Grow v v' -> Q y (hide v v') -> Self P S G (fr.finish y) cs v' -> M P S G Sb F (Γ1 ++ Γ2) (some C) (fr.finish y) cs v') -> M P S G Sb F Γ (some C) fr cs v
 | loops (K : Sit) (ch : Option Nat) (fr : Frame) (cs : List Frame) (v : World) : L P S G Sb K none fr cs v -> (∀ fr' cs' v', K fr' cs' v' -> M P S G Sb F [] ch fr' cs' v') -> M P S G Sb F [] ch fr cs v
section
variable {P : Program} {S : FuncId -> Prop} {G Sb : Nat -> Bool} {F : Value -> Prop} {Γ : List Post} {ch : Option Nat}
theorem shut_at2 (v : World) (τ : Nat -> Question -> Nat) (d : Nat) : shut (aT2 v τ d) = aT2 (shut v) τ d := rfl
theorem AtSend.at2 {C : Nat} {Q : Post} (hQ : InvQ S Q) : ∀ fr cs v τ d, AtSend P G Sb C Q fr cs v -> AtSend P G Sb C Q fr cs (aT2 v τ d) := fun fr cs v τ d h => by
 obtain ⟨h1, h2, h2', ops, i, k, o, chx, xop, q, h3, h4, h5, h6, h7, h8, h9, h10, h11⟩ := h
 exact ⟨h1, h2, h2', ops, i, k, o, chx, xop, q, h3, h4, h5, h6, h7, h8, h9, hQ.at2 _ _ _ _ h10, h11⟩
theorem M.at2 {fr : Frame} {cs : List Frame} {v : World} (h : M P S G Sb F Γ ch fr cs v) : ∀ τ d, M P S G Sb F Γ ch fr cs (aT2 v τ d) := by
 induction h with
 | fin ch fr v x h hi hx => exact fun τ d => .fin ch fr _ x (fun τ' d' => h τ' d') hi hx
 | step Γ ch fr cs v hh h k _ => exact fun τ d => .step Γ ch fr cs _ hh (fun τ' d' => h τ' d') fun τ' d' => k τ' d'
 | enter Γ ch fr cs v o f as ats h1 h2 h3 h4 _ ih => exact fun τ d => .enter Γ ch fr cs _ o f as ats h1 h2 h3 h4 (ih τ d)
 | chan ch fr cs v o hh hr _ ih => exact fun τ d => .chan ch fr cs _ o hh hr fun C => ih C τ d
 | fork Γ C fr cs v o x ats f caps Q h1 h2 h3 h4 h5 h6 h7 h8 _ ih => exact fun τ d => .fork Γ C fr cs _ o x ats f caps Q h1 h2 h3 h4 h5 h6 h7 (by rw [shut_at2]; exact h8.at2 (fun _ _ _ _ _ h => h) (AtSend.at2 h7) τ d) (by rw [shut_at2]; exact ih τ d)
 | recv Γ C fr cs v o x z h1 h2 h3 h4 h5 k _ => exact fun τ d => .recv Γ C fr cs _ o x z h1 h2 h3 h4 h5 fun Γ1 Q Γ2 e v' y hg hq hs => k Γ1 Q Γ2 e v' y ⟨hg.size, hg.keep, hg.os, hg.output⟩ hq hs
 | loops K ch fr cs v h _ ih => exact fun τ d => .loops (At2K K) ch fr cs _ (h.at2 τ d) fun fr' cs' v' ⟨v0, τ', d', h0, e⟩ => by rw [e]; exact ih _ _ _ h0 τ' d'
def MS (P : Program) (S : FuncId -> Prop) (G Sb : Nat -> Bool) (F : Value -> Prop) (Γ : List Post) (ch : Option Nat) : Sit := fun fr cs v => Self P S G fr cs v -> M P S G Sb F Γ ch fr cs v
theorem MS.at2 {fr : Frame} {cs : List Frame} {v : World} (h : MS P S G Sb F Γ ch fr cs v) (τ : Nat -> Question -> Nat) (d : Nat) : MS P S G Sb F Γ ch fr cs (aT2 v τ d) := fun hs => (h (by have := hs.at2 v.tape v.drawn; exact this)).at2 τ d
theorem MS.of_at2 {fr : Frame} {cs : List Frame} {v : World} {τ : Nat -> Question -> Nat} {d : Nat} (h : MS P S G Sb F Γ ch fr cs (aT2 v τ d)) : MS P S G Sb F Γ ch fr cs v := by
 have := h.at2 v.tape v.drawn
 exact this
theorem MS.back (hC : Ctx P S G Sb) : Back P G Sb (MS P S G Sb F Γ ch) := fun fr cs v hh h k hs =>
 .step _ _ _ _ _ hh h fun τ d x v' hr => k τ d x v' hr (Self.step hC hh (hs.at2 τ d) hr)
theorem ji_of_run (hC : Ctx P S G Sb) : ∀ (n : Nat) {fr fr' : Frame} {cs : List Frame} {v w : World}, JI P S G Sb fr cs v -> runN P n (lone fr cs v) = .next (lone fr' [cBad] w) -> (∀ c, fr'.mode ≠ .panicking c) -> JI P S G Sb fr' [cBad] w := by
 have hQ : QOk (fun fr cs _ => cs = [cBad] /\ ∀ c, fr.mode ≠ .panicking c) := ⟨fun _ _ _ _ _ h => h, fun _ _ _ h => h.1, fun _ _ _ c h => h.2 c⟩
 intro n
 induction n with
 | zero =>
  intro fr fr' cs v w hj hr hm
  simp only [runN, Stepped.next.injEq] at hr
  obtain ⟨rfl, rfl, rfl⟩ := lone_inj hr
  exact hj
 | succ n ih =>
  intro fr fr' cs v w hj hr hm
  cases hx : (stepS P fr cs).run P v with
  | halt x u => exact absurd ⟨_, _, _, rfl, rfl, hm⟩ (dead_of_halt hC hQ hj hx n _ hr)
  | ok x u =>
   have hj' := (JI.kept hC).step _ _ _ _ _ hj hx
   obtain ⟨es, hT⟩ : ∃ es, (stepS P fr cs).runT P v #[] = (.ok x u, es) := ⟨_, by rw [Sem.runT_eq, hx]⟩
   have htm : Tm fr := by
    obtain ⟨fs, rfl, ho, hm, hfs, hp, N0, ρ, hw, hG, hf, hl⟩ := hj
    exact hf.tm'
   have hst1 : step P (lone fr cs v) = .next (lone x.1 x.2 u) := step_lone_go (by
    show (stepG P true (Go.Conc.G fr cs) v).bare = _
    rw [stepG_of_S (main := true) htm hT]; rfl)
   rw [runN, hst1] at hr
   exact ih hj' hr hm
theorem T.back {Q : Sit} : Back P G Sb (T P (HD P G Sb) Q) := fun fr cs v hh h k => .step fr cs v hh h k
def Leads (X : Sit) (b : Frame) (k : List Item) (cs : List Frame) : Exit -> Act -> World -> Prop
 | .normal, a, w => X (b.at a k) cs w
 | .ret, a, w => ∀ todo, X { b.at a todo with mode := .returning } cs w
 | _, _, _ => False
theorem fRel_at {b : Frame} {a : Act} {t t' : List Item} {ρ : Ren} (h : FRel S ρ (b.at a t) (b.at a t)) : FRel S ρ (b.at a t') (b.at a t') := ⟨rfl, h.tmps, rfl, rfl, rfl, h.early, h.defers, h.defers', h.round, h.round'⟩
end
end
section
open Go Go.Conc
section
variable {P : Program} {S : FuncId -> Prop} {G Sb : Nat -> Bool} {N0 : Nat} {ρ : Ren} {v w w' : World}
theorem WRel.others (h : WRel P S N0 ρ v w) (hsz : w.heap.size <= w'.heap.size) (hk : ∀ b c, ρ b c -> w'.heap[c]? = w.heap[c]?) : WRel P S N0 ρ (aT2 v w'.tape w'.drawn) w' where
 inj := h.inj
 func := h.func
 dom b c hbc := ⟨(h.dom b c hbc).1, Nat.lt_of_lt_of_le (h.dom b c hbc).2 hsz⟩
 cell b c hbc := by rw [hk b c hbc]; exact h.cell b c hbc
 tape := rfl
 drawn := rfl
 low := h.low
 glob := h.glob
 lowW := Nat.le_trans h.lowW hsz
 same := h.same
 nl := h.nl
theorem WRel.at' (h : WRel P S N0 ρ v w) (τ : Nat -> Question -> Nat) (d : Nat) : WRel P S N0 ρ (aT2 v τ d) (aT2 w τ d) := ⟨h.inj, h.func, h.dom, h.cell, rfl, rfl, h.low, h.glob, h.lowW, h.same, h.nl⟩
theorem shutO_plain {o : Obj} (h : plainO o = true) : plainO (shutO o) = true := by cases o <;> first | rfl | exact h
theorem Plain.shut {v : World} (h : Plain v) : Plain (shut v) := fun b o ho => by
 have ho : (v.heap.map shutO)[b]? = some o := ho
 rw [Array.getElem?_map] at ho
 obtain ⟨o', h1, rfl⟩ := Option.map_eq_some_iff.1 ho
 exact shutO_plain (h b o' h1)
theorem WRel.shut (h : WRel P S N0 ρ v w) : WRel P S v.heap.size ρ (shut v) w where
 inj := h.inj
 func := h.func
 dom b c hbc := by
  have := h.dom b c hbc
  refine ⟨?_, this.2⟩
  show b < (v.heap.map shutO).size
  simpa using this.1
 cell b c hbc := by
  have hb := (h.dom b c hbc).1
  have e : ∀ o, v.heap[b]? = some o -> (Go.Proofs.YtlipmagkplbkdaaDoor.shut v).heap[b]? = some (shutO o) := fun o ho => by
   show (v.heap.map shutO)[b]? = _
   rw [Array.getElem?_map, ho]; rfl
  rcases h.cell b c hbc with ⟨cs, ds, t, fr, fr', h1, h2, h3, h4, h5⟩ | ⟨x, y, l, h1, h2, h3⟩ | ⟨o, o', s, p, h1, h2, h3, h4⟩
  ·exact .inl ⟨cs, ds, t, _, fr', e _ h1, h2, h3, fun hn => absurd hb (Nat.not_lt.2 hn), fun _ off ho => ⟨Nat.zero_le _, ho⟩⟩
  ·exact .inr (.inl ⟨x, y, l, e _ h1, h2, h3⟩)
  ·refine .inr (.inr ⟨_, o', s, p, e _ h1, h2, h3, .inl ?_⟩)
   rcases h4 with rfl | ⟨rfl, _⟩ <;> rfl
 tape := h.tape
 drawn := h.drawn
 low := by show v.heap.size <= (v.heap.map shutO).size; simp
 glob := Nat.le_trans h.glob h.low
 lowW := h.lowW
 same := h.same
 nl b o ho := by
  have ho : (v.heap.map shutO)[b]? = some o := ho
  rw [Array.getElem?_map] at ho
  obtain ⟨o', h1, rfl⟩ := Option.map_eq_some_iff.1 ho
  have := h.nl b o' h1
  cases o' <;> first | rfl | exact this
def selfR (ρ : Ren) : Ren := fun b c => b = c /\ ∃ d, ρ b d
theorem VRel.self {x y : Value} (h : VRel S ρ x y) : VRel S (selfR ρ) x x := by
 induction h with
 | bool b => exact .bool b
 | int k n => exact .int k n
 | string s => exact .string s
 | nilp => exact .nilp
 | ptr b c off sp h => exact .ptr b b off sp ⟨rfl, c, h⟩
 | nils n k => exact .nils n k
 | sl b c off sp n k h => exact .sl b b off sp n k ⟨rfl, c, h⟩
 | sl0 a => exact .sl0 a
 | chan r => exact .chan r
 | nilMap => exact .nilMap
 | nilFunc y h => exact .nilFunc _ rfl
 | yield l => exact .yield l
 | iface t x y _ ih => exact .iface t x x ih
 | nilIface => exact .nilIface
 | func f as bs cs ds h0 h1 h2 h3 h4 ih1 ih2 => exact .func f as as cs cs h0 rfl (fun i h _ => ih1 i h (by rw [<- h1]; exact h)) rfl (fun i h _ => ih2 i h (by rw [<- h3]; exact h))
 | agg as bs h1 _ ih => exact .agg as as rfl fun i h _ => ih i h (by rw [<- h1]; exact h)
 | tuple as bs h1 _ ih => exact .tuple as as rfl fun i h _ => ih i h (by rw [<- h1]; exact h)
theorem AsRel.self {as bs : Array Value} (h : AsRel S ρ as bs) : AsRel S (selfR ρ) as as := ⟨rfl, fun i h1 _ => (h.2 i h1 (by rw [<- h.1]; exact h1)).self⟩
theorem WRel.self (h : WRel P S N0 ρ v w) : WRel P S N0 (selfR ρ) v v where
 inj b b' c h1 h2 := h1.1.trans h2.1.symm
 func b c c' h1 h2 := h1.1.symm.trans h2.1
 dom b c hbc := by obtain ⟨rfl, d, hd⟩ := hbc; exact ⟨(h.dom b d hd).1, (h.dom b d hd).1⟩
 cell b c hbc := by
  obtain ⟨rfl, d, hd⟩ := hbc
  rcases h.cell b d hd with ⟨cs, ds, t, fr, fr', h1, h2, h3, h4, h5⟩ | ⟨x, y, l, h1, h2, h3⟩ | ⟨o, o', s, p, h1, h2, h3, h4⟩
  ·exact .inl ⟨cs, cs, t, fr, fr, h1, h1, h3.self, fun _ => rfl, h5⟩
  ·exact .inr (.inl ⟨x, x, l, h1, h1, ⟨rfl, y.block, h3.1⟩, rfl, rfl⟩)
  ·rcases h4 with rfl | ⟨rfl, _, h5⟩
   ·exact .inr (.inr ⟨_, _, s, p, h1, h1, .inr rfl, .inl rfl⟩)
   ·exact .inr (.inr ⟨_, _, s, p, h1, h1, .inl rfl, .inr ⟨rfl, rfl, h5⟩⟩)
 tape := rfl
 drawn := rfl
 low := h.low
 glob := h.glob
 lowW := Nat.le_trans h.glob h.low
 same b c hbc _ := hbc.1.symm
 nl := h.nl
theorem FRel.self {f f' : Frame} (h : FRel S ρ f f') : FRel S (selfR ρ) f f := ⟨rfl, h.tmps.self, rfl, rfl, rfl, h.early, h.defers, h.defers, h.round, h.round⟩
theorem FsRel.self {l l' : List Frame} (h : FsRel S ρ l l') : FsRel S (selfR ρ) l l := by
 induction h with
 | nil => exact .nil
 | cons h _ ih => exact .cons h.self ih
theorem GlOk.self (h : GlOk G ρ) : GlOk G (selfR ρ) := fun g hg => ⟨rfl, g, h g hg⟩
theorem Self.of {fr fr' : Frame} {cs cs' : List Frame} (hp : Plain v) (hw : WRel P S N0 ρ v w) (hG : GlOk G ρ) (hf : FRel S ρ fr fr') (hl : FsRel S ρ cs cs') : Self P S G fr cs v := ⟨hp, N0, selfR ρ, hw.self, hG.self, hf.self, hl.self⟩
theorem view_keep (hC : Ctx P S G Sb) {fr fr' : Frame} {cs cs' : List Frame} (ho : okHead P G Sb fr) (hw : WRel P S N0 ρ v w) (hG : GlOk G ρ) (hf : FRel S ρ fr fr') (hl : FsRel S ρ cs cs') {x : Frame × List Frame} {v' : World} (hr : (stepS P fr cs).run P v = .ok x v') :
  ∀ b, b < N0 -> v'.heap[b]? = v.heap[b]? := fun b hb => by
 obtain ⟨ρ₂, y, w', evs, h1, h2, h3, h4, h5⟩ := Sim.stepS hC.zero (hC.fn N0) hG.self hC.sb ho hf.self hl.self (selfR ρ) v v (Ext.refl _) hw.self x v' hr
 have := congrArg Prod.fst (h2 #[])
 rw [Sem.runT_eq] at this
 rw [show (stepS P fr cs).run P v = .ok y w' from this] at hr
 injection hr with e1 e2
 subst e1 e2
 exact h5.keep b (Nat.lt_of_lt_of_le hb hw.low) fun b' hb' hbb => by have := hbb.1; omega
theorem arr_choose {n : Nat} {R : Nat -> Value -> Prop} (h : ∀ i, i < n -> ∃ y, R i y) : ∃ cs : Array Value, cs.size = n /\ ∀ (i : Nat) (hi : i < cs.size), R i cs[i] := by
 classical
 refine ⟨Array.ofFn fun i : _root_.Fin n => Classical.choose (h i.1 i.2), by simp, fun i hi => ?_⟩
 have hi' : i < n := by simpa using hi
 have := Classical.choose_spec (h i hi')
 simpa using this
theorem VRel.inter {σ τ : Ren} (hst : ∀ b c, ρ b c -> ∃ m, σ b m /\ τ m c) {x y : Value} (h : VRel S ρ x y) : ∃ z, VRel S σ x z /\ VRel S τ z y := by
 induction h with
 | bool b => exact ⟨_, .bool b, .bool b⟩
 | int k n => exact ⟨_, .int k n, .int k n⟩
 | string s => exact ⟨_, .string s, .string s⟩
 | nilp => exact ⟨_, .nilp, .nilp⟩
 | ptr b c off sp h => obtain ⟨m, h1, h2⟩ := hst b c h; exact ⟨_, .ptr b m off sp h1, .ptr m c off sp h2⟩
 | nils n k => exact ⟨_, .nils n k, .nils n k⟩
 | sl b c off sp n k h => obtain ⟨m, h1, h2⟩ := hst b c h; exact ⟨_, .sl b m off sp n k h1, .sl m c off sp n k h2⟩
 | sl0 a => exact ⟨_, .sl0 a, .sl0 a⟩
 | chan r => exact ⟨_, .chan r, .chan r⟩
 | nilMap => exact ⟨_, .nilMap, .nilMap⟩
 | nilFunc y h => exact ⟨_, .nilFunc .nilFunc rfl, .nilFunc y h⟩
 | yield l => exact ⟨_, .yield l, .yield l⟩
 | iface t x y _ ih => obtain ⟨z, h1, h2⟩ := ih; exact ⟨_, .iface t x z h1, .iface t z y h2⟩
 | nilIface => exact ⟨_, .nilIface, .nilIface⟩
 | func f as bs cs ds h0 h1 _ h3 _ ih1 ih2 =>
  obtain ⟨zs, hz, hz2⟩ := arr_choose (n := as.size) (R := fun i z => ∀ (h : i < as.size) (h' : i < bs.size), VRel S σ as[i] z /\ VRel S τ z bs[i]) fun i hi => by
   obtain ⟨z, k1, k2⟩ := ih1 i hi (by rw [<- h1]; exact hi)
   exact ⟨z, fun _ _ => ⟨k1, k2⟩⟩
  obtain ⟨us, hu, hu2⟩ := arr_choose (n := cs.size) (R := fun i z => ∀ (h : i < cs.size) (h' : i < ds.size), VRel S σ cs[i] z /\ VRel S τ z ds[i]) fun i hi => by
   obtain ⟨z, k1, k2⟩ := ih2 i hi (by rw [<- h3]; exact hi)
   exact ⟨z, fun _ _ => ⟨k1, k2⟩⟩
  exact ⟨.func (.func f) zs us, .func f as zs cs us h0 hz.symm (fun i a b => (hz2 i b a (by rw [<- h1]; exact a)).1) hu.symm (fun i a b => (hu2 i b a (by rw [<- h3]; exact a)).1),
   .func f zs bs us ds h0 (hz.trans h1) (fun i a b => (hz2 i a (by rw [<- hz]; exact a) b).2) (hu.trans h3) (fun i a b => (hu2 i a (by rw [<- hu]; exact a) b).2)⟩
 | agg as bs h1 _ ih =>
  obtain ⟨zs, hz, hz2⟩ := arr_choose (n := as.size) (R := fun i z => ∀ (h : i < as.size) (h' : i < bs.size), VRel S σ as[i] z /\ VRel S τ z bs[i]) fun i hi => by
   obtain ⟨z, k1, k2⟩ := ih i hi (by rw [<- h1]; exact hi)
   exact ⟨z, fun _ _ => ⟨k1, k2⟩⟩
  exact ⟨.agg zs, .agg as zs hz.symm (fun i a b => (hz2 i b a (by rw [<- h1]; exact a)).1), .agg zs bs (hz.trans h1) (fun i a b => (hz2 i a (by rw [<- hz]; exact a) b).2)⟩
 | tuple as bs h1 _ ih =>
  obtain ⟨zs, hz, hz2⟩ := arr_choose (n := as.size) (R := fun i z => ∀ (h : i < as.size) (h' : i < bs.size), VRel S σ as[i] z /\ VRel S τ z bs[i]) fun i hi => by
   obtain ⟨z, k1, k2⟩ := ih i hi (by rw [<- h1]; exact hi)
   exact ⟨z, fun _ _ => ⟨k1, k2⟩⟩
  exact ⟨.tuple zs, .tuple as zs hz.symm (fun i a b => (hz2 i b a (by rw [<- h1]; exact a)).1), .tuple zs bs (hz.trans h1) (fun i a b => (hz2 i a (by rw [<- hz]; exact a) b).2)⟩
theorem AsRel.inter {σ τ : Ren} (hst : ∀ b c, ρ b c -> ∃ m, σ b m /\ τ m c) {as bs : Array Value} (h : AsRel S ρ as bs) : ∃ zs, AsRel S σ as zs /\ AsRel S τ zs bs := by
 obtain ⟨z, h1, h2⟩ := (VRel.agg as bs h.1 h.2).inter hst
 cases h1 with
 | agg _ zs k1 k2 =>
  cases h2 with
  | agg _ _ k3 k4 => exact ⟨zs, ⟨k1, k2⟩, ⟨k3, k4⟩⟩
theorem VRel.both {ρ' σ : Ren} (hb : ∀ b c, ρ b c -> ρ' b c -> σ b b) {x y : Value} (h : VRel S ρ x y) : VRel S ρ' x y -> VRel S σ x x := by
 induction h with
 | bool b => exact fun _ => .bool b
 | int k n => exact fun _ => .int k n
 | string s => exact fun _ => .string s
 | nilp => exact fun _ => .nilp
 | ptr b c off sp h => intro h'; cases h' with | ptr _ _ _ _ h2 => exact .ptr b b off sp (hb b c h h2)
 | nils n k => exact fun _ => .nils n k
 | sl b c off sp n k h =>
  intro h'
  cases h' with
  | sl _ _ _ _ _ _ h2 => exact .sl b b off sp n k (hb b c h h2)
  | sl0 => exact .sl0 _
 | sl0 a => exact fun _ => .sl0 a
 | chan r => exact fun _ => .chan r
 | nilMap => exact fun _ => .nilMap
 | nilFunc y h => exact fun _ => .nilFunc _ rfl
 | yield l => exact fun _ => .yield l
 | iface t x y _ ih => intro h'; cases h' with | iface _ _ _ h2 => exact .iface t x x (ih h2)
 | nilIface => exact fun _ => .nilIface
 | func f as bs cs ds h0 h1 h2 h3 h4 ih1 ih2 =>
  intro h'
  cases h' with
  | func _ _ _ _ _ k0 k1 k2 k3 k4 => exact .func f as as cs cs h0 rfl (fun i a _ => ih1 i a (by rw [<- h1]; exact a) (k2 i a _)) rfl (fun i a _ => ih2 i a (by rw [<- h3]; exact a) (k4 i a _))
 | agg as bs h1 _ ih => intro h'; cases h' with | agg _ _ k1 k2 => exact .agg as as rfl fun i a _ => ih i a (by rw [<- h1]; exact a) (k2 i a _)
 | tuple as bs h1 _ ih => intro h'; cases h' with | tuple _ _ k1 k2 => exact .tuple as as rfl fun i a _ => ih i a (by rw [<- h1]; exact a) (k2 i a _)
end
end
section
open Go Go.Conc
section
variable {P : Program} {S : FuncId -> Prop} {N0 Nj : Nat} {ρ ρj : Ren} {v vj w : World}
def moved (Nj n : Nat) (b : Nat) : Nat := if b < Nj then b else b - Nj + n
def sigma (ρj : Ren) (Nj n : Nat) : Ren := fun b m => m = moved Nj n b /\ ∃ c, ρj b c
def tau (ρ ρj : Ren) (Nj n : Nat) : Ren := fun m c => ρ m c ∨ ∃ b, Nj <= b /\ ρj b c /\ m = b - Nj + n
theorem take_over (h0 : WRel P S N0 ρ v w) (hj : WRel P S Nj ρj vj w) (hp0 : Plain v) (hpj : Plain vj) (hN : Nj <= v.heap.size) (hsh : ∀ b c, b < Nj -> ρj b c -> ρ b c) (hap : ∀ b c, Nj <= b -> ρj b c -> ∀ b', ¬ ρ b' c) (hsame : ∀ b, b < Nj -> vj.heap[b]? = v.heap[b]?) (hcl : ∀ b o, b < Nj -> v.heap[b]? = some o -> shutO o = o)
  {Q : Post} (hQ : InvQ S Q) {x y : Value} (hxy : VRel S ρj x y) (hq : Q x vj) :
  ∃ v' ρ' x', Grow v v' /\ Q x' (hide v v') /\ VRel S ρ' x' y /\ Ext ρ ρ' /\ WRel P S N0 ρ' v' w /\ Plain v' /\ (∀ b c, ρ' b c -> ¬ ρ b c -> v.heap.size <= b /\ ∃ b1, Nj <= b1 /\ ρj b1 c) := by
 classical
 have hst : ∀ b c, ρj b c -> ∃ m, sigma ρj Nj v.heap.size b m /\ tau ρ ρj Nj v.heap.size m c := fun b c h => by
  refine ⟨moved Nj v.heap.size b, ⟨rfl, c, h⟩, ?_⟩
  unfold moved
  split
  ·exact .inl (hsh b c ‹_› h)
  ·exact .inr ⟨b, by omega, h, rfl⟩
 have ob : ∀ n, ∃ o, plainO o = true /\ ∀ c, ρj (Nj + n) c ->
   (
    (∃ cs zs ds t fr fr', vj.heap[Nj + n]? = some (.cells cs t fr) /\ o = .cells zs t fr /\ w.heap[c]? = some (.cells ds t fr') /\ AsRel S (sigma ρj Nj v.heap.size) cs zs /\ AsRel S (tau ρ ρj Nj v.heap.size) zs ds /\ fr' = fr) ∨
    (∃ x z y l, vj.heap[Nj + n]? = some (.number x l) /\ o = .number z l /\ w.heap[c]? = some (.number y l) /\ AdR (tau ρ ρj Nj v.heap.size) z y) ∨
    (∃ o' s p, vj.heap[Nj + n]? = some o /\ w.heap[c]? = some o' /\ (o' = .stringIter s p ∨ o' = .coro none) /\ (o = .coro none ∨ (o = .stringIter s p /\ o' = .stringIter s p)))) := fun n => by
  by_cases hc : ∃ c, ρj (Nj + n) c
  ·obtain ⟨c, hc⟩ := hc
   have uniq : ∀ c', ρj (Nj + n) c' -> c' = c := fun c' h' => hj.func _ _ _ h' hc
   rcases hj.cell _ _ hc with ⟨cs, ds, t, fr, fr', h1, h2, h3, h4, _⟩ | ⟨a, b, l, h1, h2, h3⟩ | ⟨o, o', s, p, h1, h2, h3, h4⟩
   ·obtain ⟨zs, k1, k2⟩ := h3.inter hst
    exact ⟨.cells zs t fr, rfl, fun c' h' => by rw [uniq c' h']; exact .inl ⟨cs, zs, ds, t, fr, fr', h1, rfl, h2, k1, k2, h4 (by omega)⟩⟩
   ·obtain ⟨m, k1, k2⟩ := hst _ _ h3.1
    exact ⟨.number ⟨m, a.off, a.spot⟩ l, rfl, fun c' h' => by rw [uniq c' h']; exact .inr (.inl ⟨a, _, b, l, h1, rfl, h2, k2, h3.2.1, h3.2.2⟩)⟩
   ·refine ⟨o, hpj _ _ h1, fun c' h' => by rw [uniq c' h']; exact .inr (.inr ⟨o', s, p, h1, h2, h3, h4.elim .inl fun h => .inr ⟨h.1, h.2.1⟩⟩)⟩
  ·exact ⟨.coro none, rfl, fun c h => absurd ⟨c, h⟩ hc⟩
 obtain ⟨obj, hobj⟩ := Classical.axiomOfChoice ob
 let k := vj.heap.size - Nj
 let v' : World := { v with heap := v.heap ++ Array.ofFn fun i : _root_.Fin k => obj i.1 }
 have hlow := hj.low
 have hsz : v'.heap.size = v.heap.size + k := by simp [v']
 have old : ∀ b, b < v.heap.size -> v'.heap[b]? = v.heap[b]? := fun b hb => by
  show (v.heap ++ _)[b]? = _
  rw [Array.getElem?_append, if_pos hb]
 have new : ∀ n, n < k -> v'.heap[v.heap.size + n]? = some (obj n) := fun n hn => by
  show (v.heap ++ _)[v.heap.size + n]? = _
  rw [Array.getElem?_append, if_neg (by omega)]
  simp [show v.heap.size + n - v.heap.size = n by omega, hn]
 have dj : ∀ b c, ρj b c -> b < vj.heap.size := fun b c h => (hj.dom b c h).1
 have newt : ∀ b c, Nj <= b -> ρj b c -> v'.heap[b - Nj + v.heap.size]? = some (obj (b - Nj)) := fun b c hb h => by
  have := dj b c h
  rw [Nat.add_comm (b - Nj)]
  exact new _ (by show b - Nj < vj.heap.size - Nj; omega)
 have hx' := hxy.inter hst
 obtain ⟨x', hx1, hx2⟩ := hx'
 have hext : Ext ρ (tau ρ ρj Nj v.heap.size) := fun b c h => .inl h
 have hgrow : Grow v v' := ⟨by omega, old, rfl, rfl⟩
 have hW : WRel P S N0 (tau ρ ρj Nj v.heap.size) v' w := by
  refine ⟨?_, ?_, ?_, ?_, h0.tape, h0.drawn, Nat.le_trans h0.low (by omega), h0.glob, h0.lowW, ?_, ?_⟩
  ·rintro b b' c (h | ⟨b1, h1, h2, rfl⟩) (h' | ⟨b2, h3, h4, rfl⟩)
   ·exact h0.inj _ _ _ h h'
   ·exact absurd h (hap _ _ h3 h4 _)
   ·exact absurd h' (hap _ _ h1 h2 _)
   ·rw [hj.inj _ _ _ h2 h4]
  ·rintro b c c' (h | ⟨b1, h1, h2, rfl⟩) (h' | ⟨b2, h3, h4, e⟩)
   ·exact h0.func _ _ _ h h'
   ·have := (h0.dom _ _ h).1; omega
   ·have := (h0.dom _ _ h').1; omega
   ·obtain rfl : b1 = b2 := by omega
    exact hj.func _ _ _ h2 h4
  ·rintro b c (h | ⟨b1, h1, h2, rfl⟩)
   ·have := h0.dom _ _ h; omega
   ·have := hj.dom _ _ h2
    refine ⟨?_, this.2⟩
    rw [hsz]
    show b1 - Nj + v.heap.size < v.heap.size + (vj.heap.size - Nj)
    omega
  ·rintro b c (h | ⟨b1, h1, h2, rfl⟩)
   ·rw [old b (h0.dom _ _ h).1]
    rcases h0.cell b c h with ⟨cs, ds, t, fr, fr', k1, k2, k3, k4⟩ | ⟨x, y, l, k1, k2, k3⟩ | h
    ·exact .inl ⟨cs, ds, t, fr, fr', k1, k2, k3.mono hext, k4⟩
    ·exact .inr (.inl ⟨x, y, l, k1, k2, k3.mono hext⟩)
    ·exact .inr (.inr h)
   ·rw [newt b1 c h1 h2]
    have := h0.low
    rcases (hobj (b1 - Nj)).2 c (by rw [show Nj + (b1 - Nj) = b1 by omega]; exact h2) with ⟨cs, zs, ds, t, fr, fr', k1, k2, k3, k4, k5, k6⟩ | ⟨x, z, y, l, k1, k2, k3, k4⟩ | ⟨o', s, p, k1, k2, k3, k4⟩
    ·exact .inl ⟨zs, ds, t, fr, fr', by rw [k2], k3, k5, fun _ => k6, fun hlt => by omega⟩
    ·exact .inr (.inl ⟨z, y, l, by rw [k2], k3, k4⟩)
    ·exact .inr (.inr ⟨_, o', s, p, rfl, k2, k3, k4.elim .inl fun h => .inr ⟨h.1, h.2, by omega⟩⟩)
  ·have := h0.low
   have hg := h0.glob
   have hgj := hj.glob
   rintro b c (h | ⟨b1, h1, h2, rfl⟩) hlt
   ·exact h0.same _ _ h hlt
   ·rcases hlt with hlt | hlt
    ·omega
    ·have := hj.same _ _ h2 (.inr hlt)
     omega
  ·intro b o ho
   have ho : (v.heap ++ Array.ofFn fun i : _root_.Fin k => obj i.1)[b]? = some o := ho
   rw [Array.getElem?_append] at ho
   split at ho
   ·exact h0.nl b o ho
   ·have hm := Array.mem_of_getElem? ho
    obtain ⟨i, rfl⟩ := Array.mem_ofFn.1 hm
    have hpo := (hobj i.1).1
    generalize obj i.1 = oo at hpo ⊢
    cases oo <;> first | rfl | cases hpo
 have hH : HRel S (sigma ρj Nj v.heap.size) vj v' := by
  refine ⟨?_, ?_, ?_⟩
  ·rintro b m ⟨rfl, c, hc⟩ off u hu
   by_cases hb : b < Nj
   ·have hm : moved Nj v.heap.size b = b := by unfold moved; rw [if_pos hb]
    rw [hm]
    have hv : v.cell? ⟨b, off, none⟩ = some u := by
     unfold World.cell? at hu ⊢
     rw [<- hsame b hb]; exact hu
    obtain ⟨d, hd1, hd2⟩ := h0.cell? (a := ⟨b, off, none⟩) (b := ⟨c, off, none⟩) ⟨hsh b c hb hc, rfl, rfl⟩ hv
    obtain ⟨d', hd3, hd4⟩ := hj.cell? (a := ⟨b, off, none⟩) (b := ⟨c, off, none⟩) ⟨hc, rfl, rfl⟩ hu
    rw [hd1] at hd3
    injection hd3 with e
    subst e
    refine ⟨u, ?_, hd4.both (ρ' := ρ) (fun b2 c2 k1 k2 => ?_) hd2⟩
    ·unfold World.cell? at hv ⊢
     rw [old b (by omega)]; exact hv
    ·refine ⟨?_, c2, k1⟩
     unfold moved
     rw [if_pos]
     exact Nat.lt_of_not_le fun hle => hap _ _ hle k1 _ k2
   ·have hm : moved Nj v.heap.size b = b - Nj + v.heap.size := by unfold moved; rw [if_neg hb]
    rw [hm]
    have hn := newt b c (by omega) hc
    rcases (hobj (b - Nj)).2 c (by rw [show Nj + (b - Nj) = b by omega]; exact hc) with ⟨cs, zs, ds, t, fr, fr', k1, k2, k3, k4, k5, k6⟩ | ⟨x, z, y, l, k1, k2, k3, k4⟩ | ⟨o', s, p, k1, k2, k3, k4⟩
    ·rw [show Nj + (b - Nj) = b by omega] at k1
     rw [k2] at hn
     unfold World.cell? at hu ⊢
     rw [k1] at hu
     rw [hn]
     exact k4.get hu
    ·rw [show Nj + (b - Nj) = b by omega] at k1
     unfold World.cell? at hu
     rw [k1] at hu
     cases hu
    ·rw [show Nj + (b - Nj) = b by omega] at k1
     unfold World.cell? at hu
     rw [k1] at hu
     rcases k4 with e | ⟨e, _⟩ <;> rw [e] at hu <;> cases hu
  ·rintro b m ⟨rfl, c, hc⟩ off hz
   by_cases hb : b < Nj
   ·have hm : moved Nj v.heap.size b = b := by unfold moved; rw [if_pos hb]
    rw [hm] at hz
    unfold World.frozen? at hz ⊢
    rw [hsame b hb, <- old b (by omega)]; exact hz
   ·have hm : moved Nj v.heap.size b = b - Nj + v.heap.size := by unfold moved; rw [if_neg hb]
    rw [hm] at hz
    have hn := newt b c (by omega) hc
    rcases (hobj (b - Nj)).2 c (by rw [show Nj + (b - Nj) = b by omega]; exact hc) with ⟨cs, zs, ds, t, fr, fr', k1, k2, k3, k4, k5, k6⟩ | ⟨x, z, y, l, k1, k2, k3, k4⟩ | ⟨o', s, p, k1, k2, k3, k4⟩
    ·rw [show Nj + (b - Nj) = b by omega] at k1
     rw [k2] at hn
     unfold World.frozen? at hz ⊢
     rw [hn] at hz
     rw [k1]
     exact hz
    ·rw [k2] at hn
     unfold World.frozen? at hz
     rw [hn] at hz
     cases hz
    ·unfold World.frozen? at hz
     rw [hn] at hz
     rcases k4 with e | ⟨e, _⟩ <;> rw [e] at hz <;> cases hz
  ·rintro b m ⟨rfl, c, hc⟩
   have := dj b c hc
   rw [hsz]
   unfold moved
   show _ < v.heap.size + (vj.heap.size - Nj)
   split <;> omega
 have hsg : ∀ b m, sigma ρj Nj v.heap.size b m -> (hide v v').heap[m]? = v'.heap[m]? := fun b m ⟨e, _⟩ => by
  subst e
  unfold moved
  split
  ·rename_i hb
   refine hide_get (.inr fun o ho => hcl b o hb ?_)
   rw [<- old b (by omega)]; exact ho
  ·exact hide_get (.inl (by omega))
 have hH' : HRel S (sigma ρj Nj v.heap.size) vj (hide v v') := ⟨fun b m hs off u hu => by
  obtain ⟨u', h1, h2⟩ := hH.cell b m hs off u hu
  exact ⟨u', (World.cell?_of_block (a := ⟨m, off, none⟩) (hsg b m hs)).trans h1, h2⟩, fun b m hs off hz => hH.frozen b m hs off (by rw [<- World.frozen?_of_block (a := ⟨m, off, none⟩) (hsg b m hs)]; exact hz), fun b m hs => by rw [hide_size]; exact hH.dom b m hs⟩
 refine ⟨v', _, x', hgrow, hQ.turn _ _ _ _ _ hH' hx1 hq, hx2, hext, hW, fun b o ho => ?_, ?_⟩
 ·by_cases hb : b < v.heap.size
  ·rw [old b hb] at ho; exact hp0 b o ho
  ·have hb2 := (Array.getElem?_eq_some_iff.1 ho).1
   rw [hsz] at hb2
   have hn := new (b - v.heap.size) (by omega)
   rw [show v.heap.size + (b - v.heap.size) = b by omega, ho] at hn
   injection hn with hn
   rw [hn]
   exact (hobj _).1
 ·rintro b c (h | ⟨b1, h1, h2, rfl⟩) hn
  ·exact absurd h hn
  ·exact ⟨by omega, b1, h1, h2⟩
end
end
section
open Go Go.Conc
def blkL : Loc -> Option Nat
 | .cell a => some a.block
 | .obj r => some r
 | _ => none
structure SepT (Act : Nat -> Prop) (rng own : Nat -> Nat -> Prop) (B : Nat) : Prop where
 pos : ∀ j, Act j -> 0 < j
 sub : ∀ j c, own j c -> rng j c
 apart : ∀ j k c, (j = 0 ∨ Act j) -> (k = 0 ∨ Act k) -> j ≠ k -> own j c -> ¬ rng k c
 low : ∀ j c, (j = 0 ∨ Act j) -> rng j c -> c < B
structure Tr (Act : Nat -> Prop) (pos : Nat -> Option Nat) (rng own : Nat -> Nat -> Prop) (B : Nat) (t : Trace) : Prop where
 word : Wordless t
 low : ∀ op ∈ t, op.act.low B
 calm : ∀ said, ¬ Race said t
 main : ∀ i a c, touchAt t i = some a -> blkL a.loc = some c -> Knows t 0 i ∨ ∃ j op, t[i]? = some op /\ op.g = j /\ Act j /\ rng j c /\ (a.write = true -> own j c) /\ ∀ s, pos j = some s -> i < s
 work : ∀ j, Act j -> pos j = none -> ∀ i a c, touchAt t i = some a -> blkL a.loc = some c -> rng j c -> (a.write = true ∨ own j c) -> Knows t j i
def OpC (rng own : Nat -> Prop) (B : Nat) (x : MemAct) : Prop :=
 x.low B /\ (∀ m, x = .mark m -> Neutral m) /\ ∀ a, x.touch? = some a -> ∃ c, blkL a.loc = some c /\ rng c /\ (a.write = true -> own c)
theorem touch_low {x : MemAct} {B : Nat} {a : Touch} {c : Nat} (h : x.low B) (ht : x.touch? = some a) (hc : blkL a.loc = some c) : c < B := by
 cases x with
 | access e =>
  simp only [MemAct.touch?, Option.some.injEq] at ht
  subst ht
  have h : e.loc.low B := h
  simp only at hc
  cases he : e.loc <;> rw [he] at hc h <;> simp [blkL] at hc <;> subst hc <;> exact h
 | mark m =>
  cases m <;> simp only [MemAct.touch?, Option.some.injEq, reduceCtorEq] at ht
  all_goals
   subst ht
   simp only [blkL, Option.some.injEq] at hc
   subst hc
   exact h
 | _ => cases ht
theorem conflict_blk {said : Bool} {a b : Touch} (h : a.conflicts said b) : ∃ c, blkL a.loc = some c /\ blkL b.loc = some c /\ (a.write = true ∨ b.write = true) := by
 obtain ⟨h1, h2, h3, _⟩ := h
 rw [<- h1]
 cases he : a.loc <;> rw [he] at h2 <;> first | exact ⟨_, rfl, rfl, h3⟩ | cases h2
section
variable {Act : Nat -> Prop} {pos : Nat -> Option Nat} {rng own : Nat -> Nat -> Prop} {B : Nat} {t : Trace}
theorem touch_in {u : Trace} {i : Nat} {a : Touch} (h : touchAt (t ++ u) i = some a) : (touchAt t i = some a /\ i < t.size) ∨ ∃ op, (t ++ u)[i]? = some op /\ op ∈ u /\ op.act.touch? = some a := by
 obtain ⟨op, hop, hx⟩ := touch_of h
 rcases getElem?_append_cases hop with ⟨hi, hop'⟩ | ⟨_, hu⟩
 ·exact .inl ⟨by rw [touchAt_of hop']; exact hx, hi⟩
 ·exact .inr ⟨op, hop, hu, hx⟩
theorem Tr.below (h : Tr Act pos rng own B t) {i : Nat} {a : Touch} {c : Nat} (ha : touchAt t i = some a) (hc : blkL a.loc = some c) : c < B := by
 obtain ⟨op, hop, hx⟩ := touch_of ha
 exact touch_low (h.low op (mem_of_getElem? hop)) hx hc
theorem Tr.step (h : Tr Act pos rng own B t) (hs : SepT Act rng own B) {g : Nat} (hg : g = 0 ∨ (Act g /\ pos g = none)) {rng' own' : Nat -> Nat -> Prop} {B' : Nat} (hB : B <= B')
  (ho : ∀ k, k ≠ g -> ∀ c, (rng' k c ↔ rng k c) /\ (own' k c ↔ own k c)) (hr : ∀ c, (rng g c -> rng' g c) /\ (rng' g c -> rng g c ∨ B <= c)) (hw : ∀ c, (own g c -> own' g c) /\ (own' g c -> own g c ∨ B <= c))
  {u : Trace} (hu : ∀ op ∈ u, op.g = g /\ OpC (rng' g) (own' g) B' op.act) : Tr Act pos rng' own' B' (t ++ u) := by
 have hg' : g = 0 ∨ Act g := hg.imp id And.left
 refine ⟨h.word.append fun op hop m hm => (hu op hop).2.2.1 m hm, seen_app (fun op hop => MemAct.low_mono hB (h.low op hop)) fun op hop => (hu op hop).2.1, fun said => noRace_append (h.calm said) (fun op hop => (hu op hop).1) fun i a ha op hop b hb hc => ?_, fun i a c ha hc => ?_, fun j hj hp i a c ha hc hrc hwo => ?_⟩
 ·obtain ⟨c, h1, h2, h3⟩ := conflict_blk hc
  have hlt := h.below ha h1
  obtain ⟨c', h4, h5, h6⟩ := (hu op hop).2.2.2 b hb
  rw [h2] at h4
  injection h4 with h4
  subst h4
  have hrg : rng g c := ((hr c).2 h5).resolve_right (by omega)
  have hog : b.write = true -> own g c := fun hbw => ((hw c).2 (h6 hbw)).resolve_right (by omega)
  rcases hg with rfl | ⟨hA, hp⟩
  ·rcases h.main i a c ha h1 with hk | ⟨j, op', k1, k2, k3, k4, k5, _⟩
   ·exact hk
   ·exfalso
    have hj := hs.pos j k3
    rcases h3 with e | e
    ·exact hs.apart j 0 c (.inr k3) (.inl rfl) (by omega) (k5 e) hrg
    ·exact hs.apart 0 j c (.inl rfl) (.inr k3) (by omega) (hog e) k4
  ·exact h.work g hA hp i a c ha h1 hrg (h3.imp id hog)
 ·rcases touch_in ha with ⟨ha', hi⟩ | ⟨op, hop, hou, hx⟩
  ·rcases h.main i a c ha' hc with hk | ⟨j, op', k1, k2, k3, k4, k5, k6⟩
   ·exact .inl (hk.app u)
   ·refine .inr ⟨j, op', by rw [getElem?_append_old hi]; exact k1, k2, k3, ?_, fun e => ?_, k6⟩
    ·by_cases hjg : j = g
     ·subst hjg; exact (hr c).1 k4
     ·exact (ho j hjg c).1.2 k4
    ·by_cases hjg : j = g
     ·subst hjg; exact (hw c).1 (k5 e)
     ·exact (ho j hjg c).2.2 (k5 e)
  ·obtain ⟨hog, hoc⟩ := hu op hou
   obtain ⟨c', h4, h5, h6⟩ := hoc.2.2 a hx
   rw [hc] at h4
   injection h4 with h4
   subst h4
   rcases hg with rfl | ⟨hA, hp⟩
   ·have := knows_own hop
    rw [hog] at this
    exact .inl this
   ·exact .inr ⟨g, op, hop, hog, hA, h5, h6, fun s hs => by rw [hp] at hs; cases hs⟩
 ·rcases touch_in ha with ⟨ha', hi⟩ | ⟨op, hop, hou, hx⟩
  ·have hlt := h.below ha' hc
   by_cases hjg : j = g
   ·subst hjg
    exact (h.work j hj hp i a c ha' hc (((hr c).2 hrc).resolve_right (by omega)) (hwo.imp id fun e => ((hw c).2 e).resolve_right (by omega))).app u
   ·exact (h.work j hj hp i a c ha' hc ((ho j hjg c).1.1 hrc) (hwo.imp id (ho j hjg c).2.1)).app u
  ·obtain ⟨hog, hoc⟩ := hu op hou
   by_cases hjg : j = g
   ·have := knows_own hop
    rw [hog, <- hjg] at this
    exact this
   ·exfalso
    obtain ⟨c', h4, h5, h6⟩ := hoc.2.2 a hx
    rw [hc] at h4
    injection h4 with h4
    subst h4
    have hrj := (ho j hjg c).1.1 hrc
    have hlt := hs.low j c (.inr hj) hrj
    rcases hwo with e | e
    ·exact hs.apart g j c hg' (.inr hj) (Ne.symm hjg) (((hw c).2 (h6 e)).resolve_right (by omega)) hrj
    ·exact hs.apart j g c (.inr hj) hg' hjg ((ho j hjg c).2.1 e) (((hr c).2 h5).resolve_right (by omega))
theorem Tr.quiet1 (h : Tr Act pos rng own B t) {B' : Nat} (hB : B <= B') {y : MemOp} (hy : y.act.touch? = none) (hl : y.act.low B') (hm : ∀ m, y.act = .mark m -> Neutral m) : Tr Act pos rng own B' (t ++ #[y]) := by
 have e : ∀ op ∈ (#[y] : Trace), op = y := fun op hop => by simpa using hop
 have tin : ∀ {i a}, touchAt (t ++ #[y]) i = some a -> touchAt t i = some a /\ i < t.size := fun {i a} ha => by
  rcases touch_in ha with h | ⟨op, _, hou, hx⟩
  ·exact h
  ·rw [e op hou, hy] at hx; cases hx
 refine ⟨h.word.append fun op hop m hmm => hm m (by rw [<- e op hop]; exact hmm), seen_app (fun op hop => MemAct.low_mono hB (h.low op hop)) fun op hop => by rw [e op hop]; exact hl, fun said => noRace_append (g := y.g) (h.calm said) (fun op hop => by rw [e op hop]) fun i a ha op hop b hb hc => ?_, fun i a c ha hc => ?_, fun j hj hp i a c ha hc hrc hwo => ?_⟩
 ·rw [e op hop, hy] at hb; cases hb
 ·obtain ⟨ha', hi⟩ := tin ha
  rcases h.main i a c ha' hc with hk | ⟨j, op', k1, k2⟩
  ·exact .inl (hk.app _)
  ·exact .inr ⟨j, op', by rw [getElem?_append_old hi]; exact k1, k2⟩
 ·obtain ⟨ha', hi⟩ := tin ha
  exact (h.work j hj hp i a c ha' hc hrc hwo).app _
theorem Tr.quiet {B' : Nat} : ∀ (l : List MemOp) {t : Trace} {B : Nat}, B <= B' -> Tr Act pos rng own B t -> (∀ y ∈ l, y.act.touch? = none /\ y.act.low B' /\ ∀ m, y.act = .mark m -> Neutral m) -> Tr Act pos rng own B' (t ++ l.toArray)
 | [], t, B, hB, h, _ => by
  rw [show t ++ ([] : List MemOp).toArray = t by simp]
  exact ⟨h.word, fun op hop => MemAct.low_mono hB (h.low op hop), h.calm, h.main, h.work⟩
 | y :: l, t, B, hB, h, hl => by
  have hy := hl y (List.mem_cons_self ..)
  rw [show t ++ (y :: l).toArray = (t ++ #[y]) ++ l.toArray by apply Array.ext'; simp]
  exact Tr.quiet l (Nat.le_refl _) (h.quiet1 hB hy.1 hy.2.1 hy.2.2) fun z hz => hl z (List.mem_cons_of_mem _ hz)
theorem Tr.quietA {B' : Nat} (hB : B <= B') {u : Trace} (h : Tr Act pos rng own B t) (hu : ∀ y ∈ u, y.act.touch? = none /\ y.act.low B' /\ ∀ m, y.act = .mark m -> Neutral m) : Tr Act pos rng own B' (t ++ u) := by
 have := Tr.quiet u.toList hB h fun y hy => hu y (Array.mem_toList_iff.1 hy)
 simpa using this
theorem Tr.fork (h : Tr Act pos rng own B t) (hs : SepT Act rng own B) {j : Nat} (hj : 0 < j) (hA : ¬ Act j) {x y : MemOp} (hx : x.g = 0 /\ x.act = .go j) (hy : y.g = j /\ y.act = .start)
  {pos' : Nat -> Option Nat} (hpo : ∀ k, Act k -> pos' k = pos k) {rng' own' : Nat -> Nat -> Prop} (hr : ∀ k, k ≠ j -> ∀ c, rng' k c ↔ rng k c) (ho : ∀ k, k ≠ 0 -> k ≠ j -> ∀ c, own' k c ↔ own k c) (hrj : ∀ c, rng' j c -> rng 0 c) (hoj : ∀ c, ¬ own' j c) :
  Tr (fun k => Act k ∨ k = j) pos' rng' own' B (t ++ #[x, y]) := by
 have h2 : Tr Act pos rng own B (t ++ #[x, y]) := h.quietA (Nat.le_refl _) fun z hz => by
  simp only [List.mem_toArray, List.mem_cons, List.not_mem_nil, or_false] at hz
  rcases hz with rfl | rfl
  ·rw [hx.2]; exact ⟨rfl, trivial, fun m hm => by cases hm⟩
  ·rw [hy.2]; exact ⟨rfl, trivial, fun m hm => by cases hm⟩
 have old : ∀ {i a}, touchAt (t ++ #[x, y]) i = some a -> touchAt t i = some a /\ i < t.size := fun {i a} ha => by
  rcases touch_in ha with h | ⟨op, _, hou, hx'⟩
  ·exact h
  ·simp only [List.mem_toArray, List.mem_cons, List.not_mem_nil, or_false] at hou
   rcases hou with rfl | rfl
   ·rw [hx.2] at hx'; cases hx'
   ·rw [hy.2] at hx'; cases hx'
 have gx : (t ++ #[x, y])[t.size]? = some x := by rw [Array.getElem?_append_right (Nat.le_refl _)]; simp
 have gy : (t ++ #[x, y])[t.size + 1]? = some y := by rw [Array.getElem?_append_right (by omega)]; simp
 have edge : HappensBefore (t ++ #[x, y]) t.size (t.size + 1) := .single (.inr ⟨.spawn (child := j) (by rw [act?_of gx, hx.2]) (by rw [act?_of gy, hy.2]) (by simp [Trace.g?, gy, hy.1]), h2.word.heard gx, h2.word.heard gy⟩)
 refine ⟨h2.word, h2.low, h2.calm, fun i a c ha hc => ?_, fun k hk hp i a c ha hc hrc hwo => ?_⟩
 ·rcases h2.main i a c ha hc with hk | ⟨k, op, k1, k2, k3, k4, k5, k6⟩
  ·exact .inl hk
  ·have hkj : k ≠ j := fun e => hA (e ▸ k3)
   have := hs.pos k k3
   exact .inr ⟨k, op, k1, k2, .inl k3, (hr k hkj c).2 k4, fun e => (ho k (by omega) hkj c).2 (k5 e), fun s hps => k6 s (by rw [<- hpo k k3]; exact hps)⟩
 ·by_cases hkj : k = j
  ·subst hkj
   rcases hwo with e | e
   ·obtain ⟨ha', hi⟩ := old ha
    rcases h.main i a c ha' hc with hk0 | ⟨m, op, k1, k2, k3, k4, k5, k6⟩
    ·have h0 : HappensBefore (t ++ #[x, y]) i t.size := hk0.hb_new (Nat.le_refl _) gx hx.1
     exact ⟨t.size + 1, y, gy, hy.1, .inr (h0.trans edge)⟩
    ·have := hs.pos m k3
     exact absurd (hrj c hrc) (hs.apart m 0 c (.inr k3) (.inl rfl) (by omega) (k5 e))
   ·exact absurd e (hoj c)
  ·have hk' : Act k := hk.resolve_right hkj
   have := hs.pos k hk'
   exact h2.work k hk' (by rw [<- hpo k hk']; exact hp) i a c ha hc ((hr k hkj c).1 hrc) (hwo.imp id (ho k (by omega) hkj c).1)
theorem Tr.pend (h : Tr Act pos rng own B t) {j s : Nat} {pos' : Nat -> Option Nat} (hj : pos' j = some s) (ho : ∀ k, k ≠ j -> pos' k = pos k) (hp : pos j = none) (hlt : ∀ i a, touchAt t i = some a -> i < s) : Tr Act pos' rng own B t := by
 refine ⟨h.word, h.low, h.calm, fun i a c ha hc => ?_, fun k hk hpk => ?_⟩
 ·rcases h.main i a c ha hc with hk | ⟨k, op, k1, k2, k3, k4, k5, k6⟩
  ·exact .inl hk
  ·refine .inr ⟨k, op, k1, k2, k3, k4, k5, fun s' hs' => ?_⟩
   by_cases hkj : k = j
   ·rw [hkj, hj] at hs'
    injection hs' with hs'
    subst hs'
    exact hlt i a ha
   ·exact k6 s' (by rw [<- ho k hkj]; exact hs')
 ·have hkj : k ≠ j := fun e => by rw [e, hj] at hpk; cases hpk
  exact h.work k hk (by rw [<- ho k hkj]; exact hpk)
theorem Tr.take (h : Tr Act pos rng own B t) {j s p C n : Nat} {x y : MemOp} (hps : pos j = some s) (hx : t[s]? = some x) (hxg : x.g = j) (hxa : x.act = .send C n) (hy : t[p]? = some y) (hyg : y.g = 0) (hya : y.act = .recvDone C n)
  {Act' : Nat -> Prop} (hA : ∀ k, Act' k ↔ Act k /\ k ≠ j) (h0 : ∀ k, Act k -> k ≠ 0) {rng' own' : Nat -> Nat -> Prop} (ho : ∀ k, k ≠ 0 -> k ≠ j -> ∀ c, (rng' k c ↔ rng k c) /\ (own' k c ↔ own k c)) : Tr Act' pos rng' own' B t := by
 have edge : HappensBefore t s p := .single (.inr ⟨.handOver (c := C) (k := n) (by rw [act?_of hx, hxa]) (by rw [act?_of hy, hya]), h.word.heard hx, h.word.heard hy⟩)
 refine ⟨h.word, h.low, h.calm, fun i a c ha hc => ?_, fun k hk hpk i a c ha hc hrc hwo => ?_⟩
 ·rcases h.main i a c ha hc with hk | ⟨k, op, k1, k2, k3, k4, k5, k6⟩
  ·exact .inl hk
  ·by_cases hkj : k = j
   ·subst hkj
    exact .inl ⟨p, y, hy, hyg, .inr ((hb_po (k6 s hps) k1 hx (k2.trans hxg.symm)).trans edge)⟩
   ·have hk0 := h0 k k3
    exact .inr ⟨k, op, k1, k2, (hA k).2 ⟨k3, hkj⟩, (ho k hk0 hkj c).1.2 k4, fun e => (ho k hk0 hkj c).2.2 (k5 e), k6⟩
 ·obtain ⟨hk1, hkj⟩ := (hA k).1 hk
  have hk0 := h0 k hk1
  exact h.work k hk1 hpk i a c ha hc ((ho k hk0 hkj c).1.1 hrc) (hwo.imp id (ho k hk0 hkj c).2.1)
theorem mem_blk {l : Loc} (h : l.isMemory = true) : ∃ c, blkL l = some c := by
 cases l <;> first | exact ⟨_, rfl⟩ | cases h
theorem Tr.over (h : Tr Act pos rng own B t) (hA : ∀ j, ¬ Act j) : t.HandedOver := fun i g hg hne hc => by
 obtain ⟨x, hx, hm, _⟩ := hc
 obtain ⟨c, hc⟩ := mem_blk hm
 rcases h.main i x c hx hc with ⟨q, z, h1, h2, h3⟩ | ⟨j, _, _, _, h3, _⟩
 ·refine ⟨q, by simp [Trace.g?, h1, h2], h3.resolve_left fun e => ?_⟩
  subst e
  rw [Trace.g?, h1] at hg
  simp only [Option.map_some, Option.some.injEq] at hg
  omega
 ·exact absurd h3 (hA j)
theorem tr_nil (hA : ∀ j, ¬ Act j) : Tr Act pos rng own B #[] :=
 ⟨fun op hop => by simp at hop, fun op hop => by simp at hop, fun said => by rintro ⟨i, j, _, ⟨a, b, ha, _⟩, _⟩; simp [Trace.act?] at ha, fun i a c ha => by simp [touchAt, Trace.act?] at ha, fun j hj => absurd hj (hA j)⟩
end
end
section
open Go Go.Conc Go.RowKit
structure Vw where
 N : Nat
 ρ : Ren
 v : World
def Mb (Act : Nat -> Prop) (j : Nat) : Prop := j = 0 ∨ Act j
structure Mem (P : Program) (S : FuncId -> Prop) (G : Nat -> Bool) (B0 : Nat) (W w : World) (Act : Nat -> Prop) (V : Nat -> Vw) : Prop where
 rel : ∀ j, Mb Act j -> WRel P S (V j).N (V j).ρ (aT2 (V j).v w.tape w.drawn) w
 plain : ∀ j, Mb Act j -> Plain (V j).v
 glob : ∀ j, Mb Act j -> GlOk G (V j).ρ
 pos : ∀ j, Act j -> 0 < j
 apart : ∀ j k b b' c, Mb Act j -> Mb Act k -> j ≠ k -> (V j).N <= b -> (V j).ρ b c -> ¬ (V k).ρ b' c
 under : ∀ j, Act j -> (V j).N <= (V 0).N
 same : ∀ j, Act j -> ∀ b, b < (V j).N -> (V j).v.heap[b]? = (V 0).v.heap[b]?
 shared : ∀ j, Act j -> ∀ b c, b < (V j).N -> (V j).ρ b c -> (V 0).ρ b c
 closed : ∀ b o, b < (V 0).N -> (V 0).v.heap[b]? = some o -> shutO o = o
 floor : ∀ j b c, Mb Act j -> (V j).N <= b -> (V j).ρ b c -> B0 <= c
 top : B0 <= W.heap.size
 base : Below B0 W w
def rngV (V : Nat -> Vw) (j c : Nat) : Prop := ∃ b, (V j).ρ b c
def ownV (V : Nat -> Vw) (j c : Nat) : Prop := ∃ b, (V j).N <= b /\ (V j).ρ b c
section
variable {P : Program} {S : FuncId -> Prop} {G : Nat -> Bool} {B0 : Nat} {W w w' : World} {Act : Nat -> Prop} {V : Nat -> Vw}
theorem Mem.sep (h : Mem P S G B0 W w Act V) : SepT Act (rngV V) (ownV V) w.heap.size where
 pos := h.pos
 sub j c := fun ⟨b, _, hb⟩ => ⟨b, hb⟩
 apart j k c hj hk hjk := fun ⟨b, hb, hbc⟩ ⟨b', hbc'⟩ => h.apart j k b b' c hj hk hjk hb hbc hbc'
 low j c hj := fun ⟨b, hbc⟩ => ((h.rel j hj).dom b c hbc).2
theorem Mem.main (h : Mem P S G B0 W w Act V) : WRel P S (V 0).N (V 0).ρ (aT2 (V 0).v w.tape w.drawn) w := h.rel 0 (.inl rfl)
theorem Mem.stir (h : Mem P S G B0 W w Act V) (hsz : w.heap.size <= w'.heap.size) (hk : ∀ j b c, Mb Act j -> (V j).ρ b c -> w'.heap[c]? = w.heap[c]?) (hb : Below B0 w w') : Mem P S G B0 W w' Act V where
 rel j hj := (h.rel j hj).others hsz fun b c hbc => hk j b c hj hbc
 plain := h.plain
 glob := h.glob
 pos := h.pos
 apart := h.apart
 under := h.under
 same := h.same
 shared := h.shared
 closed := h.closed
 floor := h.floor
 top := h.top
 base := h.base.trans hb
theorem Mem.at (h : Mem P S G B0 W w Act V) (d : Nat) : Mem P S G B0 W (w.at d) Act V := h.stir (Nat.le_refl _) (fun _ _ _ _ _ => rfl) ⟨rfl, rfl, rfl, Nat.le_refl _, fun _ _ => rfl⟩
theorem Mem.step (h : Mem P S G B0 W w Act V) {g : Nat} (hg : Mb Act g) {ρ' : Ren} {v' : World} {evs : Array Event} (he : Ext (V g).ρ ρ') (hw : WRel P S (V g).N ρ' v' w') (hG : Guar (V g).N (V g).ρ ρ' w w' evs) (hp : Plain v')
  (hs : ∀ b, b < (V g).N -> v'.heap[b]? = (V g).v.heap[b]?) : Mem P S G B0 W w' Act (fun k => if k = g then ⟨(V g).N, ρ', v'⟩ else V k) := by
 have e1 : ∀ k, k ≠ g -> (if k = g then (⟨(V g).N, ρ', v'⟩ : Vw) else V k) = V k := fun k hk => if_neg hk
 have e2 : (if g = g then (⟨(V g).N, ρ', v'⟩ : Vw) else V g) = ⟨(V g).N, ρ', v'⟩ := if_pos rfl
 have eN : ∀ k, (if k = g then (⟨(V g).N, ρ', v'⟩ : Vw) else V k).N = (V k).N := fun k => by
  by_cases hk : k = g
  ·rw [hk, e2]
  ·rw [e1 k hk]
 have fresh : ∀ b c, ρ' b c -> (V g).ρ b c ∨ ((V g).N <= b /\ w.heap.size <= c) := fun b c hbc => by
  by_cases hr : (V g).ρ b c
  ·exact .inl hr
  ·exact .inr (hG.fresh b c hbc hr)
 have hlo : ∀ b, b < (V g).N -> ∀ c, ρ' b c -> (V g).ρ b c := fun b hb c hbc => (fresh b c hbc).resolve_right fun h => by omega
 have hsd : ∀ b, b < (V 0).N -> ∀ j, (if j = g then (⟨(V g).N, ρ', v'⟩ : Vw) else V j).v.heap[b]? = (V j).v.heap[b]? ∨ ¬ b < (V j).N := fun b hb j => by
  by_cases hj : j = g
  ·rw [hj, e2]
   by_cases hlt : b < (V g).N
   ·exact .inl (hs b hlt)
   ·exact .inr hlt
  ·rw [e1 j hj]; exact .inl rfl
 refine ⟨fun j hj => ?_, fun j hj => ?_, fun j hj => ?_, h.pos, fun j k b b' c hj hk hjk hb hbc hbc' => ?_, fun j hj => by rw [eN, eN]; exact h.under j hj, fun j hj b hb => ?_, fun j hj b c hb hbc => ?_, fun b o hb ho => ?_, fun j b c hj hb hbc => ?_, h.top, h.base.trans ⟨hG.os, hG.tape, hG.output, hG.size, fun c hc => ?_⟩⟩
 ·by_cases hjg : j = g
  ·subst hjg
   rw [e2]
   have := hw.at' w'.tape w'.drawn
   exact this
  ·rw [e1 j hjg]
   refine (h.rel j hj).others hG.size fun b c hbc => hG.keep c ((h.rel j hj).dom b c hbc).2 fun b' hb' hbc' => h.apart g j b' b c hg hj (Ne.symm hjg) hb' hbc' hbc
 ·by_cases hjg : j = g
  ·subst hjg; rw [e2]; exact hp
  ·rw [e1 j hjg]; exact h.plain j hj
 ·by_cases hjg : j = g
  ·subst hjg; rw [e2]; exact (h.glob j hj).mono he
  ·rw [e1 j hjg]; exact h.glob j hj
 ·rw [eN] at hb
  by_cases hjg : j = g
  ·have hkg : k ≠ g := fun e => hjk (hjg.trans e.symm)
   rw [e1 k hkg] at hbc'
   subst hjg
   rw [e2] at hbc
   rcases fresh b c hbc with hr | ⟨_, hc⟩
   ·exact h.apart j k b b' c hj hk hjk hb hr hbc'
   ·have := ((h.rel k hk).dom b' c hbc').2; omega
  ·rw [e1 j hjg] at hbc
   by_cases hkg : k = g
   ·subst hkg
    rw [e2] at hbc'
    rcases fresh b' c hbc' with hr | ⟨_, hc⟩
    ·exact h.apart j k b b' c hj hk hjk hb hbc hr
    ·have := ((h.rel j hj).dom b c hbc).2; omega
   ·rw [e1 k hkg] at hbc'
    exact h.apart j k b b' c hj hk hjk hb hbc hbc'
 ·rw [eN] at hb
  have hb0 := Nat.lt_of_lt_of_le hb (h.under j hj)
  rw [(hsd b hb0 j).resolve_right (fun x => x hb), (hsd b hb0 0).resolve_right (fun x => x hb0)]
  exact h.same j hj b hb
 ·rw [eN] at hb
  have h0 : (V 0).ρ b c := by
   by_cases hjg : j = g
   ·subst hjg
    rw [e2] at hbc
    exact h.shared j hj b c hb (hlo b hb c hbc)
   ·rw [e1 j hjg] at hbc
    exact h.shared j hj b c hb hbc
  by_cases h0g : 0 = g
  ·subst h0g; rw [e2]; exact he _ _ h0
  ·rw [e1 0 h0g]; exact h0
 ·rw [eN] at hb
  rw [(hsd b hb 0).resolve_right (fun x => x hb)] at ho
  exact h.closed b o hb ho
 ·rw [eN] at hb
  by_cases hjg : j = g
  ·subst hjg
   rw [e2] at hbc
   rcases fresh b c hbc with hr | ⟨_, hc⟩
   ·exact h.floor j b c hj hb hr
   ·have := h.top; have := h.base.size; omega
  ·rw [e1 j hjg] at hbc
   exact h.floor j b c hj hb hbc
 ·have := h.top
  have := h.base.size
  exact hG.keep c (by omega) fun b hb hbc => by have := h.floor g b c hg hb hbc; omega
theorem Mem.ranges (h : Mem P S G B0 W w Act V) {g : Nat} (hg : Mb Act g) {ρ' : Ren} {v' : World} {evs : Array Event} (he : Ext (V g).ρ ρ') (hG : Guar (V g).N (V g).ρ ρ' w w' evs) :
  let V' : Nat -> Vw := fun k => if k = g then ⟨(V g).N, ρ', v'⟩ else V k
  (∀ k, k ≠ g -> ∀ c, (rngV V' k c ↔ rngV V k c) /\ (ownV V' k c ↔ ownV V k c)) /\ (∀ c, (rngV V g c -> rngV V' g c) /\ (rngV V' g c -> rngV V g c ∨ w.heap.size <= c)) /\ (∀ c, (ownV V g c -> ownV V' g c) /\ (ownV V' g c -> ownV V g c ∨ w.heap.size <= c)) := by
 intro V'
 have e1 : ∀ k, k ≠ g -> V' k = V k := fun k hk => if_neg hk
 have e2 : V' g = ⟨(V g).N, ρ', v'⟩ := if_pos rfl
 refine ⟨fun k hk c => ?_, fun c => ⟨fun ⟨b, hb⟩ => ⟨b, by rw [e2]; exact he _ _ hb⟩, fun ⟨b, hb⟩ => ?_⟩, fun c => ⟨fun ⟨b, hN, hb⟩ => ⟨b, by rw [e2]; exact hN, by rw [e2]; exact he _ _ hb⟩, fun ⟨b, hN, hb⟩ => ?_⟩⟩
 ·unfold rngV ownV
  rw [e1 k hk]
  exact ⟨Iff.rfl, Iff.rfl⟩
 ·rw [e2] at hb
  by_cases hr : (V g).ρ b c
  ·exact .inl ⟨b, hr⟩
  ·exact .inr (hG.fresh b c hb hr).2
 ·rw [e2] at hb hN
  by_cases hr : (V g).ρ b c
  ·exact .inl ⟨b, hN, hr⟩
  ·exact .inr (hG.fresh b c hb hr).2
theorem opC_of_EvC {N : Nat} {ρ : Ren} {v : World} (hw : WRel P S N ρ v w') {e : Event} (he : EvC N ρ e) (hx : ∀ f, e.loc ≠ .mark (.extern f)) : OpC (fun c => ∃ b, ρ b c) (fun c => ∃ b, N <= b /\ ρ b c) w'.heap.size (MemAct.ofEvent e) := by
 rcases he with ⟨b, c, l, wr, rfl, hl, hb, hwr⟩ | rfl | ⟨f, rfl⟩
 ·have hc := (hw.dom b c hb).2
  rcases hl with rfl | ⟨a, rfl, ha⟩
  ·have e : MemAct.ofEvent ⟨.obj c, wr, false⟩ = .access ⟨.obj c, wr, false⟩ := by cases wr <;> rfl
   rw [e]
   exact ⟨hc, fun m hm => (by cases hm), fun a ha => by
    have ha : some (⟨.obj c, wr, .plain⟩ : Touch) = some a := ha
    injection ha with ha
    subst ha
    exact ⟨c, rfl, ⟨b, hb⟩, fun h => ⟨b, hwr h, hb⟩⟩⟩
  ·subst ha
   exact ⟨hc, fun m hm => (by cases hm), fun x hx => by
    have hx : some (⟨.cell a, wr, .plain⟩ : Touch) = some x := hx
    injection hx with hx
    subst hx
    exact ⟨_, rfl, ⟨b, hb⟩, fun h => ⟨b, hwr h, hb⟩⟩⟩
 ·exact ⟨trivial, fun m hm => by
   have hm : MemAct.mark .noRoom = .mark m := hm
   injection hm with hm
   exact hm.symm, fun a ha => by cases ha⟩
 ·exact absurd rfl (hx f)
theorem Mem.fork (h : Mem P S G B0 W w Act V) {j : Nat} (hj : 0 < j) (hA : ¬ Act j) :
  Mem P S G B0 W w (fun k => Act k ∨ k = j) (fun k => if k = 0 ∨ k = j then ⟨(V 0).v.heap.size, (V 0).ρ, shut (V 0).v⟩ else V k) := by
 let X : Vw := ⟨(V 0).v.heap.size, (V 0).ρ, shut (V 0).v⟩
 let V' : Nat -> Vw := fun k => if k = 0 ∨ k = j then X else V k
 show Mem P S G B0 W w (fun k => Act k ∨ k = j) V'
 have e0 : V' 0 = X := if_pos (.inl rfl)
 have ej : V' j = X := if_pos (.inr rfl)
 have ek : ∀ k, Act k -> V' k = V k := fun k hk => if_neg fun e => by
  rcases e with e | e
  ·have := h.pos k hk; omega
  ·exact hA (e ▸ hk)
 have cs : ∀ k, Mb (fun k => Act k ∨ k = j) k -> (V' k = X /\ (k = 0 ∨ k = j)) ∨ (V' k = V k /\ Act k) := fun k hk => by
  rcases hk with rfl | hk | rfl
  ·exact .inl ⟨e0, .inl rfl⟩
  ·exact .inr ⟨ek k hk, hk⟩
  ·exact .inl ⟨ej, .inr rfl⟩
 have h0 := h.main
 have hX : WRel P S X.N X.ρ (aT2 X.v w.tape w.drawn) w := h0.shut
 have hlow : (V 0).N <= (V 0).v.heap.size := h0.low
 have hdom : ∀ b c, (V 0).ρ b c -> b < (V 0).v.heap.size := fun b c hb => (h0.dom b c hb).1
 have hsh : ∀ b, b < (V 0).N -> (shut (V 0).v).heap[b]? = (V 0).v.heap[b]? := fun b hb => by
  show ((V 0).v.heap.map shutO)[b]? = _
  rw [Array.getElem?_map]
  cases ho : (V 0).v.heap[b]? with
  | none => rfl
  | some o => rw [Option.map_some, h.closed b o hb ho]
 have idem : ∀ o, shutO (shutO o) = shutO o := fun o => by cases o <;> rfl
 refine ⟨fun k hk => ?_, fun k hk => ?_, fun k hk => ?_, fun k hk => ?_, fun m k b b' c hm hk hmk hb hbc hbc' => ?_, fun k hk => ?_, fun k hk b hb => ?_, fun k hk b c hb hbc => ?_, fun b o hb ho => ?_, fun k b c hk hb hbc => ?_, h.top, h.base⟩
 ·rcases cs k hk with ⟨e, _⟩ | ⟨e, hk⟩ <;> rw [e]
  ·exact hX
  ·exact h.rel k (.inr hk)
 ·rcases cs k hk with ⟨e, _⟩ | ⟨e, hk⟩ <;> rw [e]
  ·exact (h.plain 0 (.inl rfl)).shut
  ·exact h.plain k (.inr hk)
 ·rcases cs k hk with ⟨e, _⟩ | ⟨e, hk⟩ <;> rw [e]
  ·exact h.glob 0 (.inl rfl)
  ·exact h.glob k (.inr hk)
 ·rcases hk with hk | rfl
  ·exact h.pos k hk
  ·exact hj
 ·rcases cs m hm with ⟨e, _⟩ | ⟨e, hm⟩
  ·rw [e] at hb hbc
   have := hdom b c hbc
   exact absurd this (Nat.not_lt.2 hb)
  ·rw [e] at hb hbc
   rcases cs k hk with ⟨e', h'⟩ | ⟨e', hk⟩
   ·rw [e'] at hbc'
    have := h.pos m hm
    exact h.apart m 0 b b' c (.inr hm) (.inl rfl) (by omega) hb hbc hbc'
   ·rw [e'] at hbc'
    exact h.apart m k b b' c (.inr hm) (.inr hk) hmk hb hbc hbc'
 ·rw [e0]
  rcases cs k (.inr hk) with ⟨e, _⟩ | ⟨e, hk⟩ <;> rw [e]
  ·exact Nat.le_refl _
  ·exact Nat.le_trans (h.under k hk) hlow
 ·rcases cs k (.inr hk) with ⟨e, _⟩ | ⟨e, hk⟩
  ·rw [e, e0]
  ·rw [e] at hb ⊢
   rw [e0]
   have hu := h.under k hk
   show _ = (shut (V 0).v).heap[b]?
   rw [hsh b (by omega)]
   exact h.same k hk b hb
 ·rw [e0]
  rcases cs k (.inr hk) with ⟨e, _⟩ | ⟨e, hk⟩
  ·rw [e] at hbc; exact hbc
  ·rw [e] at hb hbc; exact h.shared k hk b c hb hbc
 ·rw [e0] at ho
  have ho : ((V 0).v.heap.map shutO)[b]? = some o := ho
  rw [Array.getElem?_map] at ho
  obtain ⟨o', _, rfl⟩ := Option.map_eq_some_iff.1 ho
  exact idem o'
 ·rcases cs k hk with ⟨e, _⟩ | ⟨e, hk⟩
  ·rw [e] at hb hbc
   exact absurd (hdom b c hbc) (Nat.not_lt.2 hb)
  ·rw [e] at hb hbc
   exact h.floor k b c (.inr hk) hb hbc
theorem Mem.take (h : Mem P S G B0 W w Act V) {j : Nat} (hj : Act j) {Act' : Nat -> Prop} (hA : ∀ k, Act' k ↔ Act k /\ k ≠ j) {Q : Post} (hQ : InvQ S Q) {x y : Value} (hxy : VRel S (V j).ρ x y) (hq : Q x (V j).v) :
  ∃ v' ρ' x', Grow (V 0).v v' /\ Q x' (hide (V 0).v v') /\ VRel S ρ' x' y /\ Ext (V 0).ρ ρ' /\ Mem P S G B0 W w Act' (fun k => if k = 0 then ⟨(V 0).N, ρ', v'⟩ else V k) := by
 have h0 := h.main
 have hpj := h.pos j hj
 obtain ⟨v', ρ', x', hg, hq', hx', he, hw', hp', hnew⟩ := take_over h0 (h.rel j (.inr hj)) (h.plain 0 (.inl rfl)) (h.plain j (.inr hj)) (Nat.le_trans (h.under j hj) h0.low) (h.shared j hj)
  (fun b c hb hbc b' => h.apart j 0 b b' c (.inr hj) (.inl rfl) (by omega) hb hbc) (h.same j hj) (fun b o hb ho => h.closed b o (Nat.lt_of_lt_of_le hb (h.under j hj)) ho) hQ hxy (hQ.at2 _ _ w.tape w.drawn hq)
 have e1 : ∀ k, k ≠ 0 -> (if k = 0 then (⟨(V 0).N, ρ', v'⟩ : Vw) else V k) = V k := fun k hk => if_neg hk
 have e2 : (if 0 = 0 then (⟨(V 0).N, ρ', v'⟩ : Vw) else V 0) = ⟨(V 0).N, ρ', v'⟩ := if_pos rfl
 have eN : ∀ k, (if k = 0 then (⟨(V 0).N, ρ', v'⟩ : Vw) else V k).N = (V k).N := fun k => by
  by_cases hk : k = 0
  ·rw [hk, e2]
  ·rw [e1 k hk]
 have fresh : ∀ b c, ρ' b c -> (V 0).ρ b c ∨ ((V 0).v.heap.size <= b /\ ∃ b1, (V j).N <= b1 /\ (V j).ρ b1 c) := fun b c hbc => by
  by_cases hr : (V 0).ρ b c
  ·exact .inl hr
  ·exact .inr (hnew b c hbc hr)
 have hlow : (V 0).N <= (V 0).v.heap.size := h0.low
 have up : ∀ k, Act' k -> Act k /\ k ≠ j := fun k => (hA k).1
 have mb : ∀ k, Mb Act' k -> Mb Act k := fun k hk => hk.imp id fun x => (up k x).1
 refine ⟨v', ρ', x', ⟨hg.size, hg.keep, hg.os, hg.output⟩, hq', hx', he, fun k hk => ?_, fun k hk => ?_, fun k hk => ?_, fun k hk => h.pos k (up k hk).1, fun m k b b' c hm hk hmk hb hbc hbc' => ?_, fun k hk => by rw [eN, eN]; exact h.under k (up k hk).1, fun k hk b hb => ?_, fun k hk b c hb hbc => ?_, fun b o hb ho => ?_, fun k b c hk hb hbc => ?_, h.top, h.base⟩
 ·by_cases hk0 : k = 0
  ·subst hk0
   rw [e2]
   exact hw'.at' w.tape w.drawn
  ·rw [e1 k hk0]; exact h.rel k (mb k hk)
 ·by_cases hk0 : k = 0
  ·subst hk0; rw [e2]; exact hp'
  ·rw [e1 k hk0]; exact h.plain k (mb k hk)
 ·by_cases hk0 : k = 0
  ·subst hk0; rw [e2]; exact (h.glob 0 (.inl rfl)).mono he
  ·rw [e1 k hk0]; exact h.glob k (mb k hk)
 ·rw [eN] at hb
  by_cases hm0 : m = 0
  ·have hk0 : k ≠ 0 := fun e => hmk (hm0.trans e.symm)
   rw [e1 k hk0] at hbc'
   have hk' := up k (hk.resolve_left hk0)
   subst hm0
   rw [e2] at hbc
   rcases fresh b c hbc with hr | ⟨_, b1, k1, k2⟩
   ·exact h.apart 0 k b b' c (.inl rfl) (.inr hk'.1) hmk hb hr hbc'
   ·exact h.apart j k b1 b' c (.inr hj) (.inr hk'.1) (Ne.symm hk'.2) k1 k2 hbc'
  ·have hm' := up m (hm.resolve_left hm0)
   rw [e1 m hm0] at hbc
   by_cases hk0 : k = 0
   ·subst hk0
    rw [e2] at hbc'
    rcases fresh b' c hbc' with hr | ⟨_, b1, k1, k2⟩
    ·exact h.apart m 0 b b' c (.inr hm'.1) (.inl rfl) hm0 hb hbc hr
    ·exact h.apart m j b b1 c (.inr hm'.1) (.inr hj) hm'.2 hb hbc k2
   ·rw [e1 k hk0] at hbc'
    exact h.apart m k b b' c (.inr hm'.1) (mb k hk) hmk hb hbc hbc'
 ·have hk' := up k hk
  have hk0 : k ≠ 0 := by have := h.pos k hk'.1; omega
  rw [e1 k hk0] at hb ⊢
  rw [e2]
  have := h.under k hk'.1
  rw [h.same k hk'.1 b hb]
  exact (hg.keep b (by show b < (V 0).v.heap.size; omega)).symm
 ·have hk' := up k hk
  have hk0 : k ≠ 0 := by have := h.pos k hk'.1; omega
  rw [e1 k hk0] at hb hbc
  rw [e2]
  exact he _ _ (h.shared k hk'.1 b c hb hbc)
 ·rw [e2] at hb ho
  have hb : b < (V 0).N := hb
  have ho : v'.heap[b]? = some o := ho
  rw [hg.keep b (by show b < (V 0).v.heap.size; omega)] at ho
  exact h.closed b o hb ho
 ·rw [eN] at hb
  by_cases hk0 : k = 0
  ·subst hk0
   rw [e2] at hbc
   rcases fresh b c hbc with hr | ⟨_, b1, k1, k2⟩
   ·exact h.floor 0 b c (.inl rfl) hb hr
   ·exact h.floor j b1 c (.inr hj) k1 k2
  ·rw [e1 k hk0] at hbc
   exact h.floor k b c (mb k hk) hb hbc
end
end
section
open Go Go.Conc Go.RowKit
section
variable {P : Program} {S : FuncId -> Prop} {G Sb : Nat -> Bool} {ρ : Ren}
theorem stepS_under {fr : Frame} {cs : List Frame} {v v' : World} {x : Frame × List Frame} (h : (stepS P fr cs).run P v = .ok x v') (l : List Frame) : (stepS P fr (cs ++ l)).run P v = .ok (x.1, x.2 ++ l) v' := by
 unfold stepS at h ⊢
 split at h
 ·split at h
  case h_8 c a b k =>
   split at h
   ·rename_i t ht
    obtain ⟨rfl, rfl⟩ := run_pure_ok h
    rfl
   ·exact (run_stuck_ok h).elim
  case h_13 id k =>
   split at h
   ·rename_i k' hk
    obtain ⟨rfl, rfl⟩ := run_pure_ok h
    rfl
   ·exact (run_stuck_ok h).elim
  case h_14 id ops draw k =>
   split at h
   ·obtain ⟨t, w1, h4, h5⟩ := run_bind_ok h
    obtain ⟨rfl, rfl⟩ := run_pure_ok h5
    rename_i hd
    rw [if_pos hd]
    show Sem.run P (Sem.bind _ _) v = _
    rw [Sem.run_bind', h4]
    rfl
   ·obtain ⟨rfl, rfl⟩ := run_pure_ok h
    rename_i hd
    rw [if_neg hd]
    rfl
  case h_16 ops i rest k =>
   split at h
   ·obtain ⟨rfl, rfl⟩ := run_pure_ok h
    rfl
   ·rename_i o ho
    split at h
    ·rename_i hw
     obtain ⟨nx, w1, h4, h5⟩ := run_bind_ok h
     rw [if_pos hw]
     have go : ∀ (f : Next -> Sem (Frame × List Frame)) y, (f nx).run P w1 = .ok y v' -> (execOp fr.eval o >>= f).run P v = .ok y v' := fun f y hy => by
      show Sem.run P (Sem.bind _ _) v = _
      rw [Sem.run_bind', h4]
      exact hy
     cases nx <;> first | exact (run_stuck_ok h5).elim | skip
     all_goals
      obtain ⟨rfl, rfl⟩ := run_pure_ok h5
      exact go _ _ rfl
    ·rename_i hw
     obtain ⟨rfl, rfl⟩ := run_pure_ok h
     rw [if_neg hw]
     rfl
  case h_17 id k =>
   split at h
   ·rename_i k' hk'
    obtain ⟨rfl, rfl⟩ := run_pure_ok h
    rfl
   ·exact (run_stuck_ok h).elim
  case h_18 => exact (run_stuck_ok h).elim
  all_goals
   obtain ⟨rfl, rfl⟩ := run_pure_ok h
   rfl
 ·split at h
  ·rename_i c rest fn hk hf
   simp only [List.cons_append, hf, hk]
   split at h
   ·obtain ⟨u, w1, h4, h5⟩ := run_bind_ok h
    try simp only [*]
    obtain ⟨rfl, rfl⟩ := run_pure_ok h5
    show Sem.run P (Sem.bind _ _) v = _
    rw [Sem.run_bind', h4]
    rfl
   ·exact (run_stuck_ok h).elim
  ·exact (run_stuck_ok h).elim
 ·exact (run_stuck_ok h).elim
theorem exit_rel : FRel S ρ (exitFrame P) (exitFrame P) := ⟨rfl, ⟨rfl, fun i h _ => absurd (show i < 0 from h) (Nat.not_lt_zero i)⟩, rfl, rfl, rfl, (show CallKind.normal ≠ CallKind.early by simp), rfl, rfl, rfl, rfl⟩
theorem FsRel.append {l l' m m' : List Frame} (h : FsRel S ρ l l') (k : FsRel S ρ m m') : FsRel S ρ (l ++ m) (l' ++ m') := by
 induction h with
 | nil => exact k
 | cons h _ ih => exact .cons h ih
theorem FsRel.split {l m : List Frame} : ∀ {l' : List Frame}, FsRel S ρ (l ++ m) l' -> ∃ l1 m1, l' = l1 ++ m1 /\ FsRel S ρ l l1 /\ FsRel S ρ m m1 := by
 induction l with
 | nil => exact fun h => ⟨[], _, rfl, .nil, h⟩
 | cons f l ih =>
  intro l' h
  cases h with
  | cons hf hl =>
   obtain ⟨l1, m1, rfl, h1, h2⟩ := ih hl
   exact ⟨_ :: l1, m1, rfl, .cons hf h1, h2⟩
theorem member_step (hC : Ctx P S G Sb) {N : Nat} {v w : World} {fr fr' : Frame} {cs cs' l l' : List Frame} {main : Bool} (hw : WRel P S N ρ v w) (hG : GlOk G ρ) (ho : okHead P G Sb fr) (hf : FRel S ρ fr fr') (hl : FsRel S ρ cs cs') (hx : FsRel S ρ l l') (hp : Plain v) {x : Frame × List Frame} {v' : World}
  (hr : (stepS P fr cs).run P v = .ok x v') :
  ∃ ρ₂ y1 y2 w' evs l2, Ext ρ ρ₂ /\ stepG P main (Go.Conc.G fr' (cs' ++ l')) w = .go (Go.Conc.G y1 (y2 ++ l2)) w' (seen P fr'.fn evs) /\ FRel S ρ₂ x.1 y1 /\ FsRel S ρ₂ x.2 y2 /\ FsRel S ρ₂ l l2 /\ WRel P S N ρ₂ v' w' /\ Guar N ρ ρ₂ w w' evs /\ Plain v' /\ (∀ b, b < N -> v'.heap[b]? = v.heap[b]?) := by
 have hr2 := stepS_under hr l
 obtain ⟨ρ₂, y, w', evs, h1, h2, h3, h4, h5⟩ := Sim.stepS hC.zero (hC.fn N) hG hC.sb ho hf (hl.append hx) ρ v w (Ext.refl _) hw _ v' hr2
 have h2' := h2 #[]
 rw [Array.empty_append] at h2'
 obtain ⟨y1, y2⟩ := y
 have h32 : FsRel S ρ₂ (x.2 ++ l) y2 := h3.2
 obtain ⟨m1, m2, rfl, k1, k2⟩ := h32.split
 refine ⟨ρ₂, y1, m1, w', evs, m2, h1, ?_, h3.1, k1, k2, h4, h5, ?_, view_keep hC ho hw hG hf hl hr⟩
 ·exact stepG_of_S hf.tm h2'
 ·have := fin_run (Fin.stepS hC ho (Self.of hp hw hG hf hl)) hp
  rw [hr] at this
  exact this
theorem born_step {f : FuncId} {caps : Array Value} {fn : Func} {c : Code} (hf : P.funcs[f]? = some fn) (hb : fn.body = some c) (hn : (fn.name == "runtime.NumGoroutine") = false) (w : World) (main : Bool) :
  stepG P main (born P { target := .fn (.func f) caps, args := #[] }) w = .go (Go.Conc.G (Frame.enter P f caps .deferred) [exitFrame P]) w := by
 have h : (invoke (.fn (.func f) caps) #[]).runT P w #[] = (.ok (.enter f caps) w, #[]) := by
  show (callFunc f (#[] ++ caps)).runT P w #[] = _
  unfold callFunc
  simp only [program, bind, Sem.bind, Array.empty_append]
  unfold Sem.runT
  simp only [hf, hn, hb, Bool.false_eq_true, if_false, Option.isNone_some]
  rfl
 unfold stepG born
 simp only
 unfold unwind
 simp only
 unfold callDeferred
 simp only [h]
 simp [exitFrame, GStep.after, Go.Conc.G, seen_none]
end
inductive Gh
 | leav (q : Nat)
 | start (f : FuncId) (caps : Array Value) (v : World) (Q : Post)
 | work (fr : Frame) (cs : List Frame) (v : World) (Q : Post)
section
variable {P : Program} {G Sb : Nat -> Bool} {C : Nat}
inductive GhR (P : Program) (G Sb : Nat -> Bool) (C : Nat) : Gh -> Gh -> Prop
 | leav (q : Nat) : GhR P G Sb C (.leav q) (.leav (q + 1))
 | sent (q : Nat) (fr : Frame) (cs : List Frame) (v : World) (Q : Post) : GhR P G Sb C (.leav q) (.work fr cs v Q)
 | enter (f : FuncId) (caps : Array Value) (v : World) (Q : Post) : GhR P G Sb C (.work (Frame.enter P f caps .deferred) [] v Q) (.start f caps v Q)
 | step (fr : Frame) (cs : List Frame) (v : World) (Q : Post) (τ : Nat -> Question -> Nat) (d : Nat) (x : Frame × List Frame) (v' : World) : ¬ AtSend P G Sb C Q fr cs v -> (stepS P fr cs).run P (aT2 v τ d) = .ok x v' -> GhR P G Sb C (.work x.1 x.2 v' Q) (.work fr cs v Q)
theorem acc_leav : ∀ q, Acc (GhR P G Sb C) (.leav q)
 | 0 => ⟨_, fun y hy => by cases hy⟩
 | q + 1 => ⟨_, fun y hy => by cases hy; exact acc_leav q⟩
theorem acc_work {Q : Post} {fr : Frame} {cs : List Frame} {v : World} (h : T P (HD P G Sb) (AtSend P G Sb C Q) fr cs v) : Acc (GhR P G Sb C) (.work fr cs v Q) := by
 induction h with
 | stop fr cs v hq => exact ⟨_, fun y hy => by
   cases hy with
   | sent q _ _ _ _ => exact acc_leav q
   | step _ _ _ _ _ _ _ _ hn _ => exact absurd hq hn⟩
 | step fr cs v _ _ _ ih => exact ⟨_, fun y hy => by
   cases hy with
   | sent q _ _ _ _ => exact acc_leav q
   | step _ _ _ _ τ d x v' _ hr => exact ih τ d x v' hr⟩
theorem acc_start {Q : Post} {f : FuncId} {caps : Array Value} {v : World} (h : T P (HD P G Sb) (AtSend P G Sb C Q) (Frame.enter P f caps .deferred) [] v) : Acc (GhR P G Sb C) (.start f caps v Q) :=
 ⟨_, fun y hy => by cases hy; exact acc_work h⟩
inductive LD (R : Gh -> Gh -> Prop) : List Gh -> List Gh -> Prop
 | hd (x x' : Gh) (l : List Gh) : R x' x -> LD R (x' :: l) (x :: l)
 | tl (x : Gh) (l l' : List Gh) : LD R l' l -> LD R (x :: l') (x :: l)
theorem acc_cons {R : Gh -> Gh -> Prop} {x : Gh} (hx : Acc R x) : ∀ {l : List Gh}, Acc (LD R) l -> Acc (LD R) (x :: l) := by
 induction hx with
 | intro x _ ihx =>
  intro l hl
  induction hl with
  | intro l hl ihl =>
   refine ⟨_, fun y hy => ?_⟩
   cases hy with
   | hd _ x' _ h => exact ihx x' h ⟨l, hl⟩
   | tl _ _ l' h => exact ihl l' h
theorem acc_list {R : Gh -> Gh -> Prop} : ∀ {l : List Gh}, (∀ x ∈ l, Acc R x) -> Acc (LD R) l
 | [], _ => ⟨_, fun y hy => by cases hy⟩
 | x :: l, h => acc_cons (h x (List.mem_cons_self ..)) (acc_list fun y hy => h y (List.mem_cons_of_mem _ hy))
theorem ld_set {R : Gh -> Gh -> Prop} {x' : Gh} : ∀ {l : List Gh} {i : Nat} {x : Gh}, l[i]? = some x -> R x' x -> LD R (l.set i x') l
 | [], i, x, h, _ => by simp at h
 | y :: l, 0, x, h, hr => by
  simp only [List.getElem?_cons_zero, Option.some.injEq] at h
  subst h
  exact .hd _ _ _ hr
 | y :: l, i + 1, x, h, hr => .tl _ _ _ (ld_set (by simpa using h) hr)
end
end
end Go.Proofs.YtlipmagkplbkdaaDoor
