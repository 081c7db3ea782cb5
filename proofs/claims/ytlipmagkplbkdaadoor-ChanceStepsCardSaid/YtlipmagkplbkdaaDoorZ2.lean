/-
  Several texts in one.
-/
import Derived.Test.YtlipmagkplbkdaaDoorZ1
import Derived.Conc.CrowdComm
import Derived.DyingRun
import Derived.Conc.Beside
import Derived.Below
import Derived.Conc.Quits
import Derived.Conc.QuitsD
import Derived.Conc.Own2
import Derived.ChangeArms
import Derived.ChangeSame
/-! Et -/
namespace Go.Proofs.YtlipmagkplbkdaaDoor
open Go Go.Conc
set_option linter.unusedVariables false
set_option linter.unusedSimpArgs false
def StopM (Q : Sit) (m : Machine) : Prop := ∃ fr cs v, m = lone fr cs v ∧ Q fr cs v
structure QOk (Q : Sit) : Prop where
  at2 : ∀ fr cs v τ d, Q fr cs v → Q fr cs (at2 v τ d)
  base : ∀ fr cs v, Q fr cs v → cs = [cBad]
  mode : ∀ fr cs v ch, Q fr cs v → fr.mode ≠ .panicking ch
section
variable {P : Program} {S : FuncId → Prop} {G Sb : Nat → Bool} {Q : Sit}
theorem lone_inj {fr fr' : Frame} {cs cs' : List Frame} {w w' : World} (h : lone fr cs w = lone fr' cs' w') : fr = fr' ∧ cs = cs' ∧ w = w' := by
  unfold lone at h
  injection h with h1 h2 h3
  have h2 := congrArg (fun a : Array Goroutine => a[0]?) h2
  simp only [List.getElem?_toArray, List.getElem?_cons_zero, Option.some.injEq] at h2
  injection h2 with h4 h5
  exact ⟨h4, h5, h1⟩
def Dead (P : Program) (Q : Sit) (m : Machine) : Prop := ∀ n m', runN P n m = .next m' → ¬ StopM Q m'
theorem Dead.ended {m : Machine} {o : Outcome} {w : World} (h : step P m = .ended o w) (h0 : ¬ StopM Q m) : Dead P Q m := fun n m' hr => by
  cases n with
  | zero => simp only [runN, Stepped.next.injEq] at hr; exact hr ▸ h0
  | succ n => simp only [runN, h] at hr; cases hr
theorem Dead.next {m m1 : Machine} (h : step P m = .next m1) (h0 : ¬ StopM Q m) (h1 : Dead P Q m1) : Dead P Q m := fun n m' hr => by
  cases n with
  | zero => simp only [runN, Stepped.next.injEq] at hr; exact hr ▸ h0
  | succ n => simp only [runN, h] at hr; exact h1 n m' hr
theorem not_panic (hQ : QOk Q) {fr : Frame} {cs : List Frame} {v : World} {ch : List PanicEntry} (h : fr.mode = .panicking ch) : ¬ StopM Q (lone fr cs v) := by
  rintro ⟨fr', cs', v', e, hq⟩
  obtain ⟨rfl, rfl, rfl⟩ := lone_inj e
  exact hQ.mode _ _ _ _ hq h
theorem not_base (hQ : QOk Q) {fr : Frame} {cs : List Frame} {v : World} (h : cs ≠ [cBad]) : ¬ StopM Q (lone fr cs v) := by
  rintro ⟨fr', cs', v', e, hq⟩
  obtain ⟨rfl, rfl, rfl⟩ := lone_inj e
  exact h (hQ.base _ _ _ hq)
theorem dead_panic (hQ : QOk Q) : ∀ (fs : List Frame) (fr : Frame) (v : World) (ch : List PanicEntry), fr.mode = .panicking ch → fr.defers = [] → (∃ fn, P.funcs[fr.fn]? = some fn) →
    (∀ f ∈ fs, f.mode = .run ∧ f.defers = [] ∧ ∃ fn, P.funcs[f.fn]? = some fn) → Dead P Q (lone fr (fs ++ [cBad]) v)
  | [], fr, v, ch, hm, hd, ⟨fn, hf⟩, _ => by
    have h1 : step P (lone fr ([] ++ [cBad]) v) = .next (lone (cBad.raise ch) [] v) := step_lone_go (by simp [stepG, unwind, hm, hd, hf, Frame.catches])
    refine Dead.next h1 (not_panic hQ hm) (Dead.ended (o := _) (w := v) (step_lone_ended (o := .unsupported (.noEntry "machine/Return: a deferred call of a nil function value, made while the frame is unwinding") (({ cBad.raise ch with defers := [] } : Frame).pos P)) ?_) (not_base hQ (by simp)))
    simp [stepG, unwind, callDeferred, cBad, Frame.raise]
  | c :: fs, fr, v, ch, hm, hd, ⟨fn, hf⟩, hfs => by
    have hc := hfs c (List.mem_cons_self ..)
    have h1 : step P (lone fr ((c :: fs) ++ [cBad]) v) = .next (lone (c.raise ch) (fs ++ [cBad]) v) := step_lone_go (by simp [stepG, unwind, hm, hd, hf, Frame.catches])
    have e : c.raise ch = { c with mode := .panicking ch } := by simp [Frame.raise, hc.1]
    rw [e] at h1
    exact Dead.next h1 (not_panic hQ hm) (dead_panic hQ fs _ v ch rfl hc.2.1 hc.2.2 fun f hf => hfs f (List.mem_cons_of_mem _ hf))
theorem FsRel.defers : ∀ {fs : List Frame} {ρ : Ren}, FsRel S ρ fs fs → ∀ f ∈ fs, f.defers = []
  | [], _, _, f, hf => by cases hf
  | c :: fs, _, .cons h hl, f, hf => by
    rcases List.mem_cons.1 hf with e | e
    · rw [e]; exact h.defers
    · exact FsRel.defers hl f e
theorem oper_comm {main : Bool} {fr : Frame} {cs : List Frame} {w w' : World} {es : Array Event} {ops : Array Oper} {i : Nat} {r : List Nat} {k : List Item} {o : Oper} {cases : Array CommCase} {bl : Bool} {sh : CommShape} (ht : Tm fr) (hm : fr.mode = .run) (hto : fr.todo = .inRegion ops (i :: r) :: k) (ho : ops[i]? = some o) (hw : Region.wanted o (yielded ops fr.tmps) = true)
    (hr : (execOp fr.eval o).runT P w #[] = (.ok (.comm cases bl sh) w', es)) : stepG P main (Go.Conc.G fr cs) w = .comm (Go.Conc.G fr cs) cases bl sh w' (seen P fr.fn es) := by
  obtain ⟨fn, tmps, todo, defers, mode, kind, roundOf⟩ := fr
  obtain ⟨h1, h2, h3⟩ := ht
  simp only at h1 h2 h3 hm hto
  subst h1 h2 hm hto
  have hk : (kind == CallKind.early) = false := by simpa using h3
  simp only [Go.Conc.G, stepG, stepG.exec, ho, Option.map_some, hw, Option.getD_some, if_true, stepG.oper, Frame.oper?, stepG.apply, hr, hk]
  simp [GStep.after]
theorem send_dead {fr : Frame} {cs : List Frame} {v v' : World} {es : Array Event} {u x z : Value} (hst : stepG P true (Go.Conc.G fr cs) v = .comm (Go.Conc.G fr cs) #[{ chan := u, send := some x, zero := z }] true .send v' es) (hp : Plain v') :
    (∃ o w', step P (lone fr cs v) = .ended o w') ∨ ∃ m1, step P (lone fr cs v) = .next m1 ∧ Dead P Q m1 := by
  have hl : lone fr cs v = crowd #[Go.Conc.G fr cs] v none := rfl
  have hs : step P (lone fr cs v) = (runT P (crowd #[Go.Conc.G fr cs] v none) 0).1 := by rw [step, stepT, move_lone, hl]
  rw [hs]
  by_cases hu : u = .chan none
  · subst hu
    have h := crowd_waits (P := P) (gs := #[Go.Conc.G fr cs]) (w := v) (sl := none) (i := 0) (g := Go.Conc.G fr cs) rfl hst fun cc hcc => by
      have : cc = { chan := .chan none, send := some x, zero := z } := by simpa using hcc
      subst this
      exact ways_nil _
    rw [h]
    refine .inr ⟨_, rfl, ?_⟩
    obtain ⟨o', w', he, ho⟩ := endWith_ended v' 2 (bytes "fatal error: all goroutines are asleep - deadlock!\n") (.fatal "all goroutines are asleep - deadlock!")
    refine Dead.ended (o := o') (w := w') ?_ ?_
    · simp [step, stepT, move, ask, askOn, crowd, parked, runnable_eq, due, ahead, Goroutine.canRun, List.range_succ, pure, Go.Conc.G]
      rw [he]
    · rintro ⟨fr', cs', v2, e, _⟩
      have := congrArg (fun m : Machine => (m.gs[0]?).map (·.status)) e
      simp [crowd, parked, lone] at this
  · refine .inl ⟨.stuck "a communication at a channel whose block is no channel's" (fr.pos P), v', ?_⟩
    rw [runT_crowd_comm (P := P) (gs := #[Go.Conc.G fr cs]) (i := 0) (g := Go.Conc.G fr cs) rfl hst]
    have hill : illMade v' { chan := u, send := some x, zero := z } = true := by
      unfold illMade
      simp only
      cases u <;> first | rfl | skip
      rename_i r
      cases r with
      | none => exact absurd rfl hu
      | some r =>
        simp only
        cases hr : v'.heap[r]? with
        | none => rfl
        | some o =>
          have := hp r o hr
          cases o <;> first | rfl | cases this
    have hany : (#[{ chan := u, send := some x, zero := z }] : Array CommCase).any (illMade v') = true := by simp [hill]
    unfold communicate
    simp only
    rw [if_pos]
    · rfl
    · exact hany
theorem after_halt (hC : Ctx P S G Sb) (hQ : QOk Q) {fr : Frame} {cs : List Frame} {v : World} (h : JI P S G Sb fr cs v) {x : Halt} {w : World} (hr : (stepS P fr cs).run P v = .halt x w) : (∃ o w', step P (lone fr cs v) = .ended o w') ∨ ∃ m1, step P (lone fr cs v) = .next m1 ∧ Dead P Q m1 := by
  have hfin := fin_run ((JI.kept hC).fin _ _ _ h) ((JI.kept hC).plain _ _ _ h)
  rw [hr] at hfin
  have hfine : fineH x = true := hfin
  obtain ⟨fs, rfl, ho, hm, hfs, hs⟩ := h
  have hh := ho.head
  obtain ⟨hp, N0, ρ, hw, hG, hf, hl⟩ := hs
  have hround := hf.round
  have hdef := hf.defers
  have hfd := FsRel.defers hl
  have hpan : ∀ (w' : World) (ch : List PanicEntry), Dead P Q (lone { fr with mode := .panicking ch } (fs ++ [cBad]) w') := fun w' ch =>
    dead_panic hQ fs _ w' ch rfl hdef ho.fn fun f hf => ⟨(hfs f hf).2.1, hfd f hf, (hfs f hf).1.fn⟩
  rcases hm with hm | hm
  · have hra : ∀ ch, fr.raise ch = { fr with mode := .panicking ch } := fun ch => by simp [Frame.raise, hm]
    unfold Go.Proofs.YtlipmagkplbkdaaDoor.stepS at hr
    rw [hm] at hr
    simp only at hr
    split at hr
    case h_8 c a b k ht =>
      refine .inl ⟨.stuck "cond: bool expected" (fr.pos P), v, step_lone_ended ?_⟩
      cases he : fr.eval c with
      | bool t => rw [he] at hr; cases hr
      | _ => simp [stepG, stepG.exec, hm, ht, he]
    case h_13 id k ht =>
      refine .inl ⟨.stuck "exit, goto: no such block or label" (fr.pos P), v, step_lone_ended ?_⟩
      cases he : exitTo id k with
      | some k' => rw [he] at hr; cases hr
      | none => simp [stepG, stepG.exec, hm, ht, he, hround]
    case h_14 id ops draw k ht =>
      split at hr
      · exfalso
        have hr : (Sem.bind (choose (.order fr.fn id)) _).run P v = .halt x w := hr
        rw [Sem.run_bind'] at hr
        have hc : ∃ t v', (choose (.order fr.fn id)).run P v = .ok t v' := by
          show ∃ t v', (if (Question.order fr.fn id).forced = true then Result.ok 0 v else .ok ((Question.order fr.fn id).cut (v.tape v.drawn (.order fr.fn id))) { v with drawn := v.drawn + 1 }) = .ok t v'
          exact ⟨_, _, rfl⟩
        obtain ⟨t, v', hc⟩ := hc
        rw [hc] at hr
        cases hr
      · cases hr
    case h_16 ops i rest k ht =>
      cases hop : ops[i]? with
      | none => rw [hop] at hr; cases hr
      | some o =>
        simp only [hop] at hr
        by_cases hwt : Region.wanted o (yielded ops fr.tmps) = true
        · simp only [hwt, if_true] at hr
          have hr : (Sem.bind (execOp fr.eval o) _).run P v = .halt x w := hr
          rw [Sem.run_bind'] at hr
          have hev := fun x hx => hf.eval hG hC.sb x hx
          unfold okHead at hh
          rw [hm, ht] at hh
          have hg : ∀ (r : GStep), stepG.apply P true fr (fs ++ [cBad]) none (execOp fr.eval o) v = r → stepG P true { frame := fr, callers := fs ++ [cBad], status := .running, dying := none } v = r := fun r e => by
            rw [← e]
            simp [stepG, stepG.exec, stepG.oper, Frame.oper?, hm, ht, hop, hwt, hround]
          by_cases hsend : ∃ u x z v', (execOp fr.eval o).run P v = .ok (.comm #[{ chan := u, send := some x, zero := z }] true .send) v'
          · obtain ⟨u, x, z, v', he⟩ := hsend
            have hp' : Plain v' := by
              have := fin_run (Fin.execOp hC.fin hev o (hh o hop)) hp
              rw [he] at this
              exact this
            obtain ⟨es, hT⟩ : ∃ es, (execOp fr.eval o).runT P v #[] = (.ok (.comm #[{ chan := u, send := some x, zero := z }] true .send) v', es) := ⟨_, by rw [Sem.runT_eq, he]⟩
            exact send_dead (oper_comm (main := true) hf.tm' hm ht hop hwt hT) hp'
          have hns : ∀ u x z v', (execOp fr.eval o).run P v = .ok (.comm #[{ chan := u, send := some x, zero := z }] true .send) v' → ¬ (True = True) := fun u x z v' e _ => hsend ⟨u, x, z, v', e⟩
          cases he : (execOp fr.eval o).run P v with
          | ok nx v' =>
            exfalso
            rw [he] at hr
            obtain ⟨ρ', _, hN, _⟩ := (Sim.execOp hC.zero (hC.fn N0) hG hC.sb hev o (hh o hop)).det hw he
            cases hN <;> first | exact absurd rfl (hns _ _ _ _ he) | cases hr
          | halt y v' =>
            rw [he] at hr
            injection hr with e1 e2
            subst e1 e2
            cases y with
            | panic u =>
              have hst : step P (lone fr (fs ++ [cBad]) v) = .next (lone (fr.raise [{ v := u, recovered := false }]) (fs ++ [cBad]) v') := step_lone_go (by rw [hg _ rfl]; simp [stepG.apply, he])
              rw [hra] at hst
              exact .inr ⟨_, hst, hpan _ _⟩
            | stuck s => exact .inl ⟨.stuck s (fr.pos P), v', step_lone_ended (by rw [hg _ rfl]; simp [stepG.apply, he])⟩
            | unsupported u =>
              cases u with
              | initOrder g => exact absurd hfine Bool.false_ne_true
              | extern n => exact .inl ⟨.unsupported (.extern n) (fr.pos P), v', step_lone_ended (by rw [hg _ rfl]; simp [stepG.apply, he])⟩
              | noEntry n => exact .inl ⟨.unsupported (.noEntry n) (fr.pos P), v', step_lone_ended (by rw [hg _ rfl]; simp [stepG.apply, he])⟩
              | unsafePointer n => exact .inl ⟨.unsupported (.unsafePointer n) (fr.pos P), v', step_lone_ended (by rw [hg _ rfl]; simp [stepG.apply, he])⟩
              | evalOrder => exact .inl ⟨.unsupported .evalOrder (fr.pos P), v', step_lone_ended (by rw [hg _ rfl]; simp [stepG.apply, he])⟩
              | addressObserved => exact .inl ⟨.unsupported .addressObserved (fr.pos P), v', step_lone_ended (by rw [hg _ rfl]; simp [stepG.apply, he])⟩
              | resourceLimit n => exact .inl ⟨.unsupported (.resourceLimit n) (fr.pos P), v', step_lone_ended (by rw [hg _ rfl]; simp [stepG.apply, he])⟩
              | _ => rename_i n; exact .inl ⟨.unsupported (Unsupported.elab n) (fr.pos P), v', step_lone_ended (by rw [hg _ rfl]; simp [stepG.apply, he])⟩
            | _ => exact absurd hfine Bool.false_ne_true
        · have hwt : Region.wanted o (yielded ops fr.tmps) = false := by simpa using hwt
          simp only [hwt, Bool.false_eq_true, if_false] at hr
          cases hr
    case h_17 id k ht =>
      refine .inl ⟨.stuck "exit, goto: no such block or label" (fr.pos P), v, step_lone_ended ?_⟩
      cases he : gotoIn id k with
      | some k' => rw [he] at hr; cases hr
      | none => simp [stepG, stepG.exec, hm, ht, he, hround]
    case h_18 =>
      -- the only such item of a tame text: a refusal
      cases hto : fr.todo with
      | nil => exfalso; solve_by_elim
      | cons it k =>
        have hi := ho.items it (by rw [hto]; exact List.mem_cons_self ..)
        cases it with
        | code c =>
          cases c with
          | refuse why => exact .inl ⟨.unsupported (Unsupported.elab why) (fr.pos P), v, step_lone_ended (by simp [stepG, stepG.exec, hm, hto])⟩
          | goto l => exfalso; solve_by_elim
          | rangeFunc f ps a b => exact absurd hi Bool.false_ne_true
          | _ => exfalso; solve_by_elim
        | inRegion ops l =>
          cases l with
          | nil => exfalso; solve_by_elim
          | cons i r => exfalso; solve_by_elim
        | inBlock _ => exfalso; solve_by_elim
        | inLoop _ => exfalso; solve_by_elim
        | inScope _ => exfalso; solve_by_elim
        | _ => exact absurd hi Bool.false_ne_true
    all_goals cases hr
  · unfold Go.Proofs.YtlipmagkplbkdaaDoor.stepS at hr
    rw [hm] at hr
    simp only [ho.kind] at hr
    obtain ⟨fn, hfn⟩ := ho.fn
    have hkn := ho.kind
    -- how the machine leaves the frame
    have hleave : ∀ (c : Frame) (rest : List Frame), fs ++ [cBad] = c :: rest → (∃ o w', step P (lone fr (fs ++ [cBad]) v) = .ended o w') ∨ ∃ u w', step P (lone fr (fs ++ [cBad]) v) = .next (lone (c.finish u) rest w') ∧ (results fn fr.tmps).run P v = .ok u w' := fun c rest e => by
      cases hres : (results fn fr.tmps).run P v with
      | ok u w' => exact .inr ⟨u, w', step_lone_go (by rw [e]; simp [stepG, unwind, doReturn, hm, hdef, hkn, hfn, hres]), rfl⟩
      | halt y w' =>
        refine .inl ?_
        cases y with
        | stuck s => exact ⟨_, _, step_lone_ended (o := .stuck s (fr.pos P)) (w' := w') (by rw [e]; simp [stepG, unwind, doReturn, hm, hdef, hkn, hfn, hres])⟩
        | _ => exact ⟨_, _, step_lone_ended (o := .stuck "return: the result variables cannot be read" (fr.pos P)) (w' := w') (by rw [e]; simp [stepG, unwind, doReturn, hm, hdef, hkn, hfn, hres])⟩
    cases fs with
    | nil =>
      rcases hleave cBad [] rfl with ⟨o, w', h1⟩ | ⟨u, w', h1, _⟩
      · exact .inl ⟨_, _, h1⟩
      · refine .inr ⟨_, h1, Dead.ended (o := .unsupported (Unsupported.elab "") ((cBad.finish u).pos P)) (w := w') (step_lone_ended ?_) (not_base hQ (by simp))⟩
        simp [stepG, stepG.exec, cBad, Frame.finish]
    | cons c fs =>
      obtain ⟨hc1, hc2, ops, i, r, k, hck⟩ := hfs c (List.mem_cons_self ..)
      simp only [hfn, List.cons_append, hck] at hr
      rcases hleave c (fs ++ [cBad]) rfl with ⟨o, w', h1⟩ | ⟨u, w', h1, h2⟩
      · exact .inl ⟨_, _, h1⟩
      · exfalso
        have hr : (Sem.bind (results fn fr.tmps) _).run P v = .halt x w := hr
        rw [Sem.run_bind', h2] at hr
        cases hr
theorem dead_of_halt (hC : Ctx P S G Sb) (hQ : QOk Q) {fr : Frame} {cs : List Frame} {v : World} (h : JI P S G Sb fr cs v) {x : Halt} {w : World} (hr : (stepS P fr cs).run P v = .halt x w) (n : Nat) (m' : Machine) (hn : runN P (n + 1) (lone fr cs v) = .next m') : ¬ StopM Q m' := by
  rcases after_halt hC hQ h hr with ⟨o, w', h1⟩ | ⟨m1, h1, h2⟩
  · rw [runN, h1] at hn; cases hn
  · rw [runN, h1] at hn; exact h2 n m' hn
theorem reach_of_run (hC : Ctx P S G Sb) (hQ : QOk Q) : ∀ (n : Nat) {fr : Frame} {cs : List Frame} {v : World} {m' : Machine}, JI P S G Sb fr cs v → runN P n (lone fr cs v) = .next m' → StopM Q m' → ReachS P Q fr cs v := by
  intro n
  induction n with
  | zero =>
    intro fr cs v m' hj hr hst
    simp only [runN, Stepped.next.injEq] at hr
    subst hr
    obtain ⟨fr', cs', v', e, hq⟩ := hst
    obtain ⟨rfl, rfl, rfl⟩ := lone_inj e
    exact .here _ _ _ hq
  | succ n ih =>
    intro fr cs v m' hj hr hst
    by_cases h0 : StopM Q (lone fr cs v)
    · obtain ⟨fr', cs', v', e, hq⟩ := h0
      obtain ⟨rfl, rfl, rfl⟩ := lone_inj e
      exact .here _ _ _ hq
    · cases hx : (stepS P fr cs).run P v with
      | halt x w => exact absurd hst (dead_of_halt hC hQ hj hx n m' hr)
      | ok x w =>
        have hj' := (JI.kept hC).step _ _ _ _ _ hj hx
        obtain ⟨es, hT⟩ : ∃ es, (stepS P fr cs).runT P v #[] = (.ok x w, es) := ⟨_, by rw [Sem.runT_eq, hx]⟩
        have htm : Tm fr := by
          obtain ⟨fs, rfl, ho, hm, hfs, hp, N0, ρ, hw, hG, hf, hl⟩ := hj
          exact hf.tm'
        have hg := stepG_of_S (main := true) htm hT
        have hst1 : step P (lone fr cs v) = .next (lone x.1 x.2 w) := step_lone_go (by
          show (stepG P true (Go.Conc.G fr cs) v).bare = _
          rw [hg]; rfl)
        rw [runN, hst1] at hr
        exact .next _ _ _ _ _ hx (ih hj' hr hst)
end
end Go.Proofs.YtlipmagkplbkdaaDoor

/-! Eu -/
namespace Go.Proofs.YtlipmagkplbkdaaDoor
open Go Go.Conc
set_option linter.unusedVariables false
set_option linter.unusedSimpArgs false
def mk : Item := .code (.refuse "")
inductive Plug (E K : List Item) (cs0 : List Frame) : List Frame → List Frame → Prop
  | base (f : Frame) (pre : List Item) : f.todo = pre ++ E → Plug E K cs0 [f] ({ f with todo := pre ++ K } :: cs0)
  | up (f : Frame) (l l' : List Frame) : l ≠ [] → Plug E K cs0 l l' → Plug E K cs0 (f :: l) (f :: l')
def Back (P : Program) (G Sb : Nat → Bool) (X : Sit) : Prop := ∀ fr cs v, okHead P G Sb fr → (∀ τ d, ∃ x v', (stepS P fr cs).run P (at2 v τ d) = .ok x v') → (∀ τ d x v', (stepS P fr cs).run P (at2 v τ d) = .ok x v' → X x.1 x.2 v') → X fr cs v
section
variable {P : Program} {S : FuncId → Prop} {G Sb : Nat → Bool} {E K : List Item} {cs0 : List Frame}
theorem stepS_ret {fr c : Frame} {l : List Frame} {fn : Func} {ops : Array Oper} {i : Nat} {r : List Nat} {k : List Item} {v w : World} {u : Value} (hm : fr.mode = .returning) (hk : fr.kind = .normal) (hf : P.funcs[fr.fn]? = some fn) (hc : c.todo = .inRegion ops (i :: r) :: k) (hr : (results fn fr.tmps).run P v = .ok u w) :
    (stepS P fr (c :: l)).run P v = .ok (c.finish u, l) w := by
  unfold Go.Proofs.YtlipmagkplbkdaaDoor.stepS
  simp only [hm, hk, hf, hc]
  show Sem.run P (Sem.bind _ _) v = _
  rw [Sem.run_bind', hr]
  rfl
theorem exitTo_app (id : Nat) : ∀ (pre : List Item) {k : List Item}, exitTo id (pre ++ E) = some k → exitTo id E = none → ∃ pre', k = pre' ++ E ∧ ∀ K, exitTo id (pre ++ K) = some (pre' ++ K)
  | [], k, h, hE => by rw [List.nil_append, hE] at h; cases h
  | x :: pre, k, h, hE => by
    by_cases hx : ∃ b, x = .inBlock b
    · obtain ⟨b, rfl⟩ := hx
      have h : (if b == id then some (pre ++ E) else exitTo id (pre ++ E)) = some k := h
      by_cases hb : (b == id) = true
      · rw [if_pos hb] at h
        injection h with h
        exact ⟨pre, h.symm, fun K => by show (if b == id then some (pre ++ K) else exitTo id (pre ++ K)) = _; rw [if_pos hb]⟩
      · rw [if_neg hb] at h
        obtain ⟨pre', h1, h2⟩ := exitTo_app id pre h hE
        exact ⟨pre', h1, fun K => by show (if b == id then some (pre ++ K) else exitTo id (pre ++ K)) = _; rw [if_neg hb]; exact h2 K⟩
    · have e : ∀ l, exitTo id (x :: l) = exitTo id l := fun l => by cases x <;> first | rfl | exact absurd ⟨_, rfl⟩ hx
      rw [List.cons_append, e] at h
      obtain ⟨pre', h1, h2⟩ := exitTo_app id pre h hE
      exact ⟨pre', h1, fun K => by rw [List.cons_append, e]; exact h2 K⟩
theorem gotoIn_app (id : Nat) : ∀ (pre : List Item) {k : List Item}, gotoIn id (pre ++ E) = some k → gotoIn id E = none → ∃ pre', k = pre' ++ E ∧ ∀ K, gotoIn id (pre ++ K) = some (pre' ++ K)
  | [], k, h, hE => by rw [List.nil_append, hE] at h; cases h
  | x :: pre, k, h, hE => by
    by_cases hx : ∃ c, x = .inScope c
    · obtain ⟨c, rfl⟩ := hx
      have h : (match findLabel c id with | some rest => some (.code rest :: .inScope c :: (pre ++ E)) | none => gotoIn id (pre ++ E)) = some k := h
      cases hf : findLabel c id with
      | some rest =>
        rw [hf] at h
        injection h with h
        exact ⟨.code rest :: .inScope c :: pre, h.symm, fun K => by show (match findLabel c id with | some rest => some (Item.code rest :: Item.inScope c :: (pre ++ K)) | none => gotoIn id (pre ++ K)) = _; rw [hf]; rfl⟩
      | none =>
        rw [hf] at h
        obtain ⟨pre', h1, h2⟩ := gotoIn_app id pre h hE
        exact ⟨pre', h1, fun K => by show (match findLabel c id with | some rest => some (Item.code rest :: Item.inScope c :: (pre ++ K)) | none => gotoIn id (pre ++ K)) = _; rw [hf]; exact h2 K⟩
    · have e : ∀ l, gotoIn id (x :: l) = gotoIn id l := fun l => by cases x <;> first | rfl | exact absurd ⟨_, rfl⟩ hx
      rw [List.cons_append, e] at h
      obtain ⟨pre', h1, h2⟩ := gotoIn_app id pre h hE
      exact ⟨pre', h1, fun K => by rw [List.cons_append, e]; exact h2 K⟩
theorem step_plug (hEK : E = [mk] ∨ (E = [] ∧ K = [])) {fr : Frame} {fs : List Frame} {l' : List Frame} (hp : Plug E K cs0 (fr :: fs) l') {v v' : World} {x : Frame × List Frame} (h : (stepS P fr (fs ++ [cBad])).run P v = .ok x v') :
    ∃ fp csp, l' = fp :: csp ∧ (okHead P G Sb fr → okHead P G Sb fp) ∧ ∃ fs' xp, x.2 = fs' ++ [cBad] ∧ (stepS P fp csp).run P v = .ok xp v' ∧ Plug E K cs0 (x.1 :: fs') (xp.1 :: xp.2) := by
  have hE0 : ∀ id, exitTo id E = none := fun id => by rcases hEK with rfl | ⟨rfl, rfl⟩ <;> rfl
  have hG0 : ∀ id, gotoIn id E = none := fun id => by rcases hEK with rfl | ⟨rfl, rfl⟩ <;> rfl
  obtain ⟨fn, tmps, todo, defers, mode, kind, roundOf⟩ := fr
  cases hp with
  | up _ l l'' hne hl =>
    -- the lowest frame is not the running one
    refine ⟨_, _, rfl, id, ?_⟩
    have push : ∀ f, Plug E K cs0 (f :: fs) (f :: l'') := fun f => .up f fs l'' hne hl
    cases mode with
    | panicking ch => unfold Go.Proofs.YtlipmagkplbkdaaDoor.stepS at h; exact (run_stuck_ok h).elim
    | run =>
      unfold Go.Proofs.YtlipmagkplbkdaaDoor.stepS at h ⊢
      simp only at h ⊢
      split at h
      case h_8 c a b k =>
        split at h
        · rename_i t ht
          obtain ⟨rfl, rfl⟩ := run_pure_ok h
          exact ⟨fs, (_, l''), rfl, by first | rfl | (simp only [ht]; rfl), push _⟩
        · exact (run_stuck_ok h).elim
      case h_13 id k =>
        split at h
        · rename_i k' hk
          obtain ⟨rfl, rfl⟩ := run_pure_ok h
          exact ⟨fs, (_, l''), rfl, by first | rfl | (simp only [hk]; rfl), push _⟩
        · exact (run_stuck_ok h).elim
      case h_14 id ops draw k =>
        split at h
        · rename_i hd
          obtain ⟨t, w1, h4, h5⟩ := run_bind_ok h
          obtain ⟨rfl, rfl⟩ := run_pure_ok h5
          refine ⟨fs, (_, l''), rfl, ?_, push _⟩
          simp only [hd, if_true]
          show Sem.run P (Sem.bind _ _) v = _
          rw [Sem.run_bind', h4]
          rfl
        · rename_i hd
          obtain ⟨rfl, rfl⟩ := run_pure_ok h
          exact ⟨fs, (_, l''), rfl, by first | rfl | (simp only [if_neg hd]; rfl), push _⟩
      case h_16 ops i rest k =>
        split at h
        · rename_i ho
          obtain ⟨rfl, rfl⟩ := run_pure_ok h
          exact ⟨fs, (_, l''), rfl, by first | rfl | (simp only [ho]; rfl), push _⟩
        · rename_i o ho
          split at h
          · rename_i hw
            obtain ⟨nx, w1, h4, h5⟩ := run_bind_ok h
            have go : ∀ (f : Next → Sem (Frame × List Frame)) y, (f nx).run P w1 = .ok y v' → (execOp (Frame.eval { fn := fn, tmps := tmps, todo := .inRegion ops (i :: rest) :: k, defers := defers, mode := .run, kind := kind, roundOf := roundOf }) o >>= f).run P v = .ok y v' := fun f y hy => by
              show Sem.run P (Sem.bind _ _) v = _
              rw [Sem.run_bind', h4]
              exact hy
            cases nx with
            | value u =>
              obtain ⟨rfl, rfl⟩ := run_pure_ok h5
              exact ⟨fs, (_, l''), rfl, by first | exact go _ _ rfl | (simp only [hw, if_true]; exact go _ _ rfl) | (simp only [ho, hw, if_true]; exact go _ _ rfl), push _⟩
            | skip =>
              obtain ⟨rfl, rfl⟩ := run_pure_ok h5
              exact ⟨fs, (_, l''), rfl, by first | exact go _ _ rfl | (simp only [hw, if_true]; exact go _ _ rfl) | (simp only [ho, hw, if_true]; exact go _ _ rfl), push _⟩
            | enter f args =>
              obtain ⟨rfl, rfl⟩ := run_pure_ok h5
              exact ⟨_ :: fs, (_, _ :: l''), rfl, by first | exact go _ _ rfl | (simp only [hw, if_true]; exact go _ _ rfl) | (simp only [ho, hw, if_true]; exact go _ _ rfl), .up _ _ _ (by simp) (push _)⟩
            | _ => exact (run_stuck_ok h5).elim
          · rename_i hw
            obtain ⟨rfl, rfl⟩ := run_pure_ok h
            exact ⟨fs, (_, l''), rfl, by first | rfl | (simp only [if_neg hw]; rfl) | (simp only [ho, if_neg hw]; rfl), push _⟩
      case h_17 id k =>
        split at h
        · rename_i k' hk
          obtain ⟨rfl, rfl⟩ := run_pure_ok h
          exact ⟨fs, (_, l''), rfl, by first | rfl | (simp only [hk]; rfl), push _⟩
        · exact (run_stuck_ok h).elim
      case h_18 => exact (run_stuck_ok h).elim
      all_goals
        obtain ⟨rfl, rfl⟩ := run_pure_ok h
        exact ⟨fs, (_, l''), rfl, rfl, push _⟩
    | returning =>
      unfold Go.Proofs.YtlipmagkplbkdaaDoor.stepS at h
      simp only at h
      cases fs with
      | nil => exact absurd rfl hne
      | cons c fs =>
        split at h
        · rename_i c1 rest f heq hf
          injection heq with e1 e2
          subst e1 e2
          split at h
          · rename_i ops i r k htc
            obtain ⟨u, w1, h4, h5⟩ := run_bind_ok h
            obtain ⟨rfl, rfl⟩ := run_pure_ok h5
            have fin : ∀ (cp : Frame) (lp : List Frame), l'' = cp :: lp → (∃ q, cp.todo = .inRegion ops (i :: r) :: q) → Plug E K cs0 (c.finish u :: fs) (cp.finish u :: lp) →
                ∃ fs' xp, (c.finish u, fs ++ [cBad]).2 = fs' ++ [cBad] ∧ (stepS P { fn := fn, tmps := tmps, todo := todo, defers := defers, mode := .returning, kind := .normal, roundOf := roundOf } l'').run P v = .ok xp w1 ∧ Plug E K cs0 ((c.finish u, fs ++ [cBad]).1 :: fs') (xp.1 :: xp.2) := fun cp lp e ⟨q, hq⟩ hP => by
              subst e
              exact ⟨fs, (cp.finish u, lp), rfl, stepS_ret rfl rfl hf hq h4, hP⟩
            cases hl with
            | up _ l1 l2 hne2 hl2 => exact fin c l2 rfl ⟨k, htc⟩ (.up _ _ _ hne2 hl2)
            | base _ pre hpre =>
              have hpre2 : ∃ pre', pre = .inRegion ops (i :: r) :: pre' ∧ k = pre' ++ E := by
                rw [htc] at hpre
                cases pre with
                | nil =>
                  rcases hEK with rfl | ⟨rfl, _⟩
                  · simp [mk] at hpre
                  · simp at hpre
                | cons y pre' =>
                  rw [List.cons_append] at hpre
                  injection hpre with e1 e2
                  exact ⟨pre', by rw [e1], e2⟩
              obtain ⟨pre', rfl, hk'⟩ := hpre2
              refine fin { c with todo := .inRegion ops (i :: r) :: pre' ++ K } cs0 rfl ⟨_, rfl⟩ ?_
              have e1 : c.finish u = { c with tmps := match (ops[i]?).bind (·.dst) with | some d => c.tmps.setIfInBounds d u | none => c.tmps, todo := .inRegion ops r :: (pre' ++ E) } := by
                unfold Frame.finish; rw [htc, hk']; rfl
              have e2 : (Frame.finish { c with todo := .inRegion ops (i :: r) :: pre' ++ K } u) = { c with tmps := match (ops[i]?).bind (·.dst) with | some d => c.tmps.setIfInBounds d u | none => c.tmps, todo := (.inRegion ops r :: pre') ++ K } := rfl
              rw [e1, e2]
              exact .base _ (.inRegion ops r :: pre') rfl
          · exact (run_stuck_ok h).elim
        · exact (run_stuck_ok h).elim
  | base _ pre hpre =>
    simp only at hpre
    subst hpre
    refine ⟨_, _, rfl, ?_, ?_⟩
    · intro ho
      unfold okHead at ho ⊢
      cases mode with
      | run =>
        cases pre with
        | nil =>
          simp only [List.nil_append]
          rcases hEK with rfl | ⟨rfl, rfl⟩
          · exfalso
            unfold Go.Proofs.YtlipmagkplbkdaaDoor.stepS at h
            exact run_stuck_ok h
          · exact ho
        | cons y pre' => cases y <;> first | exact ho | (rename_i c; cases c <;> exact ho) | (rename_i ops l; cases l <;> exact ho)
      | _ => trivial
    · unfold Go.Proofs.YtlipmagkplbkdaaDoor.stepS at h ⊢
      cases mode with
      | panicking ch => exact (run_stuck_ok h).elim
      | returning =>
        exfalso
        simp only [List.nil_append] at h
        split at h
        · rename_i c rest f _ heq _
          injection heq with e1 e2
          subst e1
          exact run_stuck_ok h
        · exact run_stuck_ok h
      | run =>
        have push : ∀ (ts : Array Value) (q : List Item) (m : FrameMode), Plug E K cs0 [{ fn := fn, tmps := ts, todo := q ++ E, defers := defers, mode := m, kind := kind, roundOf := roundOf }] ({ fn := fn, tmps := ts, todo := q ++ K, defers := defers, mode := m, kind := kind, roundOf := roundOf } :: cs0) := fun ts q m => .base _ q rfl
        cases pre with
        | nil =>
          rcases hEK with rfl | ⟨rfl, rfl⟩
          · exact (run_stuck_ok h).elim
          · obtain ⟨rfl, rfl⟩ := run_pure_ok h
            exact ⟨[], (_, cs0), rfl, rfl, push _ [] _⟩
        | cons y pre =>
          simp only [List.cons_append] at h ⊢
          cases y with
          | inBlock id =>
            obtain ⟨rfl, rfl⟩ := run_pure_ok h
            exact ⟨[], (_, cs0), rfl, rfl, push _ pre _⟩
          | inScope c =>
            obtain ⟨rfl, rfl⟩ := run_pure_ok h
            exact ⟨[], (_, cs0), rfl, rfl, push _ pre _⟩
          | inLoop c =>
            obtain ⟨rfl, rfl⟩ := run_pure_ok h
            exact ⟨[], (_, cs0), rfl, rfl, push _ (.code c :: .inLoop c :: pre) _⟩
          | inRegion ops l =>
            cases l with
            | nil =>
              obtain ⟨rfl, rfl⟩ := run_pure_ok h
              exact ⟨[], (_, cs0), rfl, rfl, push _ pre _⟩
            | cons i rest =>
              simp only at h ⊢
              split at h
              · rename_i ho
                obtain ⟨rfl, rfl⟩ := run_pure_ok h
                exact ⟨[], (_, cs0), rfl, by first | rfl | (simp only [ho]; rfl), push _ (.inRegion ops rest :: pre) _⟩
              · rename_i o ho
                split at h
                · rename_i hw
                  obtain ⟨nx, w1, h4, h5⟩ := run_bind_ok h
                  have go : ∀ (f : Next → Sem (Frame × List Frame)) y, (f nx).run P w1 = .ok y v' → (execOp (Frame.eval { fn := fn, tmps := tmps, todo := .inRegion ops (i :: rest) :: (pre ++ K), defers := defers, mode := .run, kind := kind, roundOf := roundOf }) o >>= f).run P v = .ok y v' := fun f y hy => by
                    have e : Frame.eval { fn := fn, tmps := tmps, todo := .inRegion ops (i :: rest) :: (pre ++ K), defers := defers, mode := .run, kind := kind, roundOf := roundOf } = Frame.eval { fn := fn, tmps := tmps, todo := .inRegion ops (i :: rest) :: (pre ++ E), defers := defers, mode := .run, kind := kind, roundOf := roundOf } := by
                      funext z; cases z <;> rfl
                    rw [e]
                    show Sem.run P (Sem.bind _ _) v = _
                    rw [Sem.run_bind', h4]
                    exact hy
                  cases nx with
                  | value u =>
                    obtain ⟨rfl, rfl⟩ := run_pure_ok h5
                    exact ⟨[], (_, cs0), rfl, by first | exact go _ _ rfl | (simp only [hw, if_true]; exact go _ _ rfl) | (simp only [ho, hw, if_true]; exact go _ _ rfl), push _ (.inRegion ops rest :: pre) _⟩
                  | skip =>
                    obtain ⟨rfl, rfl⟩ := run_pure_ok h5
                    exact ⟨[], (_, cs0), rfl, by first | exact go _ _ rfl | (simp only [hw, if_true]; exact go _ _ rfl) | (simp only [ho, hw, if_true]; exact go _ _ rfl), push _ (.inRegion ops rest :: pre) _⟩
                  | enter f args =>
                    obtain ⟨rfl, rfl⟩ := run_pure_ok h5
                    exact ⟨[_], (_, _ :: cs0), rfl, by first | exact go _ _ rfl | (simp only [hw, if_true]; exact go _ _ rfl) | (simp only [ho, hw, if_true]; exact go _ _ rfl), .up _ _ _ (by simp) (push _ (.inRegion ops (i :: rest) :: pre) _)⟩
                  | _ => exact (run_stuck_ok h5).elim
                · rename_i hw
                  obtain ⟨rfl, rfl⟩ := run_pure_ok h
                  exact ⟨[], (_, cs0), rfl, by first | rfl | (simp only [if_neg hw]; rfl) | (simp only [ho, if_neg hw]; rfl), push _ (.inRegion ops rest :: pre) _⟩
          | code c =>
            cases c with
            | ret =>
              obtain ⟨rfl, rfl⟩ := run_pure_ok h
              exact ⟨[], (_, cs0), rfl, rfl, push _ (.code .ret :: pre) _⟩
            | skip =>
              obtain ⟨rfl, rfl⟩ := run_pure_ok h
              exact ⟨[], (_, cs0), rfl, rfl, push _ pre _⟩
            | label l =>
              obtain ⟨rfl, rfl⟩ := run_pure_ok h
              exact ⟨[], (_, cs0), rfl, rfl, push _ pre _⟩
            | seq a b =>
              obtain ⟨rfl, rfl⟩ := run_pure_ok h
              exact ⟨[], (_, cs0), rfl, rfl, push _ (.code a :: .code b :: pre) _⟩
            | cond c a b =>
              have e : Frame.eval { fn := fn, tmps := tmps, todo := .code (.cond c a b) :: (pre ++ K), defers := defers, mode := .run, kind := kind, roundOf := roundOf } c = Frame.eval { fn := fn, tmps := tmps, todo := .code (.cond c a b) :: (pre ++ E), defers := defers, mode := .run, kind := kind, roundOf := roundOf } c := by
                cases c <;> rfl
              simp only [e] at h ⊢
              split at h
              · rename_i t ht
                obtain ⟨rfl, rfl⟩ := run_pure_ok h
                exact ⟨[], (_, cs0), rfl, by first | rfl | (simp only [ht]; rfl), push _ (.code (if t then a else b) :: pre) _⟩
              · exact (run_stuck_ok h).elim
            | block id c =>
              obtain ⟨rfl, rfl⟩ := run_pure_ok h
              exact ⟨[], (_, cs0), rfl, rfl, push _ (.code c :: .inBlock id :: pre) _⟩
            | loop c =>
              obtain ⟨rfl, rfl⟩ := run_pure_ok h
              exact ⟨[], (_, cs0), rfl, rfl, push _ (.code c :: .inLoop c :: pre) _⟩
            | scope c =>
              obtain ⟨rfl, rfl⟩ := run_pure_ok h
              exact ⟨[], (_, cs0), rfl, rfl, push _ (.code c :: .inScope c :: pre) _⟩
            | exit id =>
              simp only at h ⊢
              split at h
              · rename_i k' hk
                obtain ⟨rfl, rfl⟩ := run_pure_ok h
                obtain ⟨pre', rfl, hK⟩ := exitTo_app id pre hk (hE0 id)
                exact ⟨[], (_, cs0), rfl, by first | rfl | (simp only [hK K]; rfl), push _ pre' _⟩
              · exact (run_stuck_ok h).elim
            | goto id =>
              simp only at h ⊢
              split at h
              · rename_i k' hk
                obtain ⟨rfl, rfl⟩ := run_pure_ok h
                obtain ⟨pre', rfl, hK⟩ := gotoIn_app id pre hk (hG0 id)
                exact ⟨[], (_, cs0), rfl, by first | rfl | (simp only [hK K]; rfl), push _ pre' _⟩
              · exact (run_stuck_ok h).elim
            | region id ops draw =>
              simp only at h ⊢
              split at h
              · rename_i hd
                obtain ⟨t, w1, h4, h5⟩ := run_bind_ok h
                obtain ⟨rfl, rfl⟩ := run_pure_ok h5
                refine ⟨[], (_, cs0), rfl, ?_, push _ (.inRegion ops (Region.schedule (P.follows .mixedOrders) ops t) :: pre) _⟩
                simp only [hd, if_true]
                show Sem.run P (Sem.bind _ _) v = _
                rw [Sem.run_bind', h4]
                rfl
              · rename_i hd
                obtain ⟨rfl, rfl⟩ := run_pure_ok h
                exact ⟨[], (_, cs0), rfl, by first | rfl | (simp only [if_neg hd]; rfl), push _ (.inRegion ops (List.range ops.size) :: pre) _⟩
            | _ => exact (run_stuck_ok h).elim
          | _ => exact (run_stuck_ok h).elim
end
end Go.Proofs.YtlipmagkplbkdaaDoor

/-! Ev -/
namespace Go.Proofs.YtlipmagkplbkdaaDoor
open Go Go.Conc
set_option linter.unusedVariables false
set_option linter.unusedSimpArgs false
abbrev Post := Value → World → Prop
def Head (f : Frame) (o : Oper) : Prop := f.mode = .run ∧ ∃ ops i r k, f.todo = .inRegion ops (i :: r) :: k ∧ ops[i]? = some o ∧ Region.wanted o (yielded ops f.tmps) = true
def shutO : Obj → Obj
  | .cells cs t _ => .cells cs t (0, cs.size)
  | .stringIter _ _ => .coro none
  | o => o
def shut (v : World) : World := { v with heap := v.heap.map shutO }
structure Grow (v v' : World) : Prop where
  size : v.heap.size ≤ v'.heap.size
  keep : ∀ b, b < v.heap.size → v'.heap[b]? = v.heap[b]?
  os : v'.os = v.os
  output : v'.output = v.output
open Classical in
noncomputable def hide (v v' : World) : World := { v' with heap := v'.heap.mapIdx fun b o => if b < v.heap.size ∧ shutO o ≠ o then .coro none else o }
theorem hide_size (v v' : World) : (hide v v').heap.size = v'.heap.size := Array.size_mapIdx ..
theorem hide_get {v v' : World} {m : Nat} (h : v.heap.size ≤ m ∨ ∀ o, v'.heap[m]? = some o → shutO o = o) : (hide v v').heap[m]? = v'.heap[m]? := by
  show (v'.heap.mapIdx _)[m]? = _
  rw [Array.getElem?_mapIdx]
  cases ho : v'.heap[m]? with
  | none => rfl
  | some o =>
    rw [Option.map_some, if_neg]
    rintro ⟨h1, h2⟩
    rcases h with h | h
    · omega
    · exact h2 (h o ho)
theorem hide_cell {v v' : World} {a : Addr} {u : Value} (h : (hide v v').cell? a = some u) : v'.cell? a = some u ∧ (v.heap.size ≤ a.block ∨ ∀ o, v'.heap[a.block]? = some o → shutO o = o) := by
  have key : v.heap.size ≤ a.block ∨ ∀ o, v'.heap[a.block]? = some o → shutO o = o := by
    by_cases h1 : v.heap.size ≤ a.block
    · exact .inl h1
    · refine .inr fun o ho => ?_
      by_cases h2 : shutO o = o
      · exact h2
      · exfalso
        have e : (hide v v').heap[a.block]? = some (.coro none) := by
          show (v'.heap.mapIdx _)[a.block]? = _
          rw [Array.getElem?_mapIdx, ho, Option.map_some, if_pos ⟨by omega, h2⟩]
        unfold World.cell? at h
        rw [e] at h
        cases h
  exact ⟨by rw [← World.cell?_of_block (hide_get key)]; exact h, key⟩
structure HRel (S : FuncId → Prop) (ρ : Ren) (v v' : World) : Prop where
  cell : ∀ b c, ρ b c → ∀ off u, v.cell? ⟨b, off, none⟩ = some u → ∃ u', v'.cell? ⟨c, off, none⟩ = some u' ∧ VRel S ρ u u'
  frozen : ∀ b c, ρ b c → ∀ off, v'.frozen? ⟨c, off, none⟩ = true → v.frozen? ⟨b, off, none⟩ = true
  dom : ∀ b c, ρ b c → c < v'.heap.size
structure InvQ (S : FuncId → Prop) (Q : Post) : Prop where
  turn : ∀ ρ v v' x y, HRel S ρ v v' → VRel S ρ x y → Q x v → Q y v'
  at2 : ∀ x v τ d, Q x v → Q x (at2 v τ d)
def exitFrame (P : Program) : Frame := { (default : Frame) with fn := P.funcs.size, defers := [], mode := .panicking [goexitEntry] }
def AtSend (P : Program) (G Sb : Nat → Bool) (C : Nat) (Q : Post) : Sit := fun fr cs v => cs = [] ∧ fr.mode = .run ∧ fr.kind = .deferred ∧
  ∃ ops i k o chx xop q, fr.todo = .inRegion ops [i] :: k ∧ ops[i]? = some o ∧ Region.wanted o (yielded ops fr.tmps) = true ∧ o.op = .send chx xop ∧ okX G Sb chx = true ∧ okX G Sb xop = true ∧
    fr.eval chx = .chan (some C) ∧ Q (fr.eval xop) v ∧ ∀ tmps, QuitsIn P q (Go.Conc.G { fn := fr.fn, tmps, todo := .inRegion ops [] :: k, defers := [], mode := .run, kind := .deferred } [exitFrame P])
def HD (P : Program) (G Sb : Nat → Bool) : Sit := fun fr _ _ => okHead P G Sb fr
inductive M (P : Program) (S : FuncId → Prop) (G Sb : Nat → Bool) (F : Value → Prop) : List Post → Option Nat → Frame → List Frame → World → Prop
  | fin (ch : Option Nat) (fr : Frame) (v : World) (x : Value) : (∀ τ d, fr.leaving P (at2 v τ d) (.returned x)) → P.inits.idxOf? fr.fn = none → F x → M P S G Sb F [] ch fr [] v
  | step (Γ : List Post) (ch : Option Nat) (fr : Frame) (cs : List Frame) (v : World) : okHead P G Sb fr → (∀ τ d, ∃ x v', (stepS P fr cs).run P (at2 v τ d) = .ok x v') →
      (∀ τ d x v', (stepS P fr cs).run P (at2 v τ d) = .ok x v' → M P S G Sb F Γ ch x.1 x.2 v') → M P S G Sb F Γ ch fr cs v
  | enter (Γ : List Post) (ch : Option Nat) (fr : Frame) (cs : List Frame) (v : World) (o : Oper) (f : FuncId) (as : Array Operand) (ats : Array TypeId) : Head fr o → o.op = .call { callee := .value (.func f), args := as, argTypes := ats } → as.all (okX G Sb) = true →
      (∃ fn c, P.funcs[f]? = some fn ∧ fn.body = some c ∧ (fn.name == "runtime.NumGoroutine") = false) → M P S G Sb F Γ ch (Frame.enter P f (as.map fr.eval) .normal) (fr :: cs) v → M P S G Sb F Γ ch fr cs v
  | chan (ch : Option Nat) (fr : Frame) (cs : List Frame) (v : World) (o : Oper) : Head fr o →
      (∀ (f0 : Frame) w es, (execOp f0.eval o).runT P w es = (.ok (.value (.chan (some w.heap.size))) { w with heap := w.heap.push (.chan 3 #[] false 0 0 false) }, es)) →
      (∀ C, M P S G Sb F [] (some C) (fr.finish (.chan (some C))) cs v) → M P S G Sb F [] ch fr cs v
  | fork (Γ : List Post) (C : Nat) (fr : Frame) (cs : List Frame) (v : World) (o : Oper) (x : Operand) (ats : Array TypeId) (f : FuncId) (caps : Array Value) (Q : Post) : Head fr o → o.op = .go { callee := .value x, args := #[], argTypes := ats } →
      okX G Sb x = true → fr.eval x = .func (.func f) #[] caps → (∃ fn c, P.funcs[f]? = some fn ∧ fn.body = some c ∧ (fn.name == "runtime.NumGoroutine") = false) → Γ.length < 3 → InvQ S Q →
      T P (HD P G Sb) (AtSend P G Sb C Q) (Frame.enter P f caps .deferred) [] (shut v) → M P S G Sb F (Γ ++ [Q]) (some C) (fr.finish undef) cs (shut v) → M P S G Sb F Γ (some C) fr cs v
  | recv (Γ : List Post) (C : Nat) (fr : Frame) (cs : List Frame) (v : World) (o : Oper) (x : Operand) (z : Value) : Head fr o → okX G Sb x = true → fr.eval x = .chan (some C) →
      (∀ (ev : Operand → Value) w es, ev x = .chan (some C) → (execOp ev o).runT P w es = (.ok (.comm #[rcase C z] true (.recv false)) w, es)) → Γ ≠ [] →
      (∀ Γ1 Q Γ2, Γ = Γ1 ++ Q :: Γ2 → ∀ v' y, Grow v v' → Q y (hide v v') → Self P S G (fr.finish y) cs v' → M P S G Sb F (Γ1 ++ Γ2) (some C) (fr.finish y) cs v') → M P S G Sb F Γ (some C) fr cs v
section
variable {P : Program} {S : FuncId → Prop} {G Sb : Nat → Bool} {F : Value → Prop} {Γ : List Post} {ch : Option Nat}
theorem shut_at2 (v : World) (τ : Nat → Question → Nat) (d : Nat) : shut (at2 v τ d) = at2 (shut v) τ d := rfl
theorem AtSend.at2 {C : Nat} {Q : Post} (hQ : InvQ S Q) : ∀ fr cs v τ d, AtSend P G Sb C Q fr cs v → AtSend P G Sb C Q fr cs (at2 v τ d) := fun fr cs v τ d h => by
  obtain ⟨h1, h2, h2', ops, i, k, o, chx, xop, q, h3, h4, h5, h6, h7, h8, h9, h10, h11⟩ := h
  exact ⟨h1, h2, h2', ops, i, k, o, chx, xop, q, h3, h4, h5, h6, h7, h8, h9, hQ.at2 _ _ _ _ h10, h11⟩
theorem M.at2 {fr : Frame} {cs : List Frame} {v : World} (h : M P S G Sb F Γ ch fr cs v) : ∀ τ d, M P S G Sb F Γ ch fr cs (at2 v τ d) := by
  induction h with
  | fin ch fr v x h hi hx => exact fun τ d => .fin ch fr _ x (fun τ' d' => h τ' d') hi hx
  | step Γ ch fr cs v hh h k _ => exact fun τ d => .step Γ ch fr cs _ hh (fun τ' d' => h τ' d') fun τ' d' => k τ' d'
  | enter Γ ch fr cs v o f as ats h1 h2 h3 h4 _ ih => exact fun τ d => .enter Γ ch fr cs _ o f as ats h1 h2 h3 h4 (ih τ d)
  | chan ch fr cs v o hh hr _ ih => exact fun τ d => .chan ch fr cs _ o hh hr fun C => ih C τ d
  | fork Γ C fr cs v o x ats f caps Q h1 h2 h3 h4 h5 h6 h7 h8 _ ih => exact fun τ d => .fork Γ C fr cs _ o x ats f caps Q h1 h2 h3 h4 h5 h6 h7 (by rw [shut_at2]; exact h8.at2 (fun _ _ _ _ _ h => h) (AtSend.at2 h7) τ d) (by rw [shut_at2]; exact ih τ d)
  | recv Γ C fr cs v o x z h1 h2 h3 h4 h5 k _ => exact fun τ d => .recv Γ C fr cs _ o x z h1 h2 h3 h4 h5 fun Γ1 Q Γ2 e v' y hg hq hs => k Γ1 Q Γ2 e v' y ⟨hg.size, hg.keep, hg.os, hg.output⟩ hq hs
def MS (P : Program) (S : FuncId → Prop) (G Sb : Nat → Bool) (F : Value → Prop) (Γ : List Post) (ch : Option Nat) : Sit := fun fr cs v => Self P S G fr cs v → M P S G Sb F Γ ch fr cs v
theorem MS.at2 {fr : Frame} {cs : List Frame} {v : World} (h : MS P S G Sb F Γ ch fr cs v) (τ : Nat → Question → Nat) (d : Nat) : MS P S G Sb F Γ ch fr cs (at2 v τ d) := fun hs => (h (by have := hs.at2 v.tape v.drawn; exact this)).at2 τ d
theorem MS.back (hC : Ctx P S G Sb) : Back P G Sb (MS P S G Sb F Γ ch) := fun fr cs v hh h k hs =>
  .step _ _ _ _ _ hh h fun τ d x v' hr => k τ d x v' hr (Self.step hC hh (hs.at2 τ d) hr)
theorem ji_of_run (hC : Ctx P S G Sb) : ∀ (n : Nat) {fr fr' : Frame} {cs : List Frame} {v w : World}, JI P S G Sb fr cs v → runN P n (lone fr cs v) = .next (lone fr' [cBad] w) → (∀ c, fr'.mode ≠ .panicking c) → JI P S G Sb fr' [cBad] w := by
  have hQ : QOk (fun fr cs _ => cs = [cBad] ∧ ∀ c, fr.mode ≠ .panicking c) := ⟨fun _ _ _ _ _ h => h, fun _ _ _ h => h.1, fun _ _ _ c h => h.2 c⟩
  intro n
  induction n with
  | zero =>
    intro fr fr' cs v w hj hr hm
    simp only [runN, Stepped.next.injEq] at hr
    obtain ⟨rfl, rfl, rfl⟩ := lone_inj hr
    exact hj
  | succ n ih =>
    intro fr fr' cs v w hj hr hm
    cases hx : (stepS P fr cs).run P v with
    | halt x u => exact absurd ⟨_, _, _, rfl, rfl, hm⟩ (dead_of_halt hC hQ hj hx n _ hr)
    | ok x u =>
      have hj' := (JI.kept hC).step _ _ _ _ _ hj hx
      obtain ⟨es, hT⟩ : ∃ es, (stepS P fr cs).runT P v #[] = (.ok x u, es) := ⟨_, by rw [Sem.runT_eq, hx]⟩
      have htm : Tm fr := by
        obtain ⟨fs, rfl, ho, hm, hfs, hp, N0, ρ, hw, hG, hf, hl⟩ := hj
        exact hf.tm'
      have hst1 : step P (lone fr cs v) = .next (lone x.1 x.2 u) := step_lone_go (by
        show (stepG P true (Go.Conc.G fr cs) v).bare = _
        rw [stepG_of_S (main := true) htm hT]; rfl)
      rw [runN, hst1] at hr
      exact ih hj' hr hm
theorem T.back {Q : Sit} : Back P G Sb (T P (HD P G Sb) Q) := fun fr cs v hh h k => .step fr cs v hh h k
theorem Tree.plug {X Q : Sit} (hX : Back P G Sb X) {E K : List Item} {cs0 : List Frame} (hEK : E = [mk] ∨ (E = [] ∧ K = [])) (hQ : ∀ fr cs v, Q fr cs v → cs = [cBad] ∧ ∀ fp, Plug E K cs0 [fr] (fp :: cs0) → X fp cs0 v) {fr : Frame} {cs : List Frame} {v : World} (h : T P (JI P S G Sb) Q fr cs v) :
    ∀ fs fp csp, cs = fs ++ [cBad] → Plug E K cs0 (fr :: fs) (fp :: csp) → X fp csp v := by
  induction h with
  | stop fr cs v hq =>
    rintro fs fp csp rfl hp
    obtain ⟨h1, h2⟩ := hQ _ _ _ hq
    have : fs = [] := by
      cases fs with
      | nil => rfl
      | cons c fs =>
        have := congrArg List.length h1
        simp at this
    subst this
    cases hp with
    | base _ pre hpre => exact h2 _ (.base _ pre hpre)
    | up _ _ _ hne _ => exact absurd rfl hne
  | step fr cs v hj h k ih =>
    rintro fs fp csp rfl hp
    have hh : okHead P G Sb fr := by obtain ⟨_, _, ho, _⟩ := hj; exact ho.head
    have one : ∀ τ d, ∃ x v', (stepS P fr (fs ++ [cBad])).run P (at2 v τ d) = .ok x v' ∧ ∃ fs' xp, x.2 = fs' ++ [cBad] ∧ (stepS P fp csp).run P (at2 v τ d) = .ok xp v' ∧ Plug E K cs0 (x.1 :: fs') (xp.1 :: xp.2) := fun τ d => by
      obtain ⟨x, v', hr⟩ := h τ d
      obtain ⟨fp', csp', e, _, fs', xp, h1, h2, h3⟩ := step_plug (P := P) (G := G) (Sb := Sb) hEK hp hr
      injection e with e1 e2
      subst e1 e2
      exact ⟨x, v', hr, fs', xp, h1, h2, h3⟩
    have hhp : okHead P G Sb fp := by
      obtain ⟨x, v', hr⟩ := h v.tape v.drawn
      obtain ⟨fp', csp', e, h0, _⟩ := step_plug (P := P) (G := G) (Sb := Sb) hEK hp hr
      injection e with e1 e2
      subst e1
      exact h0 hh
    refine hX fp csp v hhp (fun τ d => let ⟨x, v', _, fs', xp, _, h2, _⟩ := one τ d; ⟨xp, v', h2⟩) fun τ d xp v' hr => ?_
    obtain ⟨x, v2, hr2, fs', xp2, h1, h2, h3⟩ := one τ d
    rw [h2] at hr
    injection hr with e1 e2
    subst e1 e2
    exact ih τ d x v2 hr2 fs' _ _ h1 h3
def Leads (X : Sit) (b : Frame) (k : List Item) (cs : List Frame) : Exit → Act → World → Prop
  | .normal, a, w => X (b.at a k) cs w
  | .ret, a, w => ∀ todo, X { b.at a todo with mode := .returning } cs w
  | _, _, _ => False
theorem fRel_at {b : Frame} {a : Act} {t t' : List Item} {ρ : Ren} (h : FRel S ρ (b.at a t) (b.at a t)) : FRel S ρ (b.at a t') (b.at a t') := ⟨rfl, h.tmps, rfl, rfl, rfl, h.early, h.defers, h.defers', h.round, h.round'⟩
theorem Self.piece {b : Frame} {a : Act} {t t' : List Item} {cs : List Frame} {v : World} (h : Self P S G (b.at a t) cs v) : Self P S G (b.at a t') [] v := by
  obtain ⟨hp, N0, ρ, hw, hG, hf, hl⟩ := h
  exact ⟨hp, N0, ρ, hw, hG, fRel_at hf, .nil⟩
theorem tree_arrives (hC : Ctx P S G Sb) {X : Sit} (hX : Back P G Sb X) (hXa : ∀ fr cs v τ d, X fr cs v → X fr cs (at2 v τ d)) {b : Frame} {a : Act} {it : Item} {k : List Item} {cs : List Frame} {v : World} (hb : b.kind = .normal) (hf : ∃ fn, P.funcs[b.fn]? = some fn) (hi : okI P G Sb it = true)
    (h : ∀ τ d, ∃ e a' w', Leads X b k cs e a' w' ∧ Arrives P (lone (b.at a [it, mk]) [cBad] (at2 v τ d)) b [mk] [cBad] e a' w') (hs : Self P S G (b.at a (it :: k)) cs v) : X (b.at a (it :: k)) cs v := by
  let Q : Sit := fun fr cs' w => cs' = [cBad] ∧ ((∃ a', fr = b.at a' [mk] ∧ X (b.at a' k) cs w) ∨ ∃ a' todo, fr = { b.at a' todo with mode := .returning } ∧ ∀ todo, X { b.at a' todo with mode := .returning } cs w)
  have hQ : QOk Q := ⟨fun fr cs' w τ d hq => ⟨hq.1, hq.2.elim (fun ⟨a', e, hx⟩ => .inl ⟨a', e, hXa _ _ _ _ _ hx⟩) fun ⟨a', todo, e, hx⟩ => .inr ⟨a', todo, e, fun t => hXa _ _ _ _ _ (hx t)⟩⟩, fun fr cs' w hq => hq.1, fun fr cs' w c hq => by
    rcases hq.2 with ⟨a', e, _⟩ | ⟨a', todo, e, _⟩ <;> rw [e] <;> simp [Frame.at]⟩
  have hj : ∀ τ d, JI P S G Sb (b.at a [it, mk]) [cBad] (at2 v τ d) := fun τ d => ⟨[], rfl, ⟨hb, hf, fun i hi' => by
    have hi' : i ∈ [it, mk] := hi'
    simp only [List.mem_cons, List.not_mem_nil, or_false] at hi'
    rcases hi' with rfl | rfl
    · exact hi
    · rfl⟩, .inl rfl, fun f hf => (by cases hf), (hs.piece).at2 τ d⟩
  have hT : T P (JI P S G Sb) Q (b.at a [it, mk]) [cBad] v := bar (JI.kept hC) hQ.at2 (by have := hj v.tape v.drawn; exact this) fun τ d => by
    obtain ⟨e, a', w', hl, ha⟩ := h τ d
    cases e with
    | normal =>
      obtain ⟨n, hn⟩ := ha
      exact reach_of_run hC hQ n (hj τ d) hn ⟨_, _, _, rfl, rfl, .inl ⟨a', rfl, hl⟩⟩
    | ret =>
      obtain ⟨todo, n, hn⟩ := ha
      exact reach_of_run hC hQ n (hj τ d) hn ⟨_, _, _, rfl, rfl, .inr ⟨a', todo, rfl, hl⟩⟩
    | _ => exact hl.elim
  refine Tree.plug hX (E := [mk]) (K := k) (.inl rfl) (fun fr cs' w hq => ⟨hq.1, fun fp hp => ?_⟩) hT [] _ _ rfl (.base (b.at a [it, mk]) [it] rfl)
  rcases hq.2 with ⟨a', rfl, hx⟩ | ⟨a', todo, rfl, hx⟩
  · cases hp with
    | base _ pre hpre =>
      have hpre : [mk] = pre ++ [mk] := hpre
      have : pre = [] := by
        cases pre with
        | nil => rfl
        | cons y p => have := congrArg List.length hpre; simp at this
      subst this
      exact hx
    | up _ _ _ hne _ => exact absurd rfl hne
  · cases hp with
    | base _ pre hpre => exact hx (pre ++ k)
    | up _ _ _ hne _ => exact absurd rfl hne
theorem MS.wp (hC : Ctx P S G Sb) {b : Frame} {a : Act} {c : Code} {k : List Item} {cs : List Frame} {v : World} (hb : b.kind = .normal) (hf : ∃ fn, P.funcs[b.fn]? = some fn) (hc : okC P G Sb c = true)
    (h : ∀ τ d, c.wp P (Leads (MS P S G Sb F Γ ch) b k cs) a (Go.Proofs.YtlipmagkplbkdaaDoor.at2 v τ d)) : MS P S G Sb F Γ ch (b.at a (.code c :: k)) cs v := fun hs =>
  tree_arrives hC (MS.back hC) (fun _ _ _ τ d h => h.at2 τ d) hb hf (it := .code c) hc (fun τ d => h τ d b [mk] [cBad]) hs hs
theorem MS.wpOps (hC : Ctx P S G Sb) {b : Frame} {a : Act} {ops : Array Oper} {l : List Nat} {k : List Item} {cs : List Frame} {v : World} (hb : b.kind = .normal) (hf : ∃ fn, P.funcs[b.fn]? = some fn) (hc : (ops.all fun o => okOp P (okX G Sb) Sb o.op) = true)
    (h : ∀ τ d, Go.wpOps P ops (Leads (MS P S G Sb F Γ ch) b k cs) l a (Go.Proofs.YtlipmagkplbkdaaDoor.at2 v τ d)) : MS P S G Sb F Γ ch (b.at a (.inRegion ops l :: k)) cs v := fun hs =>
  tree_arrives hC (MS.back hC) (fun _ _ _ τ d h => h.at2 τ d) hb hf (it := .inRegion ops l) hc (fun τ d => wp_ops l a _ (h τ d) b [mk] [cBad]) hs hs
theorem tree_calls (hC : Ctx P S G Sb) {X : Sit} (hX : Back P G Sb X) (hXa : ∀ fr cs v τ d, X fr cs v → X fr cs (at2 v τ d)) {f : FuncId} {args : Array Value} {c : Frame} {cs : List Frame} {v : World} (hf : S f) (hc : AtCall c)
    (h : ∀ τ d, Calls P f args (at2 v τ d) fun e w => ∃ x, e = .returned x ∧ X (c.finish x) cs w) (hs : Self P S G (Frame.enter P f args .normal) (c :: cs) v) : X (Frame.enter P f args .normal) (c :: cs) v := by
  let Q : Sit := fun fr cs' w => cs' = [cBad] ∧ (fr.mode = .returning ∧ fr.defers = [] ∧ fr.kind = .normal) ∧ ∃ x, (∀ τ d, ∃ fn, P.funcs[fr.fn]? = some fn ∧ (results fn fr.tmps).run P (at2 w τ d) = .ok x (at2 w τ d)) ∧ X (c.finish x) cs w
  have hQ : QOk Q := ⟨fun fr cs' w τ d ⟨h1, h2, x, h3, h4⟩ => ⟨h1, h2, x, fun τ' d' => h3 τ' d', hXa _ _ _ _ _ h4⟩, fun fr cs' w hq => hq.1, fun fr cs' w c hq => by rw [hq.2.1.1]; simp⟩
  have hself : Self P S G (Frame.enter P f args .normal) [] v := by
    obtain ⟨hp, N0, ρ, hw, hG, hfr, hl⟩ := hs
    exact ⟨hp, N0, ρ, hw, hG, hfr, .nil⟩
  have hj : ∀ τ d, JI P S G Sb (Frame.enter P f args .normal) [cBad] (at2 v τ d) := fun τ d => ⟨[], rfl, okFr_enter hC hf args, .inl rfl, fun f hf => (by cases hf), hself.at2 τ d⟩
  have hT : T P (JI P S G Sb) Q (Frame.enter P f args .normal) [cBad] v := bar (JI.kept hC) hQ.at2 (by have := hj v.tape v.drawn; exact this) fun τ d => by
    obtain ⟨e, w', fr, ⟨x, rfl, hx⟩, hcm, hfn, hm, hd, hk, fn, hfn2, hr⟩ := h τ d [cBad]
    obtain ⟨n, hn⟩ := hcm
    have hp : Plain w' := by
      obtain ⟨fs, _, _, _, _, hs⟩ := ji_of_run hC n (hj τ d) hn (fun c h => by rw [hm] at h; cases h)
      exact hs.1
    refine reach_of_run hC hQ n (hj τ d) hn ⟨_, _, _, rfl, rfl, ⟨hm, hd, hk⟩, x, fun τ' d' => ⟨fn, hfn2, ?_⟩, hx⟩
    have hfin : Fin P (results fn fr.tmps) := by
      unfold Go.results
      refine Fin.bind (Fin.arrMapM (fun a => ?_) _) fun _ => Fin.pure _
      cases a with
      | tmp t => exact Fin.pure _
      | cell a t => exact Fin.bind (Fin.asAddr _) fun _ => Fin.loadVar _ _
    obtain ⟨_, k, h2, h3⟩ := run_shift hfin hp hr
    obtain rfl : k = 0 := by omega
    exact h3 τ' d' fun i hi => by omega
  refine Tree.plug hX (E := []) (K := []) (.inr ⟨rfl, rfl⟩) (fun fr cs' w hq => ⟨hq.1, fun fp hp => ?_⟩) hT [] _ _ rfl (.base (Frame.enter P f args .normal) _ (by rw [List.append_nil]) : Plug [] [] (c :: cs) [Frame.enter P f args .normal] _)
  obtain ⟨_, ⟨hm, hd, hk⟩, x, hr, hx⟩ := hq
  cases hp with
  | up _ _ _ hne _ => exact absurd rfl hne
  | base _ pre hpre =>
    rw [List.append_nil] at hpre
    obtain ⟨hcm, ops, i, r, k, hct⟩ := hc
    have hst : ∀ τ d, (stepS P { fr with todo := pre ++ [] } (c :: cs)).run P (at2 w τ d) = .ok (c.finish x, cs) (at2 w τ d) := fun τ d => by
      obtain ⟨fn, hfn, hr⟩ := hr τ d
      exact stepS_ret hm hk hfn hct hr
    refine hX _ _ _ ?_ (fun τ d => ⟨_, _, hst τ d⟩) fun τ d y w' hy => ?_
    · unfold okHead
      simp only [hm]
    · rw [hst] at hy
      injection hy with e1 e2
      subst e1 e2
      exact hXa _ _ _ _ _ hx
end
end Go.Proofs.YtlipmagkplbkdaaDoor

/-! Ew -/
namespace Go.Proofs.YtlipmagkplbkdaaDoor
open Go Go.Conc
set_option linter.unusedVariables false
set_option linter.unusedSimpArgs false
section
variable {P : Program} {S : FuncId → Prop} {G Sb : Nat → Bool} {N0 : Nat} {ρ : Ren} {v w w' : World}
theorem WRel.others (h : WRel P S N0 ρ v w) (hsz : w.heap.size ≤ w'.heap.size) (hk : ∀ b c, ρ b c → w'.heap[c]? = w.heap[c]?) : WRel P S N0 ρ (at2 v w'.tape w'.drawn) w' where
  inj := h.inj
  func := h.func
  dom b c hbc := ⟨(h.dom b c hbc).1, Nat.lt_of_lt_of_le (h.dom b c hbc).2 hsz⟩
  cell b c hbc := by rw [hk b c hbc]; exact h.cell b c hbc
  tape := rfl
  drawn := rfl
  low := h.low
  glob := h.glob
  lowW := Nat.le_trans h.lowW hsz
  same := h.same
theorem WRel.at' (h : WRel P S N0 ρ v w) (τ : Nat → Question → Nat) (d : Nat) : WRel P S N0 ρ (at2 v τ d) (at2 w τ d) := ⟨h.inj, h.func, h.dom, h.cell, rfl, rfl, h.low, h.glob, h.lowW, h.same⟩
theorem shutO_plain {o : Obj} (h : plainO o = true) : plainO (shutO o) = true := by cases o <;> first | rfl | exact h
theorem Plain.shut {v : World} (h : Plain v) : Plain (shut v) := fun b o ho => by
  have ho : (v.heap.map shutO)[b]? = some o := ho
  rw [Array.getElem?_map] at ho
  obtain ⟨o', h1, rfl⟩ := Option.map_eq_some_iff.1 ho
  exact shutO_plain (h b o' h1)
theorem WRel.shut (h : WRel P S N0 ρ v w) : WRel P S v.heap.size ρ (shut v) w where
  inj := h.inj
  func := h.func
  dom b c hbc := by
    have := h.dom b c hbc
    refine ⟨?_, this.2⟩
    show b < (v.heap.map shutO).size
    simpa using this.1
  cell b c hbc := by
    have hb := (h.dom b c hbc).1
    have e : ∀ o, v.heap[b]? = some o → (Go.Proofs.YtlipmagkplbkdaaDoor.shut v).heap[b]? = some (shutO o) := fun o ho => by
      show (v.heap.map shutO)[b]? = _
      rw [Array.getElem?_map, ho]; rfl
    rcases h.cell b c hbc with ⟨cs, ds, t, fr, fr', h1, h2, h3, h4, h5⟩ | ⟨x, y, l, h1, h2, h3⟩ | ⟨o, o', s, p, h1, h2, h3, h4⟩
    · exact .inl ⟨cs, ds, t, _, fr', e _ h1, h2, h3, fun hn => absurd hb (Nat.not_lt.2 hn), fun _ off ho => ⟨Nat.zero_le _, ho⟩⟩
    · exact .inr (.inl ⟨x, y, l, e _ h1, h2, h3⟩)
    · refine .inr (.inr ⟨_, o', s, p, e _ h1, h2, h3, .inl ?_⟩)
      rcases h4 with rfl | ⟨rfl, _⟩ <;> rfl
  tape := h.tape
  drawn := h.drawn
  low := by show v.heap.size ≤ (v.heap.map shutO).size; simp
  glob := Nat.le_trans h.glob h.low
  lowW := h.lowW
  same := h.same
def selfR (ρ : Ren) : Ren := fun b c => b = c ∧ ∃ d, ρ b d
theorem VRel.self {x y : Value} (h : VRel S ρ x y) : VRel S (selfR ρ) x x := by
  induction h with
  | bool b => exact .bool b
  | int k n => exact .int k n
  | string s => exact .string s
  | nilp => exact .nilp
  | ptr b c off sp h => exact .ptr b b off sp ⟨rfl, c, h⟩
  | nils n k => exact .nils n k
  | sl b c off sp n k h => exact .sl b b off sp n k ⟨rfl, c, h⟩
  | sl0 a => exact .sl0 a
  | chan r => exact .chan r
  | nilMap => exact .nilMap
  | nilFunc y h => exact .nilFunc _ rfl
  | iface t x y _ ih => exact .iface t x x ih
  | nilIface => exact .nilIface
  | func f as bs cs ds h0 h1 h2 h3 h4 ih1 ih2 => exact .func f as as cs cs h0 rfl (fun i h _ => ih1 i h (by rw [← h1]; exact h)) rfl (fun i h _ => ih2 i h (by rw [← h3]; exact h))
  | agg as bs h1 _ ih => exact .agg as as rfl fun i h _ => ih i h (by rw [← h1]; exact h)
  | tuple as bs h1 _ ih => exact .tuple as as rfl fun i h _ => ih i h (by rw [← h1]; exact h)
theorem AsRel.self {as bs : Array Value} (h : AsRel S ρ as bs) : AsRel S (selfR ρ) as as := ⟨rfl, fun i h1 _ => (h.2 i h1 (by rw [← h.1]; exact h1)).self⟩
theorem WRel.self (h : WRel P S N0 ρ v w) : WRel P S N0 (selfR ρ) v v where
  inj b b' c h1 h2 := h1.1.trans h2.1.symm
  func b c c' h1 h2 := h1.1.symm.trans h2.1
  dom b c hbc := by obtain ⟨rfl, d, hd⟩ := hbc; exact ⟨(h.dom b d hd).1, (h.dom b d hd).1⟩
  cell b c hbc := by
    obtain ⟨rfl, d, hd⟩ := hbc
    rcases h.cell b d hd with ⟨cs, ds, t, fr, fr', h1, h2, h3, h4, h5⟩ | ⟨x, y, l, h1, h2, h3⟩ | ⟨o, o', s, p, h1, h2, h3, h4⟩
    · exact .inl ⟨cs, cs, t, fr, fr, h1, h1, h3.self, fun _ => rfl, h5⟩
    · exact .inr (.inl ⟨x, x, l, h1, h1, ⟨rfl, y.block, h3.1⟩, rfl, rfl⟩)
    · rcases h4 with rfl | ⟨rfl, _, h5⟩
      · exact .inr (.inr ⟨_, _, s, p, h1, h1, .inr rfl, .inl rfl⟩)
      · exact .inr (.inr ⟨_, _, s, p, h1, h1, .inl rfl, .inr ⟨rfl, rfl, h5⟩⟩)
  tape := rfl
  drawn := rfl
  low := h.low
  glob := h.glob
  lowW := Nat.le_trans h.glob h.low
  same b c hbc _ := hbc.1.symm
theorem FRel.self {f f' : Frame} (h : FRel S ρ f f') : FRel S (selfR ρ) f f := ⟨rfl, h.tmps.self, rfl, rfl, rfl, h.early, h.defers, h.defers, h.round, h.round⟩
theorem FsRel.self {l l' : List Frame} (h : FsRel S ρ l l') : FsRel S (selfR ρ) l l := by
  induction h with
  | nil => exact .nil
  | cons h _ ih => exact .cons h.self ih
theorem GlOk.self (h : GlOk G ρ) : GlOk G (selfR ρ) := fun g hg => ⟨rfl, g, h g hg⟩
theorem Self.of {fr fr' : Frame} {cs cs' : List Frame} (hp : Plain v) (hw : WRel P S N0 ρ v w) (hG : GlOk G ρ) (hf : FRel S ρ fr fr') (hl : FsRel S ρ cs cs') : Self P S G fr cs v := ⟨hp, N0, selfR ρ, hw.self, hG.self, hf.self, hl.self⟩
theorem view_keep (hC : Ctx P S G Sb) {fr fr' : Frame} {cs cs' : List Frame} (ho : okHead P G Sb fr) (hw : WRel P S N0 ρ v w) (hG : GlOk G ρ) (hf : FRel S ρ fr fr') (hl : FsRel S ρ cs cs') {x : Frame × List Frame} {v' : World} (hr : (stepS P fr cs).run P v = .ok x v') :
    ∀ b, b < N0 → v'.heap[b]? = v.heap[b]? := fun b hb => by
  obtain ⟨ρ₂, y, w', evs, h1, h2, h3, h4, h5⟩ := Sim.stepS hC.zero (hC.fn N0) hG.self hC.sb ho hf.self hl.self (selfR ρ) v v (Ext.refl _) hw.self x v' hr
  have := congrArg Prod.fst (h2 #[])
  rw [Sem.runT_eq] at this
  rw [show (stepS P fr cs).run P v = .ok y w' from this] at hr
  injection hr with e1 e2
  subst e1 e2
  exact h5.keep b (Nat.lt_of_lt_of_le hb hw.low) fun b' hb' hbb => by have := hbb.1; omega
theorem arr_choose {n : Nat} {R : Nat → Value → Prop} (h : ∀ i, i < n → ∃ y, R i y) : ∃ cs : Array Value, cs.size = n ∧ ∀ (i : Nat) (hi : i < cs.size), R i cs[i] := by
  classical
  refine ⟨Array.ofFn fun i : _root_.Fin n => Classical.choose (h i.1 i.2), by simp, fun i hi => ?_⟩
  have hi' : i < n := by simpa using hi
  have := Classical.choose_spec (h i hi')
  simpa using this
theorem VRel.inter {σ τ : Ren} (hst : ∀ b c, ρ b c → ∃ m, σ b m ∧ τ m c) {x y : Value} (h : VRel S ρ x y) : ∃ z, VRel S σ x z ∧ VRel S τ z y := by
  induction h with
  | bool b => exact ⟨_, .bool b, .bool b⟩
  | int k n => exact ⟨_, .int k n, .int k n⟩
  | string s => exact ⟨_, .string s, .string s⟩
  | nilp => exact ⟨_, .nilp, .nilp⟩
  | ptr b c off sp h => obtain ⟨m, h1, h2⟩ := hst b c h; exact ⟨_, .ptr b m off sp h1, .ptr m c off sp h2⟩
  | nils n k => exact ⟨_, .nils n k, .nils n k⟩
  | sl b c off sp n k h => obtain ⟨m, h1, h2⟩ := hst b c h; exact ⟨_, .sl b m off sp n k h1, .sl m c off sp n k h2⟩
  | sl0 a => exact ⟨_, .sl0 a, .sl0 a⟩
  | chan r => exact ⟨_, .chan r, .chan r⟩
  | nilMap => exact ⟨_, .nilMap, .nilMap⟩
  | nilFunc y h => exact ⟨_, .nilFunc .nilFunc rfl, .nilFunc y h⟩
  | iface t x y _ ih => obtain ⟨z, h1, h2⟩ := ih; exact ⟨_, .iface t x z h1, .iface t z y h2⟩
  | nilIface => exact ⟨_, .nilIface, .nilIface⟩
  | func f as bs cs ds h0 h1 _ h3 _ ih1 ih2 =>
    obtain ⟨zs, hz, hz2⟩ := arr_choose (n := as.size) (R := fun i z => ∀ (h : i < as.size) (h' : i < bs.size), VRel S σ as[i] z ∧ VRel S τ z bs[i]) fun i hi => by
      obtain ⟨z, k1, k2⟩ := ih1 i hi (by rw [← h1]; exact hi)
      exact ⟨z, fun _ _ => ⟨k1, k2⟩⟩
    obtain ⟨us, hu, hu2⟩ := arr_choose (n := cs.size) (R := fun i z => ∀ (h : i < cs.size) (h' : i < ds.size), VRel S σ cs[i] z ∧ VRel S τ z ds[i]) fun i hi => by
      obtain ⟨z, k1, k2⟩ := ih2 i hi (by rw [← h3]; exact hi)
      exact ⟨z, fun _ _ => ⟨k1, k2⟩⟩
    exact ⟨.func (.func f) zs us, .func f as zs cs us h0 hz.symm (fun i a b => (hz2 i b a (by rw [← h1]; exact a)).1) hu.symm (fun i a b => (hu2 i b a (by rw [← h3]; exact a)).1),
      .func f zs bs us ds h0 (hz.trans h1) (fun i a b => (hz2 i a (by rw [← hz]; exact a) b).2) (hu.trans h3) (fun i a b => (hu2 i a (by rw [← hu]; exact a) b).2)⟩
  | agg as bs h1 _ ih =>
    obtain ⟨zs, hz, hz2⟩ := arr_choose (n := as.size) (R := fun i z => ∀ (h : i < as.size) (h' : i < bs.size), VRel S σ as[i] z ∧ VRel S τ z bs[i]) fun i hi => by
      obtain ⟨z, k1, k2⟩ := ih i hi (by rw [← h1]; exact hi)
      exact ⟨z, fun _ _ => ⟨k1, k2⟩⟩
    exact ⟨.agg zs, .agg as zs hz.symm (fun i a b => (hz2 i b a (by rw [← h1]; exact a)).1), .agg zs bs (hz.trans h1) (fun i a b => (hz2 i a (by rw [← hz]; exact a) b).2)⟩
  | tuple as bs h1 _ ih =>
    obtain ⟨zs, hz, hz2⟩ := arr_choose (n := as.size) (R := fun i z => ∀ (h : i < as.size) (h' : i < bs.size), VRel S σ as[i] z ∧ VRel S τ z bs[i]) fun i hi => by
      obtain ⟨z, k1, k2⟩ := ih i hi (by rw [← h1]; exact hi)
      exact ⟨z, fun _ _ => ⟨k1, k2⟩⟩
    exact ⟨.tuple zs, .tuple as zs hz.symm (fun i a b => (hz2 i b a (by rw [← h1]; exact a)).1), .tuple zs bs (hz.trans h1) (fun i a b => (hz2 i a (by rw [← hz]; exact a) b).2)⟩
theorem AsRel.inter {σ τ : Ren} (hst : ∀ b c, ρ b c → ∃ m, σ b m ∧ τ m c) {as bs : Array Value} (h : AsRel S ρ as bs) : ∃ zs, AsRel S σ as zs ∧ AsRel S τ zs bs := by
  obtain ⟨z, h1, h2⟩ := (VRel.agg as bs h.1 h.2).inter hst
  cases h1 with
  | agg _ zs k1 k2 =>
    cases h2 with
    | agg _ _ k3 k4 => exact ⟨zs, ⟨k1, k2⟩, ⟨k3, k4⟩⟩
theorem VRel.both {ρ' σ : Ren} (hb : ∀ b c, ρ b c → ρ' b c → σ b b) {x y : Value} (h : VRel S ρ x y) : VRel S ρ' x y → VRel S σ x x := by
  induction h with
  | bool b => exact fun _ => .bool b
  | int k n => exact fun _ => .int k n
  | string s => exact fun _ => .string s
  | nilp => exact fun _ => .nilp
  | ptr b c off sp h => intro h'; cases h' with | ptr _ _ _ _ h2 => exact .ptr b b off sp (hb b c h h2)
  | nils n k => exact fun _ => .nils n k
  | sl b c off sp n k h =>
    intro h'
    cases h' with
    | sl _ _ _ _ _ _ h2 => exact .sl b b off sp n k (hb b c h h2)
    | sl0 => exact .sl0 _
  | sl0 a => exact fun _ => .sl0 a
  | chan r => exact fun _ => .chan r
  | nilMap => exact fun _ => .nilMap
  | nilFunc y h => exact fun _ => .nilFunc _ rfl
  | iface t x y _ ih => intro h'; cases h' with | iface _ _ _ h2 => exact .iface t x x (ih h2)
  | nilIface => exact fun _ => .nilIface
  | func f as bs cs ds h0 h1 h2 h3 h4 ih1 ih2 =>
    intro h'
    cases h' with
    | func _ _ _ _ _ k0 k1 k2 k3 k4 => exact .func f as as cs cs h0 rfl (fun i a _ => ih1 i a (by rw [← h1]; exact a) (k2 i a _)) rfl (fun i a _ => ih2 i a (by rw [← h3]; exact a) (k4 i a _))
  | agg as bs h1 _ ih => intro h'; cases h' with | agg _ _ k1 k2 => exact .agg as as rfl fun i a _ => ih i a (by rw [← h1]; exact a) (k2 i a _)
  | tuple as bs h1 _ ih => intro h'; cases h' with | tuple _ _ k1 k2 => exact .tuple as as rfl fun i a _ => ih i a (by rw [← h1]; exact a) (k2 i a _)
end
end Go.Proofs.YtlipmagkplbkdaaDoor

/-! Ex -/
namespace Go.Proofs.YtlipmagkplbkdaaDoor
open Go Go.Conc
set_option linter.unusedVariables false
set_option linter.unusedSimpArgs false
section
variable {P : Program} {S : FuncId → Prop} {N0 Nj : Nat} {ρ ρj : Ren} {v vj w : World}
def moved (Nj n : Nat) (b : Nat) : Nat := if b < Nj then b else b - Nj + n
def sigma (ρj : Ren) (Nj n : Nat) : Ren := fun b m => m = moved Nj n b ∧ ∃ c, ρj b c
def tau (ρ ρj : Ren) (Nj n : Nat) : Ren := fun m c => ρ m c ∨ ∃ b, Nj ≤ b ∧ ρj b c ∧ m = b - Nj + n
theorem take_over (h0 : WRel P S N0 ρ v w) (hj : WRel P S Nj ρj vj w) (hp0 : Plain v) (hpj : Plain vj) (hN : Nj ≤ v.heap.size) (hsh : ∀ b c, b < Nj → ρj b c → ρ b c) (hap : ∀ b c, Nj ≤ b → ρj b c → ∀ b', ¬ ρ b' c) (hsame : ∀ b, b < Nj → vj.heap[b]? = v.heap[b]?) (hcl : ∀ b o, b < Nj → v.heap[b]? = some o → shutO o = o)
    {Q : Post} (hQ : InvQ S Q) {x y : Value} (hxy : VRel S ρj x y) (hq : Q x vj) :
    ∃ v' ρ' x', Grow v v' ∧ Q x' (hide v v') ∧ VRel S ρ' x' y ∧ Ext ρ ρ' ∧ WRel P S N0 ρ' v' w ∧ Plain v' ∧ (∀ b c, ρ' b c → ¬ ρ b c → v.heap.size ≤ b ∧ ∃ b1, Nj ≤ b1 ∧ ρj b1 c) := by
  classical
  have hst : ∀ b c, ρj b c → ∃ m, sigma ρj Nj v.heap.size b m ∧ tau ρ ρj Nj v.heap.size m c := fun b c h => by
    refine ⟨moved Nj v.heap.size b, ⟨rfl, c, h⟩, ?_⟩
    unfold moved
    split
    · exact .inl (hsh b c ‹_› h)
    · exact .inr ⟨b, by omega, h, rfl⟩
  -- the objects that are new
  have ob : ∀ n, ∃ o, plainO o = true ∧ ∀ c, ρj (Nj + n) c →
      ((∃ cs zs ds t fr fr', vj.heap[Nj + n]? = some (.cells cs t fr) ∧ o = .cells zs t fr ∧ w.heap[c]? = some (.cells ds t fr') ∧ AsRel S (sigma ρj Nj v.heap.size) cs zs ∧ AsRel S (tau ρ ρj Nj v.heap.size) zs ds ∧ fr' = fr) ∨
       (∃ x z y l, vj.heap[Nj + n]? = some (.number x l) ∧ o = .number z l ∧ w.heap[c]? = some (.number y l) ∧ AdR (tau ρ ρj Nj v.heap.size) z y) ∨
       (∃ o' s p, vj.heap[Nj + n]? = some o ∧ w.heap[c]? = some o' ∧ (o' = .stringIter s p ∨ o' = .coro none) ∧ (o = .coro none ∨ (o = .stringIter s p ∧ o' = .stringIter s p)))) := fun n => by
    by_cases hc : ∃ c, ρj (Nj + n) c
    · obtain ⟨c, hc⟩ := hc
      have uniq : ∀ c', ρj (Nj + n) c' → c' = c := fun c' h' => hj.func _ _ _ h' hc
      rcases hj.cell _ _ hc with ⟨cs, ds, t, fr, fr', h1, h2, h3, h4, _⟩ | ⟨a, b, l, h1, h2, h3⟩ | ⟨o, o', s, p, h1, h2, h3, h4⟩
      · obtain ⟨zs, k1, k2⟩ := h3.inter hst
        exact ⟨.cells zs t fr, rfl, fun c' h' => by rw [uniq c' h']; exact .inl ⟨cs, zs, ds, t, fr, fr', h1, rfl, h2, k1, k2, h4 (by omega)⟩⟩
      · obtain ⟨m, k1, k2⟩ := hst _ _ h3.1
        exact ⟨.number ⟨m, a.off, a.spot⟩ l, rfl, fun c' h' => by rw [uniq c' h']; exact .inr (.inl ⟨a, _, b, l, h1, rfl, h2, k2, h3.2.1, h3.2.2⟩)⟩
      · refine ⟨o, hpj _ _ h1, fun c' h' => by rw [uniq c' h']; exact .inr (.inr ⟨o', s, p, h1, h2, h3, h4.elim .inl fun h => .inr ⟨h.1, h.2.1⟩⟩)⟩
    · exact ⟨.coro none, rfl, fun c h => absurd ⟨c, h⟩ hc⟩
  obtain ⟨obj, hobj⟩ := Classical.axiomOfChoice ob
  let k := vj.heap.size - Nj
  let v' : World := { v with heap := v.heap ++ Array.ofFn fun i : _root_.Fin k => obj i.1 }
  have hlow := hj.low
  have hsz : v'.heap.size = v.heap.size + k := by simp [v']
  have old : ∀ b, b < v.heap.size → v'.heap[b]? = v.heap[b]? := fun b hb => by
    show (v.heap ++ _)[b]? = _
    rw [Array.getElem?_append, if_pos hb]
  have new : ∀ n, n < k → v'.heap[v.heap.size + n]? = some (obj n) := fun n hn => by
    show (v.heap ++ _)[v.heap.size + n]? = _
    rw [Array.getElem?_append, if_neg (by omega)]
    simp [show v.heap.size + n - v.heap.size = n by omega, hn]
  have dj : ∀ b c, ρj b c → b < vj.heap.size := fun b c h => (hj.dom b c h).1
  have newt : ∀ b c, Nj ≤ b → ρj b c → v'.heap[b - Nj + v.heap.size]? = some (obj (b - Nj)) := fun b c hb h => by
    have := dj b c h
    rw [Nat.add_comm (b - Nj)]
    exact new _ (by show b - Nj < vj.heap.size - Nj; omega)
  have hx' := hxy.inter hst
  obtain ⟨x', hx1, hx2⟩ := hx'
  have hext : Ext ρ (tau ρ ρj Nj v.heap.size) := fun b c h => .inl h
  have hgrow : Grow v v' := ⟨by omega, old, rfl, rfl⟩
  have hW : WRel P S N0 (tau ρ ρj Nj v.heap.size) v' w := by
    refine ⟨?_, ?_, ?_, ?_, h0.tape, h0.drawn, Nat.le_trans h0.low (by omega), h0.glob, h0.lowW, ?_⟩
    · rintro b b' c (h | ⟨b1, h1, h2, rfl⟩) (h' | ⟨b2, h3, h4, rfl⟩)
      · exact h0.inj _ _ _ h h'
      · exact absurd h (hap _ _ h3 h4 _)
      · exact absurd h' (hap _ _ h1 h2 _)
      · rw [hj.inj _ _ _ h2 h4]
    · rintro b c c' (h | ⟨b1, h1, h2, rfl⟩) (h' | ⟨b2, h3, h4, e⟩)
      · exact h0.func _ _ _ h h'
      · have := (h0.dom _ _ h).1; omega
      · have := (h0.dom _ _ h').1; omega
      · obtain rfl : b1 = b2 := by omega
        exact hj.func _ _ _ h2 h4
    · rintro b c (h | ⟨b1, h1, h2, rfl⟩)
      · have := h0.dom _ _ h; omega
      · have := hj.dom _ _ h2
        refine ⟨?_, this.2⟩
        rw [hsz]
        show b1 - Nj + v.heap.size < v.heap.size + (vj.heap.size - Nj)
        omega
    · rintro b c (h | ⟨b1, h1, h2, rfl⟩)
      · rw [old b (h0.dom _ _ h).1]
        rcases h0.cell b c h with ⟨cs, ds, t, fr, fr', k1, k2, k3, k4⟩ | ⟨x, y, l, k1, k2, k3⟩ | h
        · exact .inl ⟨cs, ds, t, fr, fr', k1, k2, k3.mono hext, k4⟩
        · exact .inr (.inl ⟨x, y, l, k1, k2, k3.mono hext⟩)
        · exact .inr (.inr h)
      · rw [newt b1 c h1 h2]
        have := h0.low
        rcases (hobj (b1 - Nj)).2 c (by rw [show Nj + (b1 - Nj) = b1 by omega]; exact h2) with ⟨cs, zs, ds, t, fr, fr', k1, k2, k3, k4, k5, k6⟩ | ⟨x, z, y, l, k1, k2, k3, k4⟩ | ⟨o', s, p, k1, k2, k3, k4⟩
        · exact .inl ⟨zs, ds, t, fr, fr', by rw [k2], k3, k5, fun _ => k6, fun hlt => by omega⟩
        · exact .inr (.inl ⟨z, y, l, by rw [k2], k3, k4⟩)
        · exact .inr (.inr ⟨_, o', s, p, rfl, k2, k3, k4.elim .inl fun h => .inr ⟨h.1, h.2, by omega⟩⟩)
    · have := h0.low
      have hg := h0.glob
      have hgj := hj.glob
      rintro b c (h | ⟨b1, h1, h2, rfl⟩) hlt
      · exact h0.same _ _ h hlt
      · rcases hlt with hlt | hlt
        · omega
        · have := hj.same _ _ h2 (.inr hlt)
          omega
  have hH : HRel S (sigma ρj Nj v.heap.size) vj v' := by
    refine ⟨?_, ?_, ?_⟩
    · rintro b m ⟨rfl, c, hc⟩ off u hu
      by_cases hb : b < Nj
      · have hm : moved Nj v.heap.size b = b := by unfold moved; rw [if_pos hb]
        rw [hm]
        have hv : v.cell? ⟨b, off, none⟩ = some u := by
          unfold World.cell? at hu ⊢
          rw [← hsame b hb]; exact hu
        obtain ⟨d, hd1, hd2⟩ := h0.cell? (a := ⟨b, off, none⟩) (b := ⟨c, off, none⟩) ⟨hsh b c hb hc, rfl, rfl⟩ hv
        obtain ⟨d', hd3, hd4⟩ := hj.cell? (a := ⟨b, off, none⟩) (b := ⟨c, off, none⟩) ⟨hc, rfl, rfl⟩ hu
        rw [hd1] at hd3
        injection hd3 with e
        subst e
        refine ⟨u, ?_, hd4.both (ρ' := ρ) (fun b2 c2 k1 k2 => ?_) hd2⟩
        · unfold World.cell? at hv ⊢
          rw [old b (by omega)]; exact hv
        · refine ⟨?_, c2, k1⟩
          unfold moved
          rw [if_pos]
          exact Nat.lt_of_not_le fun hle => hap _ _ hle k1 _ k2
      · have hm : moved Nj v.heap.size b = b - Nj + v.heap.size := by unfold moved; rw [if_neg hb]
        rw [hm]
        have hn := newt b c (by omega) hc
        rcases (hobj (b - Nj)).2 c (by rw [show Nj + (b - Nj) = b by omega]; exact hc) with ⟨cs, zs, ds, t, fr, fr', k1, k2, k3, k4, k5, k6⟩ | ⟨x, z, y, l, k1, k2, k3, k4⟩ | ⟨o', s, p, k1, k2, k3, k4⟩
        · rw [show Nj + (b - Nj) = b by omega] at k1
          rw [k2] at hn
          unfold World.cell? at hu ⊢
          rw [k1] at hu
          rw [hn]
          exact k4.get hu
        · rw [show Nj + (b - Nj) = b by omega] at k1
          unfold World.cell? at hu
          rw [k1] at hu
          cases hu
        · rw [show Nj + (b - Nj) = b by omega] at k1
          unfold World.cell? at hu
          rw [k1] at hu
          rcases k4 with e | ⟨e, _⟩ <;> rw [e] at hu <;> cases hu
    · rintro b m ⟨rfl, c, hc⟩ off hz
      by_cases hb : b < Nj
      · have hm : moved Nj v.heap.size b = b := by unfold moved; rw [if_pos hb]
        rw [hm] at hz
        unfold World.frozen? at hz ⊢
        rw [hsame b hb, ← old b (by omega)]; exact hz
      · have hm : moved Nj v.heap.size b = b - Nj + v.heap.size := by unfold moved; rw [if_neg hb]
        rw [hm] at hz
        have hn := newt b c (by omega) hc
        rcases (hobj (b - Nj)).2 c (by rw [show Nj + (b - Nj) = b by omega]; exact hc) with ⟨cs, zs, ds, t, fr, fr', k1, k2, k3, k4, k5, k6⟩ | ⟨x, z, y, l, k1, k2, k3, k4⟩ | ⟨o', s, p, k1, k2, k3, k4⟩
        · rw [show Nj + (b - Nj) = b by omega] at k1
          rw [k2] at hn
          unfold World.frozen? at hz ⊢
          rw [hn] at hz
          rw [k1]
          exact hz
        · rw [k2] at hn
          unfold World.frozen? at hz
          rw [hn] at hz
          cases hz
        · unfold World.frozen? at hz
          rw [hn] at hz
          rcases k4 with e | ⟨e, _⟩ <;> rw [e] at hz <;> cases hz
    · rintro b m ⟨rfl, c, hc⟩
      have := dj b c hc
      rw [hsz]
      unfold moved
      show _ < v.heap.size + (vj.heap.size - Nj)
      split <;> omega
  have hsg : ∀ b m, sigma ρj Nj v.heap.size b m → (hide v v').heap[m]? = v'.heap[m]? := fun b m ⟨e, _⟩ => by
    subst e
    unfold moved
    split
    · rename_i hb
      refine hide_get (.inr fun o ho => hcl b o hb ?_)
      rw [← old b (by omega)]; exact ho
    · exact hide_get (.inl (by omega))
  have hH' : HRel S (sigma ρj Nj v.heap.size) vj (hide v v') := ⟨fun b m hs off u hu => by
    obtain ⟨u', h1, h2⟩ := hH.cell b m hs off u hu
    exact ⟨u', (World.cell?_of_block (a := ⟨m, off, none⟩) (hsg b m hs)).trans h1, h2⟩, fun b m hs off hz => hH.frozen b m hs off (by rw [← World.frozen?_of_block (a := ⟨m, off, none⟩) (hsg b m hs)]; exact hz), fun b m hs => by rw [hide_size]; exact hH.dom b m hs⟩
  refine ⟨v', _, x', hgrow, hQ.turn _ _ _ _ _ hH' hx1 hq, hx2, hext, hW, fun b o ho => ?_, ?_⟩
  · by_cases hb : b < v.heap.size
    · rw [old b hb] at ho; exact hp0 b o ho
    · have hb2 := (Array.getElem?_eq_some_iff.1 ho).1
      rw [hsz] at hb2
      have hn := new (b - v.heap.size) (by omega)
      rw [show v.heap.size + (b - v.heap.size) = b by omega, ho] at hn
      injection hn with hn
      rw [hn]
      exact (hobj _).1
  · rintro b c (h | ⟨b1, h1, h2, rfl⟩) hn
    · exact absurd h hn
    · exact ⟨by omega, b1, h1, h2⟩
end
end Go.Proofs.YtlipmagkplbkdaaDoor

/-! E1 -/
namespace Go.Proofs.YtlipmagkplbkdaaDoor
open Go Go.Conc
set_option linter.unusedVariables false
set_option linter.unusedSimpArgs false
def blkL : Loc → Option Nat
  | .cell a => some a.block
  | .obj r => some r
  | _ => none
structure SepT (Act : Nat → Prop) (rng own : Nat → Nat → Prop) (B : Nat) : Prop where
  pos : ∀ j, Act j → 0 < j
  sub : ∀ j c, own j c → rng j c
  apart : ∀ j k c, (j = 0 ∨ Act j) → (k = 0 ∨ Act k) → j ≠ k → own j c → ¬ rng k c
  low : ∀ j c, (j = 0 ∨ Act j) → rng j c → c < B
structure Tr (Act : Nat → Prop) (pos : Nat → Option Nat) (rng own : Nat → Nat → Prop) (B : Nat) (t : Trace) : Prop where
  word : Wordless t
  low : ∀ op ∈ t, op.act.low B
  calm : ∀ said, ¬ Race said t
  main : ∀ i a c, touchAt t i = some a → blkL a.loc = some c → Knows t 0 i ∨ ∃ j op, t[i]? = some op ∧ op.g = j ∧ Act j ∧ rng j c ∧ (a.write = true → own j c) ∧ ∀ s, pos j = some s → i < s
  work : ∀ j, Act j → pos j = none → ∀ i a c, touchAt t i = some a → blkL a.loc = some c → rng j c → (a.write = true ∨ own j c) → Knows t j i
def OpC (rng own : Nat → Prop) (B : Nat) (x : MemAct) : Prop :=
  x.low B ∧ (∀ m, x = .mark m → Neutral m) ∧ ∀ a, x.touch? = some a → ∃ c, blkL a.loc = some c ∧ rng c ∧ (a.write = true → own c)
theorem touch_low {x : MemAct} {B : Nat} {a : Touch} {c : Nat} (h : x.low B) (ht : x.touch? = some a) (hc : blkL a.loc = some c) : c < B := by
  cases x with
  | access e =>
    simp only [MemAct.touch?, Option.some.injEq] at ht
    subst ht
    have h : e.loc.low B := h
    simp only at hc
    cases he : e.loc <;> rw [he] at hc h <;> simp [blkL] at hc <;> subst hc <;> exact h
  | mark m =>
    cases m <;> simp only [MemAct.touch?, Option.some.injEq, reduceCtorEq] at ht
    all_goals
      subst ht
      simp only [blkL, Option.some.injEq] at hc
      subst hc
      exact h
  | _ => cases ht
theorem conflict_blk {said : Bool} {a b : Touch} (h : a.conflicts said b) : ∃ c, blkL a.loc = some c ∧ blkL b.loc = some c ∧ (a.write = true ∨ b.write = true) := by
  obtain ⟨h1, h2, h3, _⟩ := h
  rw [← h1]
  cases he : a.loc <;> rw [he] at h2 <;> first | exact ⟨_, rfl, rfl, h3⟩ | cases h2
section
variable {Act : Nat → Prop} {pos : Nat → Option Nat} {rng own : Nat → Nat → Prop} {B : Nat} {t : Trace}
theorem touch_in {u : Trace} {i : Nat} {a : Touch} (h : touchAt (t ++ u) i = some a) : (touchAt t i = some a ∧ i < t.size) ∨ ∃ op, (t ++ u)[i]? = some op ∧ op ∈ u ∧ op.act.touch? = some a := by
  obtain ⟨op, hop, hx⟩ := touch_of h
  rcases getElem?_append_cases hop with ⟨hi, hop'⟩ | ⟨_, hu⟩
  · exact .inl ⟨by rw [touchAt_of hop']; exact hx, hi⟩
  · exact .inr ⟨op, hop, hu, hx⟩
theorem Tr.below (h : Tr Act pos rng own B t) {i : Nat} {a : Touch} {c : Nat} (ha : touchAt t i = some a) (hc : blkL a.loc = some c) : c < B := by
  obtain ⟨op, hop, hx⟩ := touch_of ha
  exact touch_low (h.low op (mem_of_getElem? hop)) hx hc
theorem Tr.step (h : Tr Act pos rng own B t) (hs : SepT Act rng own B) {g : Nat} (hg : g = 0 ∨ (Act g ∧ pos g = none)) {rng' own' : Nat → Nat → Prop} {B' : Nat} (hB : B ≤ B')
    (ho : ∀ k, k ≠ g → ∀ c, (rng' k c ↔ rng k c) ∧ (own' k c ↔ own k c)) (hr : ∀ c, (rng g c → rng' g c) ∧ (rng' g c → rng g c ∨ B ≤ c)) (hw : ∀ c, (own g c → own' g c) ∧ (own' g c → own g c ∨ B ≤ c))
    {u : Trace} (hu : ∀ op ∈ u, op.g = g ∧ OpC (rng' g) (own' g) B' op.act) : Tr Act pos rng' own' B' (t ++ u) := by
  have hg' : g = 0 ∨ Act g := hg.imp id And.left
  refine ⟨h.word.append fun op hop m hm => (hu op hop).2.2.1 m hm, seen_app (fun op hop => MemAct.low_mono hB (h.low op hop)) fun op hop => (hu op hop).2.1, fun said => noRace_append (h.calm said) (fun op hop => (hu op hop).1) fun i a ha op hop b hb hc => ?_, fun i a c ha hc => ?_, fun j hj hp i a c ha hc hrc hwo => ?_⟩
  · obtain ⟨c, h1, h2, h3⟩ := conflict_blk hc
    have hlt := h.below ha h1
    obtain ⟨c', h4, h5, h6⟩ := (hu op hop).2.2.2 b hb
    rw [h2] at h4
    injection h4 with h4
    subst h4
    have hrg : rng g c := ((hr c).2 h5).resolve_right (by omega)
    have hog : b.write = true → own g c := fun hbw => ((hw c).2 (h6 hbw)).resolve_right (by omega)
    rcases hg with rfl | ⟨hA, hp⟩
    · rcases h.main i a c ha h1 with hk | ⟨j, op', k1, k2, k3, k4, k5, _⟩
      · exact hk
      · exfalso
        have hj := hs.pos j k3
        rcases h3 with e | e
        · exact hs.apart j 0 c (.inr k3) (.inl rfl) (by omega) (k5 e) hrg
        · exact hs.apart 0 j c (.inl rfl) (.inr k3) (by omega) (hog e) k4
    · exact h.work g hA hp i a c ha h1 hrg (h3.imp id hog)
  · rcases touch_in ha with ⟨ha', hi⟩ | ⟨op, hop, hou, hx⟩
    · rcases h.main i a c ha' hc with hk | ⟨j, op', k1, k2, k3, k4, k5, k6⟩
      · exact .inl (hk.app u)
      · refine .inr ⟨j, op', by rw [getElem?_append_old hi]; exact k1, k2, k3, ?_, fun e => ?_, k6⟩
        · by_cases hjg : j = g
          · subst hjg; exact (hr c).1 k4
          · exact (ho j hjg c).1.2 k4
        · by_cases hjg : j = g
          · subst hjg; exact (hw c).1 (k5 e)
          · exact (ho j hjg c).2.2 (k5 e)
    · obtain ⟨hog, hoc⟩ := hu op hou
      obtain ⟨c', h4, h5, h6⟩ := hoc.2.2 a hx
      rw [hc] at h4
      injection h4 with h4
      subst h4
      rcases hg with rfl | ⟨hA, hp⟩
      · have := knows_own hop
        rw [hog] at this
        exact .inl this
      · exact .inr ⟨g, op, hop, hog, hA, h5, h6, fun s hs => by rw [hp] at hs; cases hs⟩
  · rcases touch_in ha with ⟨ha', hi⟩ | ⟨op, hop, hou, hx⟩
    · have hlt := h.below ha' hc
      by_cases hjg : j = g
      · subst hjg
        exact (h.work j hj hp i a c ha' hc (((hr c).2 hrc).resolve_right (by omega)) (hwo.imp id fun e => ((hw c).2 e).resolve_right (by omega))).app u
      · exact (h.work j hj hp i a c ha' hc ((ho j hjg c).1.1 hrc) (hwo.imp id (ho j hjg c).2.1)).app u
    · obtain ⟨hog, hoc⟩ := hu op hou
      by_cases hjg : j = g
      · have := knows_own hop
        rw [hog, ← hjg] at this
        exact this
      · exfalso
        obtain ⟨c', h4, h5, h6⟩ := hoc.2.2 a hx
        rw [hc] at h4
        injection h4 with h4
        subst h4
        have hrj := (ho j hjg c).1.1 hrc
        have hlt := hs.low j c (.inr hj) hrj
        rcases hwo with e | e
        · exact hs.apart g j c hg' (.inr hj) (Ne.symm hjg) (((hw c).2 (h6 e)).resolve_right (by omega)) hrj
        · exact hs.apart j g c (.inr hj) hg' hjg ((ho j hjg c).2.1 e) (((hr c).2 h5).resolve_right (by omega))
theorem Tr.quiet1 (h : Tr Act pos rng own B t) {B' : Nat} (hB : B ≤ B') {y : MemOp} (hy : y.act.touch? = none) (hl : y.act.low B') (hm : ∀ m, y.act = .mark m → Neutral m) : Tr Act pos rng own B' (t ++ #[y]) := by
  have e : ∀ op ∈ (#[y] : Trace), op = y := fun op hop => by simpa using hop
  have tin : ∀ {i a}, touchAt (t ++ #[y]) i = some a → touchAt t i = some a ∧ i < t.size := fun {i a} ha => by
    rcases touch_in ha with h | ⟨op, _, hou, hx⟩
    · exact h
    · rw [e op hou, hy] at hx; cases hx
  refine ⟨h.word.append fun op hop m hmm => hm m (by rw [← e op hop]; exact hmm), seen_app (fun op hop => MemAct.low_mono hB (h.low op hop)) fun op hop => by rw [e op hop]; exact hl, fun said => noRace_append (g := y.g) (h.calm said) (fun op hop => by rw [e op hop]) fun i a ha op hop b hb hc => ?_, fun i a c ha hc => ?_, fun j hj hp i a c ha hc hrc hwo => ?_⟩
  · rw [e op hop, hy] at hb; cases hb
  · obtain ⟨ha', hi⟩ := tin ha
    rcases h.main i a c ha' hc with hk | ⟨j, op', k1, k2⟩
    · exact .inl (hk.app _)
    · exact .inr ⟨j, op', by rw [getElem?_append_old hi]; exact k1, k2⟩
  · obtain ⟨ha', hi⟩ := tin ha
    exact (h.work j hj hp i a c ha' hc hrc hwo).app _
theorem Tr.quiet {B' : Nat} : ∀ (l : List MemOp) {t : Trace} {B : Nat}, B ≤ B' → Tr Act pos rng own B t → (∀ y ∈ l, y.act.touch? = none ∧ y.act.low B' ∧ ∀ m, y.act = .mark m → Neutral m) → Tr Act pos rng own B' (t ++ l.toArray)
  | [], t, B, hB, h, _ => by
    rw [show t ++ ([] : List MemOp).toArray = t by simp]
    exact ⟨h.word, fun op hop => MemAct.low_mono hB (h.low op hop), h.calm, h.main, h.work⟩
  | y :: l, t, B, hB, h, hl => by
    have hy := hl y (List.mem_cons_self ..)
    rw [show t ++ (y :: l).toArray = (t ++ #[y]) ++ l.toArray by apply Array.ext'; simp]
    exact Tr.quiet l (Nat.le_refl _) (h.quiet1 hB hy.1 hy.2.1 hy.2.2) fun z hz => hl z (List.mem_cons_of_mem _ hz)
theorem Tr.quietA {B' : Nat} (hB : B ≤ B') {u : Trace} (h : Tr Act pos rng own B t) (hu : ∀ y ∈ u, y.act.touch? = none ∧ y.act.low B' ∧ ∀ m, y.act = .mark m → Neutral m) : Tr Act pos rng own B' (t ++ u) := by
  have := Tr.quiet u.toList hB h fun y hy => hu y (Array.mem_toList_iff.1 hy)
  simpa using this
theorem Tr.fork (h : Tr Act pos rng own B t) (hs : SepT Act rng own B) {j : Nat} (hj : 0 < j) (hA : ¬ Act j) {x y : MemOp} (hx : x.g = 0 ∧ x.act = .go j) (hy : y.g = j ∧ y.act = .start)
    {pos' : Nat → Option Nat} (hpo : ∀ k, Act k → pos' k = pos k) {rng' own' : Nat → Nat → Prop} (hr : ∀ k, k ≠ j → ∀ c, rng' k c ↔ rng k c) (ho : ∀ k, k ≠ 0 → k ≠ j → ∀ c, own' k c ↔ own k c) (hrj : ∀ c, rng' j c → rng 0 c) (hoj : ∀ c, ¬ own' j c) :
    Tr (fun k => Act k ∨ k = j) pos' rng' own' B (t ++ #[x, y]) := by
  have h2 : Tr Act pos rng own B (t ++ #[x, y]) := h.quietA (Nat.le_refl _) fun z hz => by
    simp only [List.mem_toArray, List.mem_cons, List.not_mem_nil, or_false] at hz
    rcases hz with rfl | rfl
    · rw [hx.2]; exact ⟨rfl, trivial, fun m hm => by cases hm⟩
    · rw [hy.2]; exact ⟨rfl, trivial, fun m hm => by cases hm⟩
  have old : ∀ {i a}, touchAt (t ++ #[x, y]) i = some a → touchAt t i = some a ∧ i < t.size := fun {i a} ha => by
    rcases touch_in ha with h | ⟨op, _, hou, hx'⟩
    · exact h
    · simp only [List.mem_toArray, List.mem_cons, List.not_mem_nil, or_false] at hou
      rcases hou with rfl | rfl
      · rw [hx.2] at hx'; cases hx'
      · rw [hy.2] at hx'; cases hx'
  have gx : (t ++ #[x, y])[t.size]? = some x := by rw [Array.getElem?_append_right (Nat.le_refl _)]; simp
  have gy : (t ++ #[x, y])[t.size + 1]? = some y := by rw [Array.getElem?_append_right (by omega)]; simp
  have edge : HappensBefore (t ++ #[x, y]) t.size (t.size + 1) := .single (.inr ⟨.spawn (child := j) (by rw [act?_of gx, hx.2]) (by rw [act?_of gy, hy.2]) (by simp [Trace.g?, gy, hy.1]), h2.word.heard gx, h2.word.heard gy⟩)
  refine ⟨h2.word, h2.low, h2.calm, fun i a c ha hc => ?_, fun k hk hp i a c ha hc hrc hwo => ?_⟩
  · rcases h2.main i a c ha hc with hk | ⟨k, op, k1, k2, k3, k4, k5, k6⟩
    · exact .inl hk
    · have hkj : k ≠ j := fun e => hA (e ▸ k3)
      have := hs.pos k k3
      exact .inr ⟨k, op, k1, k2, .inl k3, (hr k hkj c).2 k4, fun e => (ho k (by omega) hkj c).2 (k5 e), fun s hps => k6 s (by rw [← hpo k k3]; exact hps)⟩
  · by_cases hkj : k = j
    · subst hkj
      rcases hwo with e | e
      · obtain ⟨ha', hi⟩ := old ha
        rcases h.main i a c ha' hc with hk0 | ⟨m, op, k1, k2, k3, k4, k5, k6⟩
        · have h0 : HappensBefore (t ++ #[x, y]) i t.size := hk0.hb_new (Nat.le_refl _) gx hx.1
          exact ⟨t.size + 1, y, gy, hy.1, .inr (h0.trans edge)⟩
        · have := hs.pos m k3
          exact absurd (hrj c hrc) (hs.apart m 0 c (.inr k3) (.inl rfl) (by omega) (k5 e))
      · exact absurd e (hoj c)
    · have hk' : Act k := hk.resolve_right hkj
      have := hs.pos k hk'
      exact h2.work k hk' (by rw [← hpo k hk']; exact hp) i a c ha hc ((hr k hkj c).1 hrc) (hwo.imp id (ho k (by omega) hkj c).1)
theorem Tr.pend (h : Tr Act pos rng own B t) {j s : Nat} {pos' : Nat → Option Nat} (hj : pos' j = some s) (ho : ∀ k, k ≠ j → pos' k = pos k) (hp : pos j = none) (hlt : ∀ i a, touchAt t i = some a → i < s) : Tr Act pos' rng own B t := by
  refine ⟨h.word, h.low, h.calm, fun i a c ha hc => ?_, fun k hk hpk => ?_⟩
  · rcases h.main i a c ha hc with hk | ⟨k, op, k1, k2, k3, k4, k5, k6⟩
    · exact .inl hk
    · refine .inr ⟨k, op, k1, k2, k3, k4, k5, fun s' hs' => ?_⟩
      by_cases hkj : k = j
      · rw [hkj, hj] at hs'
        injection hs' with hs'
        subst hs'
        exact hlt i a ha
      · exact k6 s' (by rw [← ho k hkj]; exact hs')
  · have hkj : k ≠ j := fun e => by rw [e, hj] at hpk; cases hpk
    exact h.work k hk (by rw [← ho k hkj]; exact hpk)
theorem Tr.take (h : Tr Act pos rng own B t) {j s p C n : Nat} {x y : MemOp} (hps : pos j = some s) (hx : t[s]? = some x) (hxg : x.g = j) (hxa : x.act = .send C n) (hy : t[p]? = some y) (hyg : y.g = 0) (hya : y.act = .recvDone C n)
    {Act' : Nat → Prop} (hA : ∀ k, Act' k ↔ Act k ∧ k ≠ j) (h0 : ∀ k, Act k → k ≠ 0) {rng' own' : Nat → Nat → Prop} (ho : ∀ k, k ≠ 0 → k ≠ j → ∀ c, (rng' k c ↔ rng k c) ∧ (own' k c ↔ own k c)) : Tr Act' pos rng' own' B t := by
  have edge : HappensBefore t s p := .single (.inr ⟨.handOver (c := C) (k := n) (by rw [act?_of hx, hxa]) (by rw [act?_of hy, hya]), h.word.heard hx, h.word.heard hy⟩)
  refine ⟨h.word, h.low, h.calm, fun i a c ha hc => ?_, fun k hk hpk i a c ha hc hrc hwo => ?_⟩
  · rcases h.main i a c ha hc with hk | ⟨k, op, k1, k2, k3, k4, k5, k6⟩
    · exact .inl hk
    · by_cases hkj : k = j
      · subst hkj
        exact .inl ⟨p, y, hy, hyg, .inr ((hb_po (k6 s hps) k1 hx (k2.trans hxg.symm)).trans edge)⟩
      · have hk0 := h0 k k3
        exact .inr ⟨k, op, k1, k2, (hA k).2 ⟨k3, hkj⟩, (ho k hk0 hkj c).1.2 k4, fun e => (ho k hk0 hkj c).2.2 (k5 e), k6⟩
  · obtain ⟨hk1, hkj⟩ := (hA k).1 hk
    have hk0 := h0 k hk1
    exact h.work k hk1 hpk i a c ha hc ((ho k hk0 hkj c).1.1 hrc) (hwo.imp id (ho k hk0 hkj c).2.1)
theorem mem_blk {l : Loc} (h : l.isMemory = true) : ∃ c, blkL l = some c := by
  cases l <;> first | exact ⟨_, rfl⟩ | cases h
theorem Tr.over (h : Tr Act pos rng own B t) (hA : ∀ j, ¬ Act j) : t.HandedOver := fun i g hg hne hc => by
  obtain ⟨x, hx, hm, _⟩ := hc
  obtain ⟨c, hc⟩ := mem_blk hm
  rcases h.main i x c hx hc with ⟨q, z, h1, h2, h3⟩ | ⟨j, _, _, _, h3, _⟩
  · refine ⟨q, by simp [Trace.g?, h1, h2], h3.resolve_left fun e => ?_⟩
    subst e
    rw [Trace.g?, h1] at hg
    simp only [Option.map_some, Option.some.injEq] at hg
    omega
  · exact absurd h3 (hA j)
theorem tr_nil (hA : ∀ j, ¬ Act j) : Tr Act pos rng own B #[] :=
  ⟨fun op hop => by simp at hop, fun op hop => by simp at hop, fun said => by rintro ⟨i, j, _, ⟨a, b, ha, _⟩, _⟩; simp [Trace.act?] at ha, fun i a c ha => by simp [touchAt, Trace.act?] at ha, fun j hj => absurd hj (hA j)⟩
end
end Go.Proofs.YtlipmagkplbkdaaDoor

/-! E2 -/
namespace Go.Proofs.YtlipmagkplbkdaaDoor
open Go Go.Conc Go.RowKit
set_option linter.unusedVariables false
set_option linter.unusedSimpArgs false
structure Vw where
  N : Nat
  ρ : Ren
  v : World
def Mb (Act : Nat → Prop) (j : Nat) : Prop := j = 0 ∨ Act j
structure Mem (P : Program) (S : FuncId → Prop) (G : Nat → Bool) (B0 : Nat) (W w : World) (Act : Nat → Prop) (V : Nat → Vw) : Prop where
  rel : ∀ j, Mb Act j → WRel P S (V j).N (V j).ρ (at2 (V j).v w.tape w.drawn) w
  plain : ∀ j, Mb Act j → Plain (V j).v
  glob : ∀ j, Mb Act j → GlOk G (V j).ρ
  pos : ∀ j, Act j → 0 < j
  apart : ∀ j k b b' c, Mb Act j → Mb Act k → j ≠ k → (V j).N ≤ b → (V j).ρ b c → ¬ (V k).ρ b' c
  under : ∀ j, Act j → (V j).N ≤ (V 0).N
  same : ∀ j, Act j → ∀ b, b < (V j).N → (V j).v.heap[b]? = (V 0).v.heap[b]?
  shared : ∀ j, Act j → ∀ b c, b < (V j).N → (V j).ρ b c → (V 0).ρ b c
  closed : ∀ b o, b < (V 0).N → (V 0).v.heap[b]? = some o → shutO o = o
  floor : ∀ j b c, Mb Act j → (V j).N ≤ b → (V j).ρ b c → B0 ≤ c
  top : B0 ≤ W.heap.size
  base : Below B0 W w
def rngV (V : Nat → Vw) (j c : Nat) : Prop := ∃ b, (V j).ρ b c
def ownV (V : Nat → Vw) (j c : Nat) : Prop := ∃ b, (V j).N ≤ b ∧ (V j).ρ b c
section
variable {P : Program} {S : FuncId → Prop} {G : Nat → Bool} {B0 : Nat} {W w w' : World} {Act : Nat → Prop} {V : Nat → Vw}
theorem Mem.sep (h : Mem P S G B0 W w Act V) : SepT Act (rngV V) (ownV V) w.heap.size where
  pos := h.pos
  sub j c := fun ⟨b, _, hb⟩ => ⟨b, hb⟩
  apart j k c hj hk hjk := fun ⟨b, hb, hbc⟩ ⟨b', hbc'⟩ => h.apart j k b b' c hj hk hjk hb hbc hbc'
  low j c hj := fun ⟨b, hbc⟩ => ((h.rel j hj).dom b c hbc).2
theorem Mem.main (h : Mem P S G B0 W w Act V) : WRel P S (V 0).N (V 0).ρ (at2 (V 0).v w.tape w.drawn) w := h.rel 0 (.inl rfl)
theorem Mem.stir (h : Mem P S G B0 W w Act V) (hsz : w.heap.size ≤ w'.heap.size) (hk : ∀ j b c, Mb Act j → (V j).ρ b c → w'.heap[c]? = w.heap[c]?) (hb : Below B0 w w') : Mem P S G B0 W w' Act V where
  rel j hj := (h.rel j hj).others hsz fun b c hbc => hk j b c hj hbc
  plain := h.plain
  glob := h.glob
  pos := h.pos
  apart := h.apart
  under := h.under
  same := h.same
  shared := h.shared
  closed := h.closed
  floor := h.floor
  top := h.top
  base := h.base.trans hb
theorem Mem.at (h : Mem P S G B0 W w Act V) (d : Nat) : Mem P S G B0 W (w.at d) Act V := h.stir (Nat.le_refl _) (fun _ _ _ _ _ => rfl) ⟨rfl, rfl, rfl, Nat.le_refl _, fun _ _ => rfl⟩
theorem Mem.step (h : Mem P S G B0 W w Act V) {g : Nat} (hg : Mb Act g) {ρ' : Ren} {v' : World} {evs : Array Event} (he : Ext (V g).ρ ρ') (hw : WRel P S (V g).N ρ' v' w') (hG : Guar (V g).N (V g).ρ ρ' w w' evs) (hp : Plain v')
    (hs : ∀ b, b < (V g).N → v'.heap[b]? = (V g).v.heap[b]?) : Mem P S G B0 W w' Act (fun k => if k = g then ⟨(V g).N, ρ', v'⟩ else V k) := by
  have e1 : ∀ k, k ≠ g → (if k = g then (⟨(V g).N, ρ', v'⟩ : Vw) else V k) = V k := fun k hk => if_neg hk
  have e2 : (if g = g then (⟨(V g).N, ρ', v'⟩ : Vw) else V g) = ⟨(V g).N, ρ', v'⟩ := if_pos rfl
  have eN : ∀ k, (if k = g then (⟨(V g).N, ρ', v'⟩ : Vw) else V k).N = (V k).N := fun k => by
    by_cases hk : k = g
    · rw [hk, e2]
    · rw [e1 k hk]
  have fresh : ∀ b c, ρ' b c → (V g).ρ b c ∨ ((V g).N ≤ b ∧ w.heap.size ≤ c) := fun b c hbc => by
    by_cases hr : (V g).ρ b c
    · exact .inl hr
    · exact .inr (hG.fresh b c hbc hr)
  have hlo : ∀ b, b < (V g).N → ∀ c, ρ' b c → (V g).ρ b c := fun b hb c hbc => (fresh b c hbc).resolve_right fun h => by omega
  have hsd : ∀ b, b < (V 0).N → ∀ j, (if j = g then (⟨(V g).N, ρ', v'⟩ : Vw) else V j).v.heap[b]? = (V j).v.heap[b]? ∨ ¬ b < (V j).N := fun b hb j => by
    by_cases hj : j = g
    · rw [hj, e2]
      by_cases hlt : b < (V g).N
      · exact .inl (hs b hlt)
      · exact .inr hlt
    · rw [e1 j hj]; exact .inl rfl
  refine ⟨fun j hj => ?_, fun j hj => ?_, fun j hj => ?_, h.pos, fun j k b b' c hj hk hjk hb hbc hbc' => ?_, fun j hj => by rw [eN, eN]; exact h.under j hj, fun j hj b hb => ?_, fun j hj b c hb hbc => ?_, fun b o hb ho => ?_, fun j b c hj hb hbc => ?_, h.top, h.base.trans ⟨hG.os, hG.tape, hG.output, hG.size, fun c hc => ?_⟩⟩
  · by_cases hjg : j = g
    · subst hjg
      rw [e2]
      have := hw.at' w'.tape w'.drawn
      exact this
    · rw [e1 j hjg]
      refine (h.rel j hj).others hG.size fun b c hbc => hG.keep c ((h.rel j hj).dom b c hbc).2 fun b' hb' hbc' => h.apart g j b' b c hg hj (Ne.symm hjg) hb' hbc' hbc
  · by_cases hjg : j = g
    · subst hjg; rw [e2]; exact hp
    · rw [e1 j hjg]; exact h.plain j hj
  · by_cases hjg : j = g
    · subst hjg; rw [e2]; exact (h.glob j hj).mono he
    · rw [e1 j hjg]; exact h.glob j hj
  · rw [eN] at hb
    by_cases hjg : j = g
    · have hkg : k ≠ g := fun e => hjk (hjg.trans e.symm)
      rw [e1 k hkg] at hbc'
      subst hjg
      rw [e2] at hbc
      rcases fresh b c hbc with hr | ⟨_, hc⟩
      · exact h.apart j k b b' c hj hk hjk hb hr hbc'
      · have := ((h.rel k hk).dom b' c hbc').2; omega
    · rw [e1 j hjg] at hbc
      by_cases hkg : k = g
      · subst hkg
        rw [e2] at hbc'
        rcases fresh b' c hbc' with hr | ⟨_, hc⟩
        · exact h.apart j k b b' c hj hk hjk hb hbc hr
        · have := ((h.rel j hj).dom b c hbc).2; omega
      · rw [e1 k hkg] at hbc'
        exact h.apart j k b b' c hj hk hjk hb hbc hbc'
  · rw [eN] at hb
    have hb0 := Nat.lt_of_lt_of_le hb (h.under j hj)
    rw [(hsd b hb0 j).resolve_right (fun x => x hb), (hsd b hb0 0).resolve_right (fun x => x hb0)]
    exact h.same j hj b hb
  · rw [eN] at hb
    have h0 : (V 0).ρ b c := by
      by_cases hjg : j = g
      · subst hjg
        rw [e2] at hbc
        exact h.shared j hj b c hb (hlo b hb c hbc)
      · rw [e1 j hjg] at hbc
        exact h.shared j hj b c hb hbc
    by_cases h0g : 0 = g
    · subst h0g; rw [e2]; exact he _ _ h0
    · rw [e1 0 h0g]; exact h0
  · rw [eN] at hb
    rw [(hsd b hb 0).resolve_right (fun x => x hb)] at ho
    exact h.closed b o hb ho
  · rw [eN] at hb
    by_cases hjg : j = g
    · subst hjg
      rw [e2] at hbc
      rcases fresh b c hbc with hr | ⟨_, hc⟩
      · exact h.floor j b c hj hb hr
      · have := h.top; have := h.base.size; omega
    · rw [e1 j hjg] at hbc
      exact h.floor j b c hj hb hbc
  · have := h.top
    have := h.base.size
    exact hG.keep c (by omega) fun b hb hbc => by have := h.floor g b c hg hb hbc; omega
theorem Mem.ranges (h : Mem P S G B0 W w Act V) {g : Nat} (hg : Mb Act g) {ρ' : Ren} {v' : World} {evs : Array Event} (he : Ext (V g).ρ ρ') (hG : Guar (V g).N (V g).ρ ρ' w w' evs) :
    let V' : Nat → Vw := fun k => if k = g then ⟨(V g).N, ρ', v'⟩ else V k
    (∀ k, k ≠ g → ∀ c, (rngV V' k c ↔ rngV V k c) ∧ (ownV V' k c ↔ ownV V k c)) ∧ (∀ c, (rngV V g c → rngV V' g c) ∧ (rngV V' g c → rngV V g c ∨ w.heap.size ≤ c)) ∧ (∀ c, (ownV V g c → ownV V' g c) ∧ (ownV V' g c → ownV V g c ∨ w.heap.size ≤ c)) := by
  intro V'
  have e1 : ∀ k, k ≠ g → V' k = V k := fun k hk => if_neg hk
  have e2 : V' g = ⟨(V g).N, ρ', v'⟩ := if_pos rfl
  refine ⟨fun k hk c => ?_, fun c => ⟨fun ⟨b, hb⟩ => ⟨b, by rw [e2]; exact he _ _ hb⟩, fun ⟨b, hb⟩ => ?_⟩, fun c => ⟨fun ⟨b, hN, hb⟩ => ⟨b, by rw [e2]; exact hN, by rw [e2]; exact he _ _ hb⟩, fun ⟨b, hN, hb⟩ => ?_⟩⟩
  · unfold rngV ownV
    rw [e1 k hk]
    exact ⟨Iff.rfl, Iff.rfl⟩
  · rw [e2] at hb
    by_cases hr : (V g).ρ b c
    · exact .inl ⟨b, hr⟩
    · exact .inr (hG.fresh b c hb hr).2
  · rw [e2] at hb hN
    by_cases hr : (V g).ρ b c
    · exact .inl ⟨b, hN, hr⟩
    · exact .inr (hG.fresh b c hb hr).2
theorem opC_of_EvC {N : Nat} {ρ : Ren} {v : World} (hw : WRel P S N ρ v w') {e : Event} (he : EvC N ρ e) (hx : ∀ f, e.loc ≠ .mark (.extern f)) : OpC (fun c => ∃ b, ρ b c) (fun c => ∃ b, N ≤ b ∧ ρ b c) w'.heap.size (MemAct.ofEvent e) := by
  rcases he with ⟨b, c, l, wr, rfl, hl, hb, hwr⟩ | rfl | ⟨f, rfl⟩
  · have hc := (hw.dom b c hb).2
    rcases hl with rfl | ⟨a, rfl, ha⟩
    · have e : MemAct.ofEvent ⟨.obj c, wr, false⟩ = .access ⟨.obj c, wr, false⟩ := by cases wr <;> rfl
      rw [e]
      exact ⟨hc, fun m hm => (by cases hm), fun a ha => by
        have ha : some (⟨.obj c, wr, .plain⟩ : Touch) = some a := ha
        injection ha with ha
        subst ha
        exact ⟨c, rfl, ⟨b, hb⟩, fun h => ⟨b, hwr h, hb⟩⟩⟩
    · subst ha
      exact ⟨hc, fun m hm => (by cases hm), fun x hx => by
        have hx : some (⟨.cell a, wr, .plain⟩ : Touch) = some x := hx
        injection hx with hx
        subst hx
        exact ⟨_, rfl, ⟨b, hb⟩, fun h => ⟨b, hwr h, hb⟩⟩⟩
  · exact ⟨trivial, fun m hm => by
      have hm : MemAct.mark .noRoom = .mark m := hm
      injection hm with hm
      exact hm.symm, fun a ha => by cases ha⟩
  · exact absurd rfl (hx f)
theorem Mem.fork (h : Mem P S G B0 W w Act V) {j : Nat} (hj : 0 < j) (hA : ¬ Act j) :
    Mem P S G B0 W w (fun k => Act k ∨ k = j) (fun k => if k = 0 ∨ k = j then ⟨(V 0).v.heap.size, (V 0).ρ, shut (V 0).v⟩ else V k) := by
  let X : Vw := ⟨(V 0).v.heap.size, (V 0).ρ, shut (V 0).v⟩
  let V' : Nat → Vw := fun k => if k = 0 ∨ k = j then X else V k
  show Mem P S G B0 W w (fun k => Act k ∨ k = j) V'
  have e0 : V' 0 = X := if_pos (.inl rfl)
  have ej : V' j = X := if_pos (.inr rfl)
  have ek : ∀ k, Act k → V' k = V k := fun k hk => if_neg fun e => by
    rcases e with e | e
    · have := h.pos k hk; omega
    · exact hA (e ▸ hk)
  have cs : ∀ k, Mb (fun k => Act k ∨ k = j) k → (V' k = X ∧ (k = 0 ∨ k = j)) ∨ (V' k = V k ∧ Act k) := fun k hk => by
    rcases hk with rfl | hk | rfl
    · exact .inl ⟨e0, .inl rfl⟩
    · exact .inr ⟨ek k hk, hk⟩
    · exact .inl ⟨ej, .inr rfl⟩
  have h0 := h.main
  have hX : WRel P S X.N X.ρ (at2 X.v w.tape w.drawn) w := h0.shut
  have hlow : (V 0).N ≤ (V 0).v.heap.size := h0.low
  have hdom : ∀ b c, (V 0).ρ b c → b < (V 0).v.heap.size := fun b c hb => (h0.dom b c hb).1
  have hsh : ∀ b, b < (V 0).N → (shut (V 0).v).heap[b]? = (V 0).v.heap[b]? := fun b hb => by
    show ((V 0).v.heap.map shutO)[b]? = _
    rw [Array.getElem?_map]
    cases ho : (V 0).v.heap[b]? with
    | none => rfl
    | some o => rw [Option.map_some, h.closed b o hb ho]
  have idem : ∀ o, shutO (shutO o) = shutO o := fun o => by cases o <;> rfl
  refine ⟨fun k hk => ?_, fun k hk => ?_, fun k hk => ?_, fun k hk => ?_, fun m k b b' c hm hk hmk hb hbc hbc' => ?_, fun k hk => ?_, fun k hk b hb => ?_, fun k hk b c hb hbc => ?_, fun b o hb ho => ?_, fun k b c hk hb hbc => ?_, h.top, h.base⟩
  · rcases cs k hk with ⟨e, _⟩ | ⟨e, hk⟩ <;> rw [e]
    · exact hX
    · exact h.rel k (.inr hk)
  · rcases cs k hk with ⟨e, _⟩ | ⟨e, hk⟩ <;> rw [e]
    · exact (h.plain 0 (.inl rfl)).shut
    · exact h.plain k (.inr hk)
  · rcases cs k hk with ⟨e, _⟩ | ⟨e, hk⟩ <;> rw [e]
    · exact h.glob 0 (.inl rfl)
    · exact h.glob k (.inr hk)
  · rcases hk with hk | rfl
    · exact h.pos k hk
    · exact hj
  · rcases cs m hm with ⟨e, _⟩ | ⟨e, hm⟩
    · rw [e] at hb hbc
      have := hdom b c hbc
      exact absurd this (Nat.not_lt.2 hb)
    · rw [e] at hb hbc
      rcases cs k hk with ⟨e', h'⟩ | ⟨e', hk⟩
      · rw [e'] at hbc'
        have := h.pos m hm
        exact h.apart m 0 b b' c (.inr hm) (.inl rfl) (by omega) hb hbc hbc'
      · rw [e'] at hbc'
        exact h.apart m k b b' c (.inr hm) (.inr hk) hmk hb hbc hbc'
  · rw [e0]
    rcases cs k (.inr hk) with ⟨e, _⟩ | ⟨e, hk⟩ <;> rw [e]
    · exact Nat.le_refl _
    · exact Nat.le_trans (h.under k hk) hlow
  · rcases cs k (.inr hk) with ⟨e, _⟩ | ⟨e, hk⟩
    · rw [e, e0]
    · rw [e] at hb ⊢
      rw [e0]
      have hu := h.under k hk
      show _ = (shut (V 0).v).heap[b]?
      rw [hsh b (by omega)]
      exact h.same k hk b hb
  · rw [e0]
    rcases cs k (.inr hk) with ⟨e, _⟩ | ⟨e, hk⟩
    · rw [e] at hbc; exact hbc
    · rw [e] at hb hbc; exact h.shared k hk b c hb hbc
  · rw [e0] at ho
    have ho : ((V 0).v.heap.map shutO)[b]? = some o := ho
    rw [Array.getElem?_map] at ho
    obtain ⟨o', _, rfl⟩ := Option.map_eq_some_iff.1 ho
    exact idem o'
  · rcases cs k hk with ⟨e, _⟩ | ⟨e, hk⟩
    · rw [e] at hb hbc
      exact absurd (hdom b c hbc) (Nat.not_lt.2 hb)
    · rw [e] at hb hbc
      exact h.floor k b c (.inr hk) hb hbc
theorem Mem.take (h : Mem P S G B0 W w Act V) {j : Nat} (hj : Act j) {Act' : Nat → Prop} (hA : ∀ k, Act' k ↔ Act k ∧ k ≠ j) {Q : Post} (hQ : InvQ S Q) {x y : Value} (hxy : VRel S (V j).ρ x y) (hq : Q x (V j).v) :
    ∃ v' ρ' x', Grow (V 0).v v' ∧ Q x' (hide (V 0).v v') ∧ VRel S ρ' x' y ∧ Ext (V 0).ρ ρ' ∧ Mem P S G B0 W w Act' (fun k => if k = 0 then ⟨(V 0).N, ρ', v'⟩ else V k) := by
  have h0 := h.main
  have hpj := h.pos j hj
  obtain ⟨v', ρ', x', hg, hq', hx', he, hw', hp', hnew⟩ := take_over h0 (h.rel j (.inr hj)) (h.plain 0 (.inl rfl)) (h.plain j (.inr hj)) (Nat.le_trans (h.under j hj) h0.low) (h.shared j hj)
    (fun b c hb hbc b' => h.apart j 0 b b' c (.inr hj) (.inl rfl) (by omega) hb hbc) (h.same j hj) (fun b o hb ho => h.closed b o (Nat.lt_of_lt_of_le hb (h.under j hj)) ho) hQ hxy (hQ.at2 _ _ w.tape w.drawn hq)
  have e1 : ∀ k, k ≠ 0 → (if k = 0 then (⟨(V 0).N, ρ', v'⟩ : Vw) else V k) = V k := fun k hk => if_neg hk
  have e2 : (if 0 = 0 then (⟨(V 0).N, ρ', v'⟩ : Vw) else V 0) = ⟨(V 0).N, ρ', v'⟩ := if_pos rfl
  have eN : ∀ k, (if k = 0 then (⟨(V 0).N, ρ', v'⟩ : Vw) else V k).N = (V k).N := fun k => by
    by_cases hk : k = 0
    · rw [hk, e2]
    · rw [e1 k hk]
  have fresh : ∀ b c, ρ' b c → (V 0).ρ b c ∨ ((V 0).v.heap.size ≤ b ∧ ∃ b1, (V j).N ≤ b1 ∧ (V j).ρ b1 c) := fun b c hbc => by
    by_cases hr : (V 0).ρ b c
    · exact .inl hr
    · exact .inr (hnew b c hbc hr)
  have hlow : (V 0).N ≤ (V 0).v.heap.size := h0.low
  have up : ∀ k, Act' k → Act k ∧ k ≠ j := fun k => (hA k).1
  have mb : ∀ k, Mb Act' k → Mb Act k := fun k hk => hk.imp id fun x => (up k x).1
  refine ⟨v', ρ', x', ⟨hg.size, hg.keep, hg.os, hg.output⟩, hq', hx', he, fun k hk => ?_, fun k hk => ?_, fun k hk => ?_, fun k hk => h.pos k (up k hk).1, fun m k b b' c hm hk hmk hb hbc hbc' => ?_, fun k hk => by rw [eN, eN]; exact h.under k (up k hk).1, fun k hk b hb => ?_, fun k hk b c hb hbc => ?_, fun b o hb ho => ?_, fun k b c hk hb hbc => ?_, h.top, h.base⟩
  · by_cases hk0 : k = 0
    · subst hk0
      rw [e2]
      exact hw'.at' w.tape w.drawn
    · rw [e1 k hk0]; exact h.rel k (mb k hk)
  · by_cases hk0 : k = 0
    · subst hk0; rw [e2]; exact hp'
    · rw [e1 k hk0]; exact h.plain k (mb k hk)
  · by_cases hk0 : k = 0
    · subst hk0; rw [e2]; exact (h.glob 0 (.inl rfl)).mono he
    · rw [e1 k hk0]; exact h.glob k (mb k hk)
  · rw [eN] at hb
    by_cases hm0 : m = 0
    · have hk0 : k ≠ 0 := fun e => hmk (hm0.trans e.symm)
      rw [e1 k hk0] at hbc'
      have hk' := up k (hk.resolve_left hk0)
      subst hm0
      rw [e2] at hbc
      rcases fresh b c hbc with hr | ⟨_, b1, k1, k2⟩
      · exact h.apart 0 k b b' c (.inl rfl) (.inr hk'.1) hmk hb hr hbc'
      · exact h.apart j k b1 b' c (.inr hj) (.inr hk'.1) (Ne.symm hk'.2) k1 k2 hbc'
    · have hm' := up m (hm.resolve_left hm0)
      rw [e1 m hm0] at hbc
      by_cases hk0 : k = 0
      · subst hk0
        rw [e2] at hbc'
        rcases fresh b' c hbc' with hr | ⟨_, b1, k1, k2⟩
        · exact h.apart m 0 b b' c (.inr hm'.1) (.inl rfl) hm0 hb hbc hr
        · exact h.apart m j b b1 c (.inr hm'.1) (.inr hj) hm'.2 hb hbc k2
      · rw [e1 k hk0] at hbc'
        exact h.apart m k b b' c (.inr hm'.1) (mb k hk) hmk hb hbc hbc'
  · have hk' := up k hk
    have hk0 : k ≠ 0 := by have := h.pos k hk'.1; omega
    rw [e1 k hk0] at hb ⊢
    rw [e2]
    have := h.under k hk'.1
    rw [h.same k hk'.1 b hb]
    exact (hg.keep b (by show b < (V 0).v.heap.size; omega)).symm
  · have hk' := up k hk
    have hk0 : k ≠ 0 := by have := h.pos k hk'.1; omega
    rw [e1 k hk0] at hb hbc
    rw [e2]
    exact he _ _ (h.shared k hk'.1 b c hb hbc)
  · rw [e2] at hb ho
    have hb : b < (V 0).N := hb
    have ho : v'.heap[b]? = some o := ho
    rw [hg.keep b (by show b < (V 0).v.heap.size; omega)] at ho
    exact h.closed b o hb ho
  · rw [eN] at hb
    by_cases hk0 : k = 0
    · subst hk0
      rw [e2] at hbc
      rcases fresh b c hbc with hr | ⟨_, b1, k1, k2⟩
      · exact h.floor 0 b c (.inl rfl) hb hr
      · exact h.floor j b1 c (.inr hj) k1 k2
    · rw [e1 k hk0] at hbc
      exact h.floor k b c (mb k hk) hb hbc
end
end Go.Proofs.YtlipmagkplbkdaaDoor

/-! E3 -/
namespace Go.Proofs.YtlipmagkplbkdaaDoor
open Go Go.Conc Go.RowKit
set_option linter.unusedVariables false
set_option linter.unusedSimpArgs false
section
variable {P : Program} {S : FuncId → Prop} {G Sb : Nat → Bool} {ρ : Ren}
theorem stepS_under {fr : Frame} {cs : List Frame} {v v' : World} {x : Frame × List Frame} (h : (stepS P fr cs).run P v = .ok x v') (l : List Frame) : (stepS P fr (cs ++ l)).run P v = .ok (x.1, x.2 ++ l) v' := by
  unfold stepS at h ⊢
  split at h
  · split at h
    case h_8 c a b k =>
      split at h
      · rename_i t ht
        obtain ⟨rfl, rfl⟩ := run_pure_ok h
        rfl
      · exact (run_stuck_ok h).elim
    case h_13 id k =>
      split at h
      · rename_i k' hk
        obtain ⟨rfl, rfl⟩ := run_pure_ok h
        rfl
      · exact (run_stuck_ok h).elim
    case h_14 id ops draw k =>
      split at h
      · obtain ⟨t, w1, h4, h5⟩ := run_bind_ok h
        obtain ⟨rfl, rfl⟩ := run_pure_ok h5
        rename_i hd
        rw [if_pos hd]
        show Sem.run P (Sem.bind _ _) v = _
        rw [Sem.run_bind', h4]
        rfl
      · obtain ⟨rfl, rfl⟩ := run_pure_ok h
        rename_i hd
        rw [if_neg hd]
        rfl
    case h_16 ops i rest k =>
      split at h
      · obtain ⟨rfl, rfl⟩ := run_pure_ok h
        rfl
      · rename_i o ho
        split at h
        · rename_i hw
          obtain ⟨nx, w1, h4, h5⟩ := run_bind_ok h
          rw [if_pos hw]
          have go : ∀ (f : Next → Sem (Frame × List Frame)) y, (f nx).run P w1 = .ok y v' → (execOp fr.eval o >>= f).run P v = .ok y v' := fun f y hy => by
            show Sem.run P (Sem.bind _ _) v = _
            rw [Sem.run_bind', h4]
            exact hy
          cases nx <;> first | exact (run_stuck_ok h5).elim | skip
          all_goals
            obtain ⟨rfl, rfl⟩ := run_pure_ok h5
            exact go _ _ rfl
        · rename_i hw
          obtain ⟨rfl, rfl⟩ := run_pure_ok h
          rw [if_neg hw]
          rfl
    case h_17 id k =>
      split at h
      · rename_i k' hk'
        obtain ⟨rfl, rfl⟩ := run_pure_ok h
        rfl
      · exact (run_stuck_ok h).elim
    case h_18 => exact (run_stuck_ok h).elim
    all_goals
      obtain ⟨rfl, rfl⟩ := run_pure_ok h
      rfl
  · split at h
    · rename_i c rest fn hk hf
      simp only [List.cons_append, hf, hk]
      split at h
      · obtain ⟨u, w1, h4, h5⟩ := run_bind_ok h
        try simp only [*]
        obtain ⟨rfl, rfl⟩ := run_pure_ok h5
        show Sem.run P (Sem.bind _ _) v = _
        rw [Sem.run_bind', h4]
        rfl
      · exact (run_stuck_ok h).elim
    · exact (run_stuck_ok h).elim
  · exact (run_stuck_ok h).elim
theorem exit_rel : FRel S ρ (exitFrame P) (exitFrame P) := ⟨rfl, ⟨rfl, fun i h _ => absurd (show i < 0 from h) (Nat.not_lt_zero i)⟩, rfl, rfl, rfl, (show CallKind.normal ≠ CallKind.early by simp), rfl, rfl, rfl, rfl⟩
theorem FsRel.append {l l' m m' : List Frame} (h : FsRel S ρ l l') (k : FsRel S ρ m m') : FsRel S ρ (l ++ m) (l' ++ m') := by
  induction h with
  | nil => exact k
  | cons h _ ih => exact .cons h ih
theorem FsRel.split {l m : List Frame} : ∀ {l' : List Frame}, FsRel S ρ (l ++ m) l' → ∃ l1 m1, l' = l1 ++ m1 ∧ FsRel S ρ l l1 ∧ FsRel S ρ m m1 := by
  induction l with
  | nil => exact fun h => ⟨[], _, rfl, .nil, h⟩
  | cons f l ih =>
    intro l' h
    cases h with
    | cons hf hl =>
      obtain ⟨l1, m1, rfl, h1, h2⟩ := ih hl
      exact ⟨_ :: l1, m1, rfl, .cons hf h1, h2⟩
theorem member_step (hC : Ctx P S G Sb) {N : Nat} {v w : World} {fr fr' : Frame} {cs cs' l l' : List Frame} {main : Bool} (hw : WRel P S N ρ v w) (hG : GlOk G ρ) (ho : okHead P G Sb fr) (hf : FRel S ρ fr fr') (hl : FsRel S ρ cs cs') (hx : FsRel S ρ l l') (hp : Plain v) {x : Frame × List Frame} {v' : World}
    (hr : (stepS P fr cs).run P v = .ok x v') :
    ∃ ρ₂ y1 y2 w' evs l2, Ext ρ ρ₂ ∧ stepG P main (Go.Conc.G fr' (cs' ++ l')) w = .go (Go.Conc.G y1 (y2 ++ l2)) w' (seen P fr'.fn evs) ∧ FRel S ρ₂ x.1 y1 ∧ FsRel S ρ₂ x.2 y2 ∧ FsRel S ρ₂ l l2 ∧ WRel P S N ρ₂ v' w' ∧ Guar N ρ ρ₂ w w' evs ∧ Plain v' ∧ (∀ b, b < N → v'.heap[b]? = v.heap[b]?) := by
  have hr2 := stepS_under hr l
  obtain ⟨ρ₂, y, w', evs, h1, h2, h3, h4, h5⟩ := Sim.stepS hC.zero (hC.fn N) hG hC.sb ho hf (hl.append hx) ρ v w (Ext.refl _) hw _ v' hr2
  have h2' := h2 #[]
  rw [Array.empty_append] at h2'
  obtain ⟨y1, y2⟩ := y
  have h32 : FsRel S ρ₂ (x.2 ++ l) y2 := h3.2
  obtain ⟨m1, m2, rfl, k1, k2⟩ := h32.split
  refine ⟨ρ₂, y1, m1, w', evs, m2, h1, ?_, h3.1, k1, k2, h4, h5, ?_, view_keep hC ho hw hG hf hl hr⟩
  · exact stepG_of_S hf.tm h2'
  · have := fin_run (Fin.stepS hC ho (Self.of hp hw hG hf hl)) hp
    rw [hr] at this
    exact this
theorem born_step {f : FuncId} {caps : Array Value} {fn : Func} {c : Code} (hf : P.funcs[f]? = some fn) (hb : fn.body = some c) (hn : (fn.name == "runtime.NumGoroutine") = false) (w : World) (main : Bool) :
    stepG P main (born P { target := .fn (.func f) caps, args := #[] }) w = .go (Go.Conc.G (Frame.enter P f caps .deferred) [exitFrame P]) w := by
  have h : (invoke (.fn (.func f) caps) #[]).runT P w #[] = (.ok (.enter f caps) w, #[]) := by
    show (callFunc f (#[] ++ caps)).runT P w #[] = _
    unfold callFunc
    simp only [program, bind, Sem.bind, Array.empty_append]
    unfold Sem.runT
    simp only [hf, hn, hb, Bool.false_eq_true, if_false, Option.isNone_some]
    rfl
  unfold stepG born
  simp only
  unfold unwind
  simp only
  unfold callDeferred
  simp only [h]
  simp [exitFrame, GStep.after, Go.Conc.G, seen_none]
end
inductive Gh
  | leav (q : Nat)
  | start (f : FuncId) (caps : Array Value) (v : World) (Q : Post)
  | work (fr : Frame) (cs : List Frame) (v : World) (Q : Post)
section
variable {P : Program} {G Sb : Nat → Bool} {C : Nat}
inductive GhR (P : Program) (G Sb : Nat → Bool) (C : Nat) : Gh → Gh → Prop
  | leav (q : Nat) : GhR P G Sb C (.leav q) (.leav (q + 1))
  | sent (q : Nat) (fr : Frame) (cs : List Frame) (v : World) (Q : Post) : GhR P G Sb C (.leav q) (.work fr cs v Q)
  | enter (f : FuncId) (caps : Array Value) (v : World) (Q : Post) : GhR P G Sb C (.work (Frame.enter P f caps .deferred) [] v Q) (.start f caps v Q)
  | step (fr : Frame) (cs : List Frame) (v : World) (Q : Post) (τ : Nat → Question → Nat) (d : Nat) (x : Frame × List Frame) (v' : World) : ¬ AtSend P G Sb C Q fr cs v → (stepS P fr cs).run P (at2 v τ d) = .ok x v' → GhR P G Sb C (.work x.1 x.2 v' Q) (.work fr cs v Q)
theorem acc_leav : ∀ q, Acc (GhR P G Sb C) (.leav q)
  | 0 => ⟨_, fun y hy => by cases hy⟩
  | q + 1 => ⟨_, fun y hy => by cases hy; exact acc_leav q⟩
theorem acc_work {Q : Post} {fr : Frame} {cs : List Frame} {v : World} (h : T P (HD P G Sb) (AtSend P G Sb C Q) fr cs v) : Acc (GhR P G Sb C) (.work fr cs v Q) := by
  induction h with
  | stop fr cs v hq => exact ⟨_, fun y hy => by
      cases hy with
      | sent q _ _ _ _ => exact acc_leav q
      | step _ _ _ _ _ _ _ _ hn _ => exact absurd hq hn⟩
  | step fr cs v _ _ _ ih => exact ⟨_, fun y hy => by
      cases hy with
      | sent q _ _ _ _ => exact acc_leav q
      | step _ _ _ _ τ d x v' _ hr => exact ih τ d x v' hr⟩
theorem acc_start {Q : Post} {f : FuncId} {caps : Array Value} {v : World} (h : T P (HD P G Sb) (AtSend P G Sb C Q) (Frame.enter P f caps .deferred) [] v) : Acc (GhR P G Sb C) (.start f caps v Q) :=
  ⟨_, fun y hy => by cases hy; exact acc_work h⟩
inductive LD (R : Gh → Gh → Prop) : List Gh → List Gh → Prop
  | hd (x x' : Gh) (l : List Gh) : R x' x → LD R (x' :: l) (x :: l)
  | tl (x : Gh) (l l' : List Gh) : LD R l' l → LD R (x :: l') (x :: l)
theorem acc_cons {R : Gh → Gh → Prop} {x : Gh} (hx : Acc R x) : ∀ {l : List Gh}, Acc (LD R) l → Acc (LD R) (x :: l) := by
  induction hx with
  | intro x _ ihx =>
    intro l hl
    induction hl with
    | intro l hl ihl =>
      refine ⟨_, fun y hy => ?_⟩
      cases hy with
      | hd _ x' _ h => exact ihx x' h ⟨l, hl⟩
      | tl _ _ l' h => exact ihl l' h
theorem acc_list {R : Gh → Gh → Prop} : ∀ {l : List Gh}, (∀ x ∈ l, Acc R x) → Acc (LD R) l
  | [], _ => ⟨_, fun y hy => by cases hy⟩
  | x :: l, h => acc_cons (h x (List.mem_cons_self ..)) (acc_list fun y hy => h y (List.mem_cons_of_mem _ hy))
theorem ld_set {R : Gh → Gh → Prop} {x' : Gh} : ∀ {l : List Gh} {i : Nat} {x : Gh}, l[i]? = some x → R x' x → LD R (l.set i x') l
  | [], i, x, h, _ => by simp at h
  | y :: l, 0, x, h, hr => by
    simp only [List.getElem?_cons_zero, Option.some.injEq] at h
    subst h
    exact .hd _ _ _ hr
  | y :: l, i + 1, x, h, hr => .tl _ _ _ (ld_set (by simpa using h) hr)
end
end Go.Proofs.YtlipmagkplbkdaaDoor

/-! E4 -/
namespace Go.Proofs.YtlipmagkplbkdaaDoor
open Go Go.Conc Go.RowKit
set_option linter.unusedVariables false
set_option linter.unusedSimpArgs false
section
theorem seen_extern (quiet : FuncId → Bool) : ∀ (l : List Event) (q : Bool) (kept : Array Event), (∀ e ∈ kept, ∀ f, e.loc ≠ .mark (.extern f)) → ∀ e ∈ (l.foldl (seenStep quiet) (q, kept)).2, ∀ f, e.loc ≠ .mark (.extern f) := by
  intro l
  induction l with
  | nil => exact fun _ _ h => h
  | cons a l ih =>
    intro q kept h
    rw [List.foldl_cons]
    have key : ∀ e ∈ (seenStep quiet (q, kept) a).2, ∀ f, e.loc ≠ .mark (.extern f) := by
      unfold seenStep
      simp only
      split
      · exact h
      · rename_i hne
        simp only
        split
        · exact h
        · intro e he
          rcases Array.mem_push.1 he with he | rfl
          · exact h e he
          · exact fun f hf => hne f hf
    exact ih _ _ key
theorem not_extern {P : Program} {fn : FuncId} {es : Array Event} {e : Event} (h : e ∈ seen P fn es) (f : FuncId) : e.loc ≠ .mark (.extern f) := by
  rw [seen_def] at h
  exact seen_extern _ es.toList _ #[] (fun e he => by simp at he) e h f
variable {P : Program} {S : FuncId → Prop} {ρ : Ren}
theorem exit_eq {f : Frame} (h : FRel S ρ (exitFrame P) f) : f = exitFrame P := by
  obtain ⟨fn, tmps, todo, defers, mode, kind, roundOf⟩ := f
  obtain ⟨h1, h2, h3, h4, h5, h6, h7, h8, h9, h10⟩ := h
  simp only at *
  subst h1 h3 h4 h5 h8 h10
  have : tmps = #[] := Array.eq_empty_of_size_eq_zero (by have := h2.1; exact this.symm)
  subst this
  rfl
theorem oper_spawn {main : Bool} {fr : Frame} {cs : List Frame} {w w' : World} {es : Array Event} {ops : Array Oper} {i : Nat} {r : List Nat} {k : List Item} {o : Oper} {f : Fn} {c as : Array Value} (ht : Tm fr) (hm : fr.mode = .run) (hto : fr.todo = .inRegion ops (i :: r) :: k) (ho : ops[i]? = some o) (hw : Region.wanted o (yielded ops fr.tmps) = true)
    (hr : (execOp fr.eval o).runT P w #[] = (.ok (.spawn { target := .fn f c, args := as }) w', es)) : stepG P main (G fr cs) w = .spawn (G (fr.finish undef) cs) (born P { target := .fn f c, args := as }) w' (seen P fr.fn es) := by
  obtain ⟨fn, tmps, todo, defers, mode, kind, roundOf⟩ := fr
  obtain ⟨h1, h2, h3⟩ := ht
  simp only at h1 h2 h3 hm hto
  subst h1 h2 hm hto
  have hk : (kind == CallKind.early) = false := by simpa using h3
  simp only [G, stepG, stepG.exec, ho, Option.map_some, hw, Option.getD_some, if_true, stepG.oper, Frame.oper?, stepG.apply, hr, hk]
  simp [GStep.after, born]
end
structure Pd where
  j : Nat
  x : Value
  y : Value
structure Dat where
  V : Nat → Vw
  E : List (Nat × Post)
  pd : List Pd
  pos : Nat → Option Nat
  s : Nat
  r : Nat
def ActE (E : List (Nat × Post)) (j : Nat) : Prop := ∃ Q, (j, Q) ∈ E
def task : Gh → Option Post
  | .leav _ => none
  | .start _ _ _ Q => some Q
  | .work _ _ _ Q => some Q
def GhI (P : Program) (S : FuncId → Prop) (G Sb : Nat → Bool) (C : Nat) (X : Vw) (g : Goroutine) : Gh → Prop
  | .leav q => QuitsIn P q g
  | .start f caps v Q => v = X.v ∧ (∃ caps', AsRel S X.ρ caps caps' ∧ g = born P { target := .fn (.func f) caps', args := #[] }) ∧ (∃ fn c, P.funcs[f]? = some fn ∧ fn.body = some c ∧ (fn.name == "runtime.NumGoroutine") = false) ∧
      T P (HD P G Sb) (AtSend P G Sb C Q) (Frame.enter P f caps .deferred) [] v
  | .work fr cs v Q => v = X.v ∧ (∃ fr' cs', FRel S X.ρ fr fr' ∧ FsRel S X.ρ cs cs' ∧ g = Go.Conc.G fr' (cs' ++ [exitFrame P])) ∧ T P (HD P G Sb) (AtSend P G Sb C Q) fr cs v
def stand (C : Nat) : Option Value → Goroutine → Goroutine
  | none, g => g
  | some z, g => parked g #[rcase C z] (.recv false)
structure Inv (P : Program) (S : FuncId → Prop) (G Sb : Nat → Bool) (B0 : Nat) (W : World) (C : Nat) (Γ : List Post) (ch : Option Nat) (fr : Frame) (cs : List Frame) (v : World) (park : Option Value) (gh : List Gh) (gs : Array Goroutine) (w : World) (t : Trace) (D : Dat) : Prop where
  v0 : (D.V 0).v = v
  mem : Mem P S G B0 W w (ActE D.E) D.V
  tr : Tr (ActE D.E) D.pos (rngV D.V) (ownV D.V) w.heap.size t
  main : ∃ fr' cs', FRel S (D.V 0).ρ fr fr' ∧ FsRel S (D.V 0).ρ cs cs' ∧ gs[0]? = some (stand C park (Go.Conc.G fr' cs'))
  gam : D.E.map Prod.snd = Γ
  nod : (D.E.map Prod.fst).Nodup
  three : D.E.length ≤ 3
  inv : ∀ e ∈ D.E, InvQ S e.2
  bound : ∀ e ∈ D.E, e.1 < gs.size
  len : gs.size = gh.length + 1
  ghs : ∀ i h, gh[i]? = some h → ∃ g, gs[i + 1]? = some g ∧ GhI P S G Sb C (D.V (i + 1)) g h
  run : ∀ i h Q, gh[i]? = some h → task h = some Q → (i + 1, Q) ∈ D.E ∧ D.pos (i + 1) = none
  out : ∀ e ∈ D.E, (∃ h, gh[e.1 - 1]? = some h ∧ task h = some e.2) ∨ ∃ p ∈ D.pd, p.j = e.1
  pds : ∀ n p, D.pd[n]? = some p → (∃ Q, (p.j, Q) ∈ D.E ∧ Q p.x (D.V p.j).v) ∧ VRel S (D.V p.j).ρ p.x p.y ∧ ∃ sp op, D.pos p.j = some sp ∧ t[sp]? = some op ∧ op.g = p.j ∧ op.act = .send C (D.r + n)
  pnod : (D.pd.map Pd.j).Nodup
  opened : D.E ≠ [] → ch = some C
  only : ∀ c, ch = some c → c = C
  chan : ch = some C → w.heap[C]? = some (.chan 3 (D.pd.map Pd.y).toArray false D.s D.r false) ∧ B0 ≤ C ∧ D.s = D.r + D.pd.length
section
variable {P : Program} {S : FuncId → Prop} {G Sb : Nat → Bool} {B0 : Nat} {W w w' : World} {C : Nat} {Γ : List Post} {ch : Option Nat} {fr : Frame} {cs : List Frame} {v : World} {park : Option Value} {gh : List Gh} {gs : Array Goroutine} {t : Trace} {D : Dat}
theorem Inv.at (h : Inv P S G Sb B0 W C Γ ch fr cs v park gh gs w t D) (d : Nat) : Inv P S G Sb B0 W C Γ ch fr cs v park gh gs (w.at d) t D :=
  { h with mem := h.mem.at d }
theorem Inv.status (h : Inv P S G Sb B0 W C Γ ch fr cs v park gh gs w t D) {i : Nat} {g : Goroutine} (hi : gs[i + 1]? = some g) : g.status = .running ∨ g.status = .finished := by
  have hlt := (Array.getElem?_eq_some_iff.1 hi).1
  have hl := h.len
  obtain ⟨g', h1, h2⟩ := h.ghs i gh[i] (List.getElem?_eq_getElem (by omega))
  rw [hi] at h1
  injection h1 with h1
  subst h1
  cases hh : gh[i] with
  | leav q => rw [hh] at h2; exact QuitsIn.status h2
  | start f caps v Q => rw [hh] at h2; obtain ⟨_, ⟨caps', _, rfl⟩, _⟩ := h2; exact .inl rfl
  | work fr cs v Q => rw [hh] at h2; obtain ⟨_, ⟨fr', cs', _, _, rfl⟩, _⟩ := h2; exact .inl rfl
theorem woken_calm {g g' b : Goroutine} (h : b.status = .running ∨ b.status = .finished) : woken P g g' w' b = b := by
  unfold woken
  split
  · exact again_running _ h
  · rfl
theorem Inv.woken (h : Inv P S G Sb B0 W C Γ ch fr cs v park gh gs w t D) (g g' : Goroutine) (hc : ∀ z, park = some z → ∃ buf s r, w'.heap[C]? = some (.chan 3 buf false s r false)) : gs.map (woken P g g' w') = gs := by
  apply Array.ext_getElem?
  intro j
  rw [Array.getElem?_map]
  cases hj : gs[j]? with
  | none => rfl
  | some y =>
    rw [Option.map_some]
    congr 1
    cases j with
    | succ j => exact woken_calm (h.status hj)
    | zero =>
      obtain ⟨fr', cs', _, _, h3⟩ := h.main
      rw [hj] at h3
      injection h3 with h3
      subst h3
      cases hp : park with
      | none => exact woken_calm (.inl rfl)
      | some z =>
        obtain ⟨buf, s, r, hb⟩ := hc z hp
        exact woken_recv_open _ _ hb
theorem Inv.heap (h : Inv P S G Sb B0 W C Γ ch fr cs v park gh gs w t D) (hc : ch = some C) {j b : Nat} (hj : Mb (ActE D.E) j) : ¬ (D.V j).ρ b C := fun hb => by
  have := (h.chan hc).1
  rcases (h.mem.rel j hj).cell b C hb with ⟨_, ds, t, fr, fr', _, h2, _⟩ | ⟨_, y, l, _, h2, _⟩ | ⟨_, o', s, p, _, h2, h3, _⟩
  · rw [this] at h2; cases h2
  · rw [this] at h2; cases h2
  · rw [this] at h2
    injection h2 with h2
    rcases h3 with e | e <;> rw [e] at h2 <;> cases h2
theorem gh_set {i m : Nat} {h' : Gh} {x : Gh} (h : (gh.set i h')[m]? = some x) : (m = i ∧ x = h') ∨ (m ≠ i ∧ gh[m]? = some x) := by
  rw [List.getElem?_set] at h
  split at h
  · rename_i e
    split at h
    · injection h with h; exact .inl ⟨e.symm, h.symm⟩
    · cases h
  · rename_i e; exact .inr ⟨fun x => e x.symm, h⟩
theorem gh_lt {i : Nat} {x : Gh} (h : gh[i]? = some x) : i < gh.length := (List.getElem?_eq_some_iff.1 h).1
theorem Inv.go (h : Inv P S G Sb B0 W C Γ ch fr cs v park gh gs w t D) {k : Nat} {x x' : Gh} {g' : Goroutine} (hk : gh[k]? = some x) (ht : task x' = task x) (hg : GhI P S G Sb C (D.V (k + 1)) g' x') :
    Inv P S G Sb B0 W C Γ ch fr cs v park (gh.set k x') (gs.setIfInBounds (k + 1) g') w t D := by
  have hlt := gh_lt hk
  have hl := h.len
  have hgs : k + 1 < gs.size := by omega
  refine { h with main := ?_, bound := ?_, len := ?_, ghs := ?_, run := ?_, out := ?_ }
  · obtain ⟨fr', cs', h1, h2, h3⟩ := h.main
    exact ⟨fr', cs', h1, h2, by rw [Array.getElem?_setIfInBounds_ne (by omega)]; exact h3⟩
  · intro e he
    rw [Array.size_setIfInBounds]
    exact h.bound e he
  · rw [Array.size_setIfInBounds, List.length_set]; exact hl
  · intro m y hy
    rcases gh_set hy with ⟨rfl, rfl⟩ | ⟨hne, hy'⟩
    · exact ⟨g', Array.getElem?_setIfInBounds_self_of_lt hgs, hg⟩
    · obtain ⟨g, h1, h2⟩ := h.ghs m y hy'
      exact ⟨g, by rw [Array.getElem?_setIfInBounds_ne (by omega)]; exact h1, h2⟩
  · intro m y Q hy hQ
    rcases gh_set hy with ⟨rfl, rfl⟩ | ⟨hne, hy'⟩
    · exact h.run m x Q hk (ht ▸ hQ)
    · exact h.run m y Q hy' hQ
  · intro e he
    rcases h.out e he with ⟨y, h1, h2⟩ | h1
    · by_cases hm : e.1 - 1 = k
      · rw [hm] at h1 ⊢
        rw [hk] at h1
        injection h1 with h1
        subst h1
        exact .inl ⟨x', by rw [List.getElem?_set_self hlt], ht.trans h2⟩
      · exact .inl ⟨y, by rw [List.getElem?_set_ne (Ne.symm hm)]; exact h1, h2⟩
    · exact .inr h1
theorem Inv.work (hC : Ctx P S G Sb) (h : Inv P S G Sb B0 W C Γ ch fr cs v park gh gs w t D) {k : Nat} {f1 : Frame} {c1 : List Frame} {v1 : World} {Q : Post} (hk : gh[k]? = some (.work f1 c1 v1 Q)) (hn : ¬ AtSend P G Sb C Q f1 c1 v1) {g : Goroutine} (hg : gs[k + 1]? = some g) :
    ∃ g' w' es x' D', stepG P false g w = .go g' w' es ∧ GhR P G Sb C x' (.work f1 c1 v1 Q) ∧ (∀ z, park = some z → ∃ buf s r, w'.heap[C]? = some (.chan 3 buf false s r false)) ∧
      Inv P S G Sb B0 W C Γ ch fr cs v park (gh.set k x') (gs.setIfInBounds (k + 1) g') w' (t ++ MemOp.ofEvents (k + 1) g.frame.fn g.frame.place es) D' ∧ D'.pd = D.pd ∧ D'.E = D.E := by
  have hlt := gh_lt hk
  have hl := h.len
  obtain ⟨g1, hg1, rfl, ⟨fr', cs', hf, hcs, rfl⟩, hT⟩ := h.ghs k _ hk
  rw [hg] at hg1
  injection hg1 with hg1
  subst hg1
  obtain ⟨hE, hpos⟩ := h.run k _ Q hk rfl
  have hact : ActE D.E (k + 1) := ⟨Q, hE⟩
  have hmb : Mb (ActE D.E) (k + 1) := .inr hact
  have hch : ch = some C := h.opened fun e => by rw [e] at hE; cases hE
  obtain ⟨hchn, hB0, hs⟩ := h.chan hch
  have hCs : C < w.heap.size := (Array.getElem?_eq_some_iff.1 hchn).1
  cases hT with
  | stop _ _ _ hq => exact absurd hq hn
  | step _ _ _ hh hex hnx =>
    obtain ⟨x, v', hr⟩ := hex w.tape w.drawn
    have hw := h.mem.rel (k + 1) hmb
    have hpl : Plain (at2 (D.V (k + 1)).v w.tape w.drawn) := h.mem.plain (k + 1) hmb
    obtain ⟨ρ₂, y1, y2, w', evs, l2, he, hst, hf2, hcs2, hl2, hw2, hG, hp2, hkeep⟩ := member_step (main := false) hC hw (h.mem.glob (k + 1) hmb) hh hf hcs (.cons (exit_rel (P := P)) .nil) hpl hr
    have hl2' : l2 = [exitFrame P] := by
      cases hl2 with
      | cons h1 h2 => cases h2; rw [exit_eq h1]
    subst hl2'
    let V' : Nat → Vw := fun j => if j = k + 1 then ⟨(D.V (k + 1)).N, ρ₂, v'⟩ else D.V j
    have eV : ∀ j, j ≠ k + 1 → V' j = D.V j := fun j hj => if_neg hj
    have eV1 : V' (k + 1) = ⟨(D.V (k + 1)).N, ρ₂, v'⟩ := if_pos rfl
    have hmem := h.mem.step hmb he hw2 hG hp2 hkeep
    obtain ⟨hr1, hr2, hr3⟩ := h.mem.ranges hmb (v' := v') he hG
    have htr := h.tr.step h.mem.sep (g := k + 1) (.inr ⟨hact, hpos⟩) hG.size hr1 hr2 hr3 (u := MemOp.ofEvents (k + 1) fr'.fn fr'.place (seen P fr'.fn evs)) fun op hop => by
      obtain ⟨e, hee, rfl⟩ := Go.Conc.mem_ofEvents hop
      have hO := opC_of_EvC hw2 (hG.evs e (mem_seen hee)) (not_extern hee)
      refine ⟨rfl, hO.1, hO.2.1, fun a ha => ?_⟩
      obtain ⟨c, k1, ⟨b, k2⟩, k3⟩ := hO.2.2 a ha
      refine ⟨c, k1, ⟨b, by show (V' (k + 1)).ρ b c; rw [eV1]; exact k2⟩, fun hwr => ?_⟩
      obtain ⟨b2, k4, k5⟩ := k3 hwr
      exact ⟨b2, by show (V' (k + 1)).N ≤ b2; rw [eV1]; exact k4, by show (V' (k + 1)).ρ b2 c; rw [eV1]; exact k5⟩
    have hC2 : w'.heap[C]? = w.heap[C]? := hG.keep C hCs fun b _ => h.heap hch hmb
    have hgs : k + 1 < gs.size := by omega
    have h0 := h.main
    refine ⟨Go.Conc.G y1 (y2 ++ [exitFrame P]), w', seen P fr'.fn evs, .work x.1 x.2 v' Q, { D with V := V' }, hst, .step _ _ _ _ w.tape w.drawn x v' hn hr, fun z _ => ⟨_, _, _, hC2.trans hchn⟩, ?_, rfl, rfl⟩
    refine { gam := h.gam, nod := h.nod, three := h.three, inv := h.inv, pnod := h.pnod, opened := h.opened, only := h.only, v0 := ?_, mem := hmem, tr := htr, main := ?_, bound := ?_, len := ?_, ghs := ?_, run := ?_, out := ?_, pds := ?_, chan := ?_ }
    · show (V' 0).v = v
      rw [eV 0 (by omega)]; exact h.v0
    · obtain ⟨f0, c0, h1, h2, h3⟩ := h0
      refine ⟨f0, c0, ?_, ?_, by rw [Array.getElem?_setIfInBounds_ne (by omega)]; exact h3⟩
      · show FRel S (V' 0).ρ fr f0
        rw [eV 0 (by omega)]; exact h1
      · show FsRel S (V' 0).ρ cs c0
        rw [eV 0 (by omega)]; exact h2
    · intro e he
      rw [Array.size_setIfInBounds]
      exact h.bound e he
    · rw [Array.size_setIfInBounds, List.length_set]; exact hl
    · intro m y hy
      rcases gh_set hy with ⟨rfl, rfl⟩ | ⟨hne, hy'⟩
      · refine ⟨_, Array.getElem?_setIfInBounds_self_of_lt hgs, ?_⟩
        show GhI P S G Sb C (V' (m + 1)) _ _
        rw [eV1]
        exact ⟨rfl, ⟨y1, y2, hf2, hcs2, rfl⟩, hnx w.tape w.drawn x v' hr⟩
      · obtain ⟨g, h1, h2⟩ := h.ghs m y hy'
        refine ⟨g, by rw [Array.getElem?_setIfInBounds_ne (by omega)]; exact h1, ?_⟩
        show GhI P S G Sb C (V' (m + 1)) _ _
        rw [eV _ (by omega)]
        exact h2
    · intro m y Q' hy hQ
      rcases gh_set hy with ⟨rfl, rfl⟩ | ⟨hne, hy'⟩
      · exact h.run m _ Q' hk hQ
      · exact h.run m y Q' hy' hQ
    · intro e he
      rcases h.out e he with ⟨y, h1, h2⟩ | h1
      · by_cases hm : e.1 - 1 = k
        · rw [hm] at h1 ⊢
          rw [hk] at h1
          injection h1 with h1
          subst h1
          exact .inl ⟨.work x.1 x.2 v' Q, by rw [List.getElem?_set_self hlt], h2⟩
        · exact .inl ⟨y, by rw [List.getElem?_set_ne (Ne.symm hm)]; exact h1, h2⟩
      · exact .inr h1
    · intro n p hp
      obtain ⟨h1, h2, sp, op, h3, h4, h5⟩ := h.pds n p hp
      have hne : p.j ≠ k + 1 := fun e => by rw [e, hpos] at h3; cases h3
      refine ⟨?_, ?_, sp, op, h3, by rw [getElem?_append_old (lt_size_of_getElem? h4)]; exact h4, h5⟩
      · show ∃ Q, (p.j, Q) ∈ D.E ∧ Q p.x (V' p.j).v
        rw [eV _ hne]; exact h1
      · show VRel S (V' p.j).ρ p.x p.y
        rw [eV _ hne]; exact h2
    · intro hc
      exact ⟨hC2.trans hchn, hB0, hs⟩
end
end Go.Proofs.YtlipmagkplbkdaaDoor

/-! E5 -/
namespace Go.Proofs.YtlipmagkplbkdaaDoor
open Go Go.Conc Go.RowKit
set_option linter.unusedVariables false
set_option linter.unusedSimpArgs false
section
variable {P : Program} {S : FuncId → Prop} {G Sb : Nat → Bool} {B0 : Nat} {W w w' : World} {C : Nat} {Γ : List Post} {ch : Option Nat} {fr : Frame} {cs : List Frame} {v : World} {park : Option Value} {gh : List Gh} {gs : Array Goroutine} {t : Trace} {D : Dat}
theorem Inv.stirC (h : Inv P S G Sb B0 W C Γ ch fr cs v park gh gs w t D) (hc : ch = some C) (buf : Array Value) (s r : Nat) : Mem P S G B0 W (w.setChan C 3 buf false s r false) (ActE D.E) D.V := by
  refine h.mem.stir ?_ (fun j b c hj hb => ?_) ⟨rfl, rfl, rfl, ?_, fun c hcB => ?_⟩
  · show _ ≤ (w.heap.setIfInBounds C _).size
    rw [Array.size_setIfInBounds]; exact Nat.le_refl _
  · show (w.heap.setIfInBounds C _)[c]? = _
    rw [Array.getElem?_setIfInBounds_ne fun e => h.heap hc hj (e ▸ hb)]
  · show _ ≤ (w.heap.setIfInBounds C _).size
    rw [Array.size_setIfInBounds]; exact Nat.le_refl _
  · show (w.heap.setIfInBounds C _)[c]? = _
    have := (h.chan hc).2.1
    rw [Array.getElem?_setIfInBounds_ne (by omega)]
theorem setChan_size (w : World) (buf : Array Value) (s r : Nat) : (w.setChan C 3 buf false s r false).heap.size = w.heap.size := Array.size_setIfInBounds ..
theorem setChan_get {w : World} (hC : C < w.heap.size) (buf : Array Value) (s r : Nat) : (w.setChan C 3 buf false s r false).heap[C]? = some (.chan 3 buf false s r false) := Array.getElem?_setIfInBounds_self_of_lt hC
theorem setChan_twice (w : World) (buf buf' : Array Value) (s s' r r' : Nat) : (w.setChan C 3 buf false s r false).setChan C 3 buf' false s' r' false = w.setChan C 3 buf' false s' r' false := by
  show { w with heap := (w.heap.setIfInBounds C _).setIfInBounds C _ } = _
  rw [Array.setIfInBounds_setIfInBounds]
  rfl
theorem Inv.sent (hC : Ctx P S G Sb) (h : Inv P S G Sb B0 W C Γ ch fr cs v park gh gs w t D) {k : Nat} {f1 : Frame} {c1 : List Frame} {v1 : World} {Q : Post} (hk : gh[k]? = some (.work f1 c1 v1 Q)) (hn : AtSend P G Sb C Q f1 c1 v1) {g : Goroutine} (hg : gs[k + 1]? = some g) :
    ∃ x y q D', stepG P false g w = .comm g #[scase C y (.tuple #[])] true .send w #[] ∧ D'.pd = D.pd ++ [⟨k + 1, x, y⟩] ∧ D'.E = D.E ∧ D'.r = D.r ∧ D'.s = D.s + 1 ∧ w.heap[C]? = some (.chan 3 (D.pd.map Pd.y).toArray false D.s D.r false) ∧ D.s = D.r + D.pd.length ∧ C < w.heap.size ∧ D.pd.length < 3 ∧
      ∀ u : Trace, (∀ z ∈ u, z.act.touch? = none ∧ z.act.low w.heap.size ∧ ∀ m, z.act = .mark m → Neutral m) → (∃ z, u[0]? = some z ∧ z.g = k + 1 ∧ z.act = .send C D.s) →
        Inv P S G Sb B0 W C Γ ch fr cs v park (gh.set k (.leav q)) (gs.setIfInBounds (k + 1) (Go.Conc.served g undef)) (w.setChan C 3 ((D.pd.map Pd.y).toArray.push y) false (D.s + 1) D.r false) (t ++ u) D' := by
  have hlt := gh_lt hk
  have hl := h.len
  obtain ⟨g1, hg1, rfl, ⟨fr', cs', hf, hcs, rfl⟩, hT⟩ := h.ghs k _ hk
  rw [hg] at hg1
  injection hg1 with hg1
  subst hg1
  obtain ⟨hE, hpos⟩ := h.run k _ Q hk rfl
  have hact : ActE D.E (k + 1) := ⟨Q, hE⟩
  have hmb : Mb (ActE D.E) (k + 1) := .inr hact
  have hch : ch = some C := h.opened fun e => by rw [e] at hE; cases hE
  obtain ⟨hchn, hB0, hs⟩ := h.chan hch
  have hCs : C < w.heap.size := (Array.getElem?_eq_some_iff.1 hchn).1
  obtain ⟨rfl, hm, hkd, ops, i, kk, o, chx, xop, q, hto, ho, hwt, hop, hx1, hx2, hev, hQ, hq⟩ := hn
  cases hcs with | nil => ?_
  have hgl := h.mem.glob (k + 1) hmb
  have hvx := hf.eval hgl hC.sb xop hx2
  have hvc := hf.eval hgl hC.sb chx hx1
  rw [hev] at hvc
  have hvc' : fr'.eval chx = .chan (some C) := by
    generalize fr'.eval chx = u at hvc
    cases hvc
    rfl
  have hst : stepG P false (Go.Conc.G fr' ([] ++ [exitFrame P])) w = .comm (Go.Conc.G fr' ([] ++ [exitFrame P])) #[scase C (fr'.eval xop) (.tuple #[])] true .send w #[] := by
    have := oper_comm (P := P) (main := false) (fr := fr') (cs := [] ++ [exitFrame P]) (w := w) (w' := w) (es := #[]) (cases := #[scase C (fr'.eval xop) (.tuple #[])]) (bl := true) (sh := .send) hf.tm (hf.mode.trans hm) (hf.todo.trans hto) ho (by rw [← yielded_rel hf.tmps]; exact hwt) (by
      unfold execOp
      simp only [hop, hvc']
      rfl)
    rw [this, seen_none]
  -- how many wait in the channel
  have hsub : ∀ (l : List Pd) (m : List Nat), (l.map Pd.j).Nodup → (∀ p ∈ l, p.j ∈ m) → l.length ≤ m.length := by
    intro l
    induction l with
    | nil => exact fun _ _ _ => Nat.zero_le _
    | cons p l ih =>
      intro m hnd hm
      rw [List.map_cons, List.nodup_cons] at hnd
      have hpm := hm p (List.mem_cons_self ..)
      have := ih (m.erase p.j) hnd.2 fun p' hp' => by
        refine (List.mem_erase_of_ne fun e => hnd.1 ?_).2 (hm p' (List.mem_cons_of_mem _ hp'))
        rw [← e]; exact List.mem_map_of_mem hp'
      rw [List.length_erase_of_mem hpm] at this
      have := List.length_pos_of_mem hpm
      rw [List.length_cons]
      omega
  have hpdE : ∀ p ∈ D.pd, p.j ∈ (D.E.map Prod.fst) ∧ p.j ≠ k + 1 := fun p hp => by
    obtain ⟨n, hn⟩ := List.mem_iff_getElem?.1 hp
    obtain ⟨⟨Q', h1, _⟩, _, sp, op, h2, _⟩ := h.pds n p hn
    exact ⟨List.mem_map.2 ⟨_, h1, rfl⟩, fun e => by rw [e, hpos] at h2; cases h2⟩
  have hroom : D.pd.length < 3 := by
    have hin : k + 1 ∈ D.E.map Prod.fst := List.mem_map.2 ⟨_, hE, rfl⟩
    have h1 := hsub D.pd ((D.E.map Prod.fst).erase (k + 1)) h.pnod fun p hp => (List.mem_erase_of_ne (hpdE p hp).2).2 (hpdE p hp).1
    rw [List.length_erase_of_mem hin, List.length_map] at h1
    have h2 := h.three
    have h3 := List.length_pos_of_mem hE
    omega
  let pos' : Nat → Option Nat := fun j => if j = k + 1 then some t.size else D.pos j
  have ep : ∀ j, j ≠ k + 1 → pos' j = D.pos j := fun j hj => if_neg hj
  have ep1 : pos' (k + 1) = some t.size := if_pos rfl
  refine ⟨f1.eval xop, fr'.eval xop, q, { D with pd := D.pd ++ [⟨k + 1, f1.eval xop, fr'.eval xop⟩], pos := pos', s := D.s + 1 }, hst, rfl, rfl, rfl, rfl, hchn, hs, hCs, hroom, fun u hu hu0 => ?_⟩
  obtain ⟨z, hz0, hzg, hza⟩ := hu0
  have hgs : k + 1 < gs.size := by omega
  have htsz : (t ++ u)[t.size]? = some z := by rw [Array.getElem?_append_right (Nat.le_refl _), Nat.sub_self]; exact hz0
  refine { v0 := h.v0, gam := h.gam, nod := h.nod, three := h.three, inv := h.inv, opened := h.opened, only := h.only, mem := h.stirC hch _ _ _, tr := ?_, main := ?_, bound := ?_, len := ?_, ghs := ?_, run := ?_, out := ?_, pds := ?_, pnod := ?_, chan := ?_ }
  · rw [setChan_size]
    refine (h.tr.quietA (Nat.le_refl _) hu).pend (j := k + 1) (s := t.size) ep1 ep hpos fun i a ha => ?_
    rcases touch_in ha with ⟨_, hi⟩ | ⟨op, _, hou, hx⟩
    · exact hi
    · rw [(hu op hou).1] at hx; cases hx
  · obtain ⟨f0, c0, h1, h2, h3⟩ := h.main
    exact ⟨f0, c0, h1, h2, by rw [Array.getElem?_setIfInBounds_ne (by omega)]; exact h3⟩
  · intro e he
    rw [Array.size_setIfInBounds]
    exact h.bound e he
  · rw [Array.size_setIfInBounds, List.length_set]; exact hl
  · intro m y hy
    rcases gh_set hy with ⟨rfl, rfl⟩ | ⟨hne, hy'⟩
    · refine ⟨_, Array.getElem?_setIfInBounds_self_of_lt hgs, ?_⟩
      show QuitsIn P q (Go.Conc.G (fr'.finish undef) [exitFrame P])
      have e : ∃ tmps, fr'.finish undef = { fn := f1.fn, tmps, todo := .inRegion ops [] :: kk, defers := [], mode := .run, kind := .deferred } := by
        refine ⟨(fr'.finish undef).tmps, ?_⟩
        obtain ⟨fn, tmps, todo, defers, mode, kind, roundOf⟩ := fr'
        obtain ⟨h1, h2, h3, h4, h5, h6, h7, h8, h9, h10⟩ := hf
        simp only at *
        subst h1 h3 h4 h5 h8 h10
        unfold Frame.finish
        simp only [hto, hm, hkd]
      obtain ⟨tmps, e⟩ := e
      rw [e]
      exact hq tmps
    · obtain ⟨g, h1, h2⟩ := h.ghs m y hy'
      exact ⟨g, by rw [Array.getElem?_setIfInBounds_ne (by omega)]; exact h1, h2⟩
  · intro m y Q' hy hQ'
    rcases gh_set hy with ⟨rfl, rfl⟩ | ⟨hne, hy'⟩
    · cases hQ'
    · obtain ⟨h1, h2⟩ := h.run m y Q' hy' hQ'
      exact ⟨h1, (ep (m + 1) (by omega)).trans h2⟩
  · intro e he
    rcases h.out e he with ⟨y, h1, h2⟩ | ⟨p, h1, h2⟩
    · by_cases hm : e.1 - 1 = k
      · have : e.1 ≠ 0 := by have := h.mem.pos e.1 ⟨e.2, he⟩; omega
        exact .inr ⟨_, List.mem_append_right _ (List.mem_singleton.2 rfl), by show k + 1 = e.1; omega⟩
      · exact .inl ⟨y, by rw [List.getElem?_set_ne (Ne.symm hm)]; exact h1, h2⟩
    · exact .inr ⟨p, List.mem_append_left _ h1, h2⟩
  · intro n p hp
    have hp : (D.pd ++ [⟨k + 1, f1.eval xop, fr'.eval xop⟩])[n]? = some p := hp
    by_cases hnl : n < D.pd.length
    · rw [List.getElem?_append_left hnl] at hp
      obtain ⟨h1, h2, sp, op, h3, h4, h5⟩ := h.pds n p hp
      have hne := (hpdE p (List.mem_of_getElem? hp)).2
      exact ⟨h1, h2, sp, op, (ep _ hne).trans h3, by rw [getElem?_append_old (lt_size_of_getElem? h4)]; exact h4, h5⟩
    · rw [List.getElem?_append_right (by omega)] at hp
      have hn0 : n - D.pd.length = 0 := by
        have := (List.getElem?_eq_some_iff.1 hp).1
        simpa using this
      rw [hn0] at hp
      simp only [List.getElem?_cons_zero, Option.some.injEq] at hp
      subst hp
      refine ⟨⟨Q, hE, hQ⟩, hvx, t.size, z, ep1, htsz, hzg, ?_⟩
      rw [hza]
      show MemAct.send C D.s = .send C (D.r + n)
      rw [hs]
      congr 2
      omega
  · show ((D.pd ++ [_]).map Pd.j).Nodup
    rw [List.map_append, List.map_singleton, List.nodup_append]
    refine ⟨h.pnod, by simp, fun a ha b hb => ?_⟩
    obtain ⟨p, hp, rfl⟩ := List.mem_map.1 ha
    rw [List.mem_singleton.1 hb]
    exact (hpdE p hp).2
  · intro hc
    refine ⟨?_, hB0, ?_⟩
    · rw [setChan_get hCs]
      show some (Obj.chan 3 _ false (D.s + 1) D.r false) = some (.chan 3 ((D.pd ++ [_]).map Pd.y).toArray false (D.s + 1) D.r false)
      congr 2
      simp
    · show D.s + 1 = D.r + (D.pd ++ [_]).length
      rw [List.length_append, hs]
      rfl
theorem Inv.took (h : Inv P S G Sb B0 W C Γ ch fr cs v park gh gs w t D) {p : Pd} {rest : List Pd} (hpd : D.pd = p :: rest) {f' : Frame} {c' : List Frame} (h0 : gs[0]? = some (stand C park (Go.Conc.G f' c'))) {ops : Array Oper} {i : Nat} {r : List Nat} {k : List Item} (hto : fr.todo = .inRegion ops (i :: r) :: k)
    {pp : Nat} {z : MemOp} (hz : t[pp]? = some z) (hzg : z.g = 0) (hza : z.act = .recvDone C D.r) :
    ∃ Γ1 Q Γ2 v' x' D', Γ = Γ1 ++ Q :: Γ2 ∧ Grow v v' ∧ Q x' (hide v v') ∧ Self P S G (fr.finish x') cs v' ∧ D'.pd = rest ∧
      Inv P S G Sb B0 W C (Γ1 ++ Γ2) ch (fr.finish x') cs v' none gh (gs.setIfInBounds 0 (Go.Conc.served (Go.Conc.G f' c') p.y)) (w.setChan C 3 (rest.map Pd.y).toArray false D.s (D.r + 1) false) t D' := by
  obtain ⟨⟨Q, hE, hQ⟩, hxy, sp, op, hps, hts, hog, hoa⟩ := h.pds 0 p (by rw [hpd]; rfl)
  have hch : ch = some C := h.opened fun e => by rw [e] at hE; cases hE
  obtain ⟨hchn, hB0, hs⟩ := h.chan hch
  have hCs : C < w.heap.size := (Array.getElem?_eq_some_iff.1 hchn).1
  obtain ⟨f0, c0, hf, hc, h1⟩ := h.main
  have hfc : f0 = f' ∧ c0 = c' := by
    rw [h0] at h1
    injection h1 with h1
    cases park with
    | none => injection h1 with e1 e2; exact ⟨e1.symm, e2.symm⟩
    | some z => injection h1 with e1 e2; exact ⟨e1.symm, e2.symm⟩
  obtain ⟨rfl, rfl⟩ := hfc
  obtain ⟨E1, E2, hE12⟩ := List.append_of_mem hE
  have hnd : (p.j :: (E1 ++ E2).map Prod.fst).Nodup := by
    have h2 := h.nod
    rw [hE12] at h2
    have hp : (E1 ++ (p.j, Q) :: E2).Perm ((p.j, Q) :: (E1 ++ E2)) := List.perm_middle
    have := (hp.map Prod.fst).nodup h2
    simpa using this
  rw [List.nodup_cons] at hnd
  have inE : ∀ e, e ∈ E1 ++ E2 ↔ e ∈ D.E ∧ e.1 ≠ p.j := fun e => by
    constructor
    · intro he
      refine ⟨?_, fun x => hnd.1 (List.mem_map.2 ⟨e, he, x⟩)⟩
      rw [hE12]
      rcases List.mem_append.1 he with h | h
      · exact List.mem_append_left _ h
      · exact List.mem_append_right _ (List.mem_cons_of_mem _ h)
    · rintro ⟨he, hne⟩
      rw [hE12] at he
      rcases List.mem_append.1 he with h | h
      · exact List.mem_append_left _ h
      · rcases List.mem_cons.1 h with h | h
        · rw [h] at hne; exact absurd rfl hne
        · exact List.mem_append_right _ h
  have hA : ∀ j, ActE (E1 ++ E2) j ↔ ActE D.E j ∧ j ≠ p.j := fun j => by
    constructor
    · rintro ⟨Q', hQ'⟩
      have := (inE _).1 hQ'
      exact ⟨⟨Q', this.1⟩, this.2⟩
    · rintro ⟨⟨Q', hQ'⟩, hne⟩
      exact ⟨Q', (inE _).2 ⟨hQ', hne⟩⟩
  have hactp : ActE D.E p.j := ⟨Q, hE⟩
  have hinv := h.inv _ hE
  obtain ⟨v', ρ', x', hgr, hq', hx', hext, hmem⟩ := (h.stirC hch (rest.map Pd.y).toArray D.s (D.r + 1)).take hactp hA hinv hxy hQ
  let V' : Nat → Vw := fun k => if k = 0 then ⟨(D.V 0).N, ρ', v'⟩ else D.V k
  have eV : ∀ j, j ≠ 0 → V' j = D.V j := fun j hj => if_neg hj
  have eV0 : V' 0 = ⟨(D.V 0).N, ρ', v'⟩ := if_pos rfl
  have hfin : FRel S ρ' (fr.finish x') (f0.finish p.y) := (hf.mono hext).finish hto hx'
  have hv0 := h.v0
  have hwr := hmem.main
  have hself : Self P S G (fr.finish x') cs v' := by
    have h2 : WRel P S (V' 0).N (V' 0).ρ (at2 (V' 0).v (w.setChan C 3 (rest.map Pd.y).toArray false D.s (D.r + 1) false).tape (w.setChan C 3 (rest.map Pd.y).toArray false D.s (D.r + 1) false).drawn) (w.setChan C 3 (rest.map Pd.y).toArray false D.s (D.r + 1) false) := hwr
    rw [eV0] at h2
    have hpl : Plain (V' 0).v := hmem.plain 0 (.inl rfl)
    rw [eV0] at hpl
    have hgl : GlOk G (V' 0).ρ := hmem.glob 0 (.inl rfl)
    rw [eV0] at hgl
    have := (Self.of (cs := cs) (v := at2 v' w.tape w.drawn) hpl h2 hgl hfin (hc.mono hext)).at2 v'.tape v'.drawn
    exact this
  have hlt0 : 0 < gs.size := (Array.getElem?_eq_some_iff.1 h0).1
  have hpj : ∀ p' ∈ rest, p'.j ≠ p.j := fun p' hp' e => by
    have := h.pnod
    rw [hpd, List.map_cons, List.nodup_cons] at this
    exact this.1 (e ▸ List.mem_map_of_mem hp')
  refine ⟨E1.map Prod.snd, Q, E2.map Prod.snd, v', x', { D with V := V', E := E1 ++ E2, pd := rest, r := D.r + 1 }, ?_, by rw [← hv0]; exact hgr, by rw [← hv0]; exact hq', hself, rfl, ?_⟩
  · rw [← h.gam, hE12, List.map_append, List.map_cons]
  refine { v0 := by show (V' 0).v = v'; rw [eV0], mem := hmem, tr := ?_, main := ?_, gam := List.map_append .., nod := hnd.2, three := ?_, inv := fun e he => h.inv e ((inE e).1 he).1, bound := ?_, len := ?_, ghs := ?_, run := ?_, out := ?_, pds := ?_, pnod := ?_, opened := fun _ => hch, only := h.only, chan := ?_ }
  · rw [setChan_size]
    refine h.tr.take (j := p.j) hps hts hog (n := D.r) hoa hz hzg hza hA (fun j hj e => by have := h.mem.pos j hj; omega) fun j hj0 hjp c => ?_
    unfold rngV ownV
    show ((∃ b, (V' j).ρ b c) ↔ _) ∧ ((∃ b, (V' j).N ≤ b ∧ (V' j).ρ b c) ↔ _)
    rw [eV j hj0]
    exact ⟨Iff.rfl, Iff.rfl⟩
  · refine ⟨f0.finish p.y, c0, ?_, ?_, by rw [Array.getElem?_setIfInBounds_self_of_lt hlt0]; rfl⟩
    · show FRel S (V' 0).ρ _ _
      rw [eV0]; exact hfin
    · show FsRel S (V' 0).ρ _ _
      rw [eV0]; exact hc.mono hext
  · have := h.three
    rw [hE12, List.length_append, List.length_cons] at this
    show (E1 ++ E2).length ≤ 3
    rw [List.length_append]
    omega
  · intro e he
    rw [Array.size_setIfInBounds]
    exact h.bound e ((inE e).1 he).1
  · rw [Array.size_setIfInBounds]; exact h.len
  · intro m y hy
    obtain ⟨g, h1, h2⟩ := h.ghs m y hy
    refine ⟨g, by rw [Array.getElem?_setIfInBounds_ne (by omega)]; exact h1, ?_⟩
    show GhI P S G Sb C (V' (m + 1)) g y
    rw [eV _ (by omega)]
    exact h2
  · intro m y Q' hy hQ'
    obtain ⟨h1, h2⟩ := h.run m y Q' hy hQ'
    exact ⟨(inE _).2 ⟨h1, fun e => by
      have e : m + 1 = p.j := e
      rw [e, hps] at h2; cases h2⟩, h2⟩
  · intro e he
    obtain ⟨he1, he2⟩ := (inE e).1 he
    rcases h.out e he1 with h1 | ⟨p', h1, h2⟩
    · exact .inl h1
    · rw [hpd] at h1
      rcases List.mem_cons.1 h1 with h1 | h1
      · rw [h1] at h2; exact absurd h2.symm he2
      · exact .inr ⟨p', h1, h2⟩
  · intro n p' hp'
    obtain ⟨⟨Q', h1, h1'⟩, h2, sp', op', h3, h4, h5, h6⟩ := h.pds (n + 1) p' (by rw [hpd]; exact hp')
    have hne0 : p'.j ≠ 0 := by have := h.mem.pos p'.j ⟨Q', h1⟩; omega
    refine ⟨?_, ?_, sp', op', h3, h4, h5, ?_⟩
    · refine ⟨Q', (inE _).2 ⟨h1, hpj p' (List.mem_of_getElem? hp')⟩, ?_⟩
      show Q' p'.x (V' p'.j).v
      rw [eV _ hne0]; exact h1'
    · show VRel S (V' p'.j).ρ p'.x p'.y
      rw [eV _ hne0]; exact h2
    · rw [h6]
      show MemAct.send C (D.r + (n + 1)) = .send C (D.r + 1 + n)
      congr 1
      omega
  · have := h.pnod
    rw [hpd, List.map_cons, List.nodup_cons] at this
    exact this.2
  · intro _
    refine ⟨setChan_get hCs _ _ _, hB0, ?_⟩
    rw [hpd, List.length_cons] at hs
    show D.s = D.r + 1 + rest.length
    omega
end
end Go.Proofs.YtlipmagkplbkdaaDoor

/-! E6 -/
namespace Go.Proofs.YtlipmagkplbkdaaDoor
open Go Go.Conc Go.RowKit
set_option linter.unusedVariables false
set_option linter.unusedSimpArgs false
section
variable {P : Program} {S : FuncId → Prop} {G Sb : Nat → Bool} {B0 : Nat} {W w w' : World} {C : Nat} {Γ : List Post} {ch : Option Nat} {fr : Frame} {cs : List Frame} {v : World} {park : Option Value} {gh : List Gh} {gs : Array Goroutine} {t : Trace} {D : Dat}
theorem events_none (i : Nat) (fn : FuncId) (pos : String) : MemOp.ofEvents i fn pos #[] = #[] := by rw [ofEvents_eq]; simp
def Took (P : Program) (S : FuncId → Prop) (G Sb : Nat → Bool) (B0 : Nat) (W : World) (C : Nat) (Γ : List Post) (ch : Option Nat) (fr : Frame) (cs : List Frame) (v : World) (gs : Array Goroutine) (w : World) (t : Trace) : Prop :=
  ∃ Γ1 Q Γ2 v' x' gh' D', Γ = Γ1 ++ Q :: Γ2 ∧ Grow v v' ∧ Q x' (hide v v') ∧ Self P S G (fr.finish x') cs v' ∧ Inv P S G Sb B0 W C (Γ1 ++ Γ2) ch (fr.finish x') cs v' none gh' gs w t D'
def HasTodo (fr : Frame) : Prop := ∃ ops i r k, fr.todo = .inRegion ops (i :: r) :: k
theorem mem2 {x y z : MemOp} (h : z ∈ (#[x, y] : Trace)) : z = x ∨ z = y := by simpa using h
theorem mem4 {x y a b z : MemOp} (h : z ∈ (#[x, y, a, b] : Trace)) : z = x ∨ z = y ∨ z = a ∨ z = b := by simpa using h
theorem Inv.other (hC : Ctx P S G Sb) (h : Inv P S G Sb B0 W C Γ ch fr cs v park gh gs w t D) (hpk : ∀ z, park = some z → ch = some C ∧ D.pd = [] ∧ HasTodo fr) {k : Nat} {g : Goroutine} (hg : gs[k + 1]? = some g) (hrun : g.status = .running) (sl : Option (Nat × Nat)) :
    ∃ gs' w' ops, runT P (crowd gs w sl) (k + 1) = (.next (crowd gs' w' sl), ops) ∧
      ((∃ gh' D', LD (GhR P G Sb C) gh' gh ∧ Inv P S G Sb B0 W C Γ ch fr cs v park gh' gs' w' (t ++ ops) D' ∧ ∀ z, park = some z → D'.pd = []) ∨ park ≠ none ∧ Took P S G Sb B0 W C Γ ch fr cs v gs' w' (t ++ ops)) := by
  have hlt := (Array.getElem?_eq_some_iff.1 hg).1
  have hl := h.len
  have hkl : k < gh.length := by omega
  have hk : gh[k]? = some gh[k] := List.getElem?_eq_getElem hkl
  generalize gh[k] = x at hk
  have hi0 : (k + 1 == 0) = false := rfl
  obtain ⟨g1, hg1, hI⟩ := h.ghs k x hk
  rw [hg] at hg1
  injection hg1 with hg1
  subst hg1
  have hopen : ∀ z, park = some z → ∃ buf s r, w.heap[C]? = some (.chan 3 buf false s r false) := fun z hz => ⟨_, _, _, (h.chan (hpk z hz).1).1⟩
  have still : ∀ {g' x'}, stepG P false g w = .go g' w → GhR P G Sb C x' x → task x' = task x → GhI P S G Sb C (D.V (k + 1)) g' x' → ∃ gs' w' ops, runT P (crowd gs w sl) (k + 1) = (.next (crowd gs' w' sl), ops) ∧
      ((∃ gh' D', LD (GhR P G Sb C) gh' gh ∧ Inv P S G Sb B0 W C Γ ch fr cs v park gh' gs' w' (t ++ ops) D' ∧ ∀ z, park = some z → D'.pd = []) ∨ park ≠ none ∧ Took P S G Sb B0 W C Γ ch fr cs v gs' w' (t ++ ops)) := fun {g' x'} hst hR ht hI' => by
    refine ⟨gs.setIfInBounds (k + 1) g', w, #[], ?_, .inl ⟨gh.set k x', D, ld_set hk hR, ?_, fun z hz => (hpk z hz).2.1⟩⟩
    · rw [runT_crowd_go hg (by rw [hi0]; exact hst), h.woken _ _ hopen, events_none]
    · rw [Array.append_empty]
      exact h.go hk ht hI'
  cases x with
  | leav q =>
    cases q with
    | zero =>
      have hI : g.status = .finished := hI
      rw [hrun] at hI; cases hI
    | succ q =>
      rcases hI with hf | ⟨_, g', hst, hq⟩
      · rw [hrun] at hf; cases hf
      · exact still (hst w) (.leav q) rfl hq
  | start f caps v1 Q =>
    obtain ⟨hv, ⟨caps', hcaps, rfl⟩, ⟨fn, c, h1, h2, h3⟩, hT⟩ := hI
    refine still (born_step h1 h2 h3 w false) (.enter f caps v1 Q) rfl ⟨hv, ⟨Frame.enter P f caps' .deferred, [], .enter f .deferred (by simp) hcaps, .nil, rfl⟩, hT⟩
  | work f1 c1 v1 Q =>
    by_cases hn : AtSend P G Sb C Q f1 c1 v1
    · obtain ⟨x, y, q, D', hst, hpd, hE, hr', hs', hch, hs, hCs, hroom, hk2⟩ := h.sent hC hk hn hg
      cases hp : park with
      | none =>
        have hparts : partners (gs.setIfInBounds (k + 1) ph) C false = [] := Go.Conc.partners_nil fun j y hy => by
          refine offersAt_of_not_blocked ?_ _ _
          rcases getElem?_stand gs (k + 1) j y hy with ⟨_, rfl⟩ | ⟨_, hy⟩
          · simp [ph]
          · cases j with
            | zero =>
              obtain ⟨f0, c0, _, _, h3⟩ := h.main
              rw [hy, hp] at h3
              injection h3 with h3
              subst h3
              show GoStatus.running ≠ .blocked
              simp
            | succ j => rcases h.status hy with e | e <;> rw [e] <;> simp
        refine ⟨_, _, _, crowd_send_room hg (by rw [hi0]; exact hst) hch (by simpa using hroom) hparts, .inl ⟨gh.set k (.leav q), D', ld_set hk (.sent _ _ _ _ _), ?_, fun z hz => by cases hz⟩⟩
        rw [← hp, finishComm_send, events_none, Array.empty_append]
        refine hk2 _ (fun z hz => ?_) ⟨_, rfl, rfl, rfl⟩
        rcases mem2 hz with rfl | rfl <;> exact ⟨rfl, hCs, fun m hm => by cases hm⟩
      | some z =>
        obtain ⟨hch2, hpd0, ops, i, r, kk, hto⟩ := hpk z hp
        obtain ⟨f0, c0, _, _, h0⟩ := h.main
        rw [hp] at h0
        have h0 : gs[0]? = some (parked (Go.Conc.G f0 c0) #[rcase C z] (.recv false)) := h0
        have hparts : partners (gs.setIfInBounds (k + 1) ph) C false = [(0, 0)] := by
          have h0' : (gs.setIfInBounds (k + 1) ph)[0]? = some (parked (Go.Conc.G f0 c0) #[rcase C z] (.recv false)) := by rw [Array.getElem?_setIfInBounds_ne (by omega)]; exact h0
          rw [partners_one h0' fun j y hj hy => ?_, offersAt_parked_recv, if_pos rfl]
          · rfl
          · refine offersAt_of_not_blocked ?_ _ _
            rcases getElem?_stand gs (k + 1) j y hy with ⟨_, rfl⟩ | ⟨_, hy⟩
            · simp [ph]
            · cases j with
              | zero => exact absurd rfl hj
              | succ j => rcases h.status hy with e | e <;> rw [e] <;> simp
        have hstep := crowd_send_meets (sl := sl) hg (by rw [hi0]; exact hst) hch (j := 0) (by omega) h0 hparts
        rw [finishComm_send, finishComm_recv, events_none, Array.empty_append] at hstep
        refine ⟨_, _, _, hstep, .inr ⟨by simp, ?_⟩⟩
        have hI2 := hk2 (fun z hz => by
          rcases mem4 hz with rfl | rfl | rfl | rfl <;> exact ⟨rfl, hCs, fun m hm => by cases hm⟩) ⟨{ g := k + 1, fn := g.frame.fn, pos := g.frame.place, act := .send C D.s }, rfl, rfl, rfl⟩ (u := #[{ g := k + 1, fn := g.frame.fn, pos := g.frame.place, act := .send C D.s }, { g := 0, fn := f0.fn, pos := f0.place, act := .recv C D.r 3 },
        { g := k + 1, fn := g.frame.fn, pos := g.frame.place, act := .sendDone C D.s }, { g := 0, fn := f0.fn, pos := f0.place, act := .recvDone C D.r }])
        have hpd1 : D'.pd = ⟨k + 1, x, y⟩ :: [] := by rw [hpd, hpd0]; rfl
        obtain ⟨Γ1, Q1, Γ2, v', x', D2, e1, e2, e3, e4, e5, e6⟩ := hI2.took (p := ⟨k + 1, x, y⟩) hpd1 (f' := f0) (c' := c0) (by rw [Array.getElem?_setIfInBounds_ne (by omega), hp]; exact h0) hto (pp := t.size + 3) (z := { g := 0, fn := f0.fn, pos := f0.place, act := .recvDone C D.r })
          (by rw [Array.getElem?_append_right (by omega), show t.size + 3 - t.size = 3 by omega]; rfl) rfl (by rw [hr'])
        refine ⟨Γ1, Q1, Γ2, v', x', gh.set k (.leav q), D2, e1, e2, e3, e4, ?_⟩
        rw [setChan_twice, hs', hr', Array.setIfInBounds_comm _ _ (by omega)] at e6
        rw [hpd0]
        exact e6
    · obtain ⟨g', w', es, x', D', hst, hR, hop, hI', hpd, hE⟩ := h.work hC hk hn hg
      refine ⟨_, _, _, runT_crowd_go hg (by rw [hi0]; exact hst), .inl ⟨gh.set k x', D', ld_set hk hR, ?_, fun z hz => by rw [hpd]; exact (hpk z hz).2.1⟩⟩
      rw [h.woken _ _ hop]
      exact hI'
end
end Go.Proofs.YtlipmagkplbkdaaDoor

/-! E7 -/
namespace Go.Proofs.YtlipmagkplbkdaaDoor
open Go Go.Conc Go.RowKit
set_option linter.unusedVariables false
set_option linter.unusedSimpArgs false
section
variable {P : Program} {S : FuncId → Prop} {G Sb : Nat → Bool} {B0 : Nat} {W w w' : World} {C : Nat} {Γ : List Post} {ch : Option Nat} {fr : Frame} {cs : List Frame} {v : World} {gh : List Gh} {gs : Array Goroutine} {t : Trace} {D : Dat}
theorem Inv.tame (hC : Ctx P S G Sb) (h : Inv P S G Sb B0 W C Γ ch fr cs v none gh gs w t D) (hh : okHead P G Sb fr) {x : Frame × List Frame} {v' : World} (hr : (stepS P fr cs).run P (at2 v w.tape w.drawn) = .ok x v') :
    ∃ g g' w' es D', gs[0]? = some g ∧ stepG P true g w = .go g' w' es ∧ Inv P S G Sb B0 W C Γ ch x.1 x.2 v' none gh (gs.setIfInBounds 0 g') w' (t ++ MemOp.ofEvents 0 g.frame.fn g.frame.place es) D' := by
  have hl := h.len
  obtain ⟨fr', cs', hf, hcs, h0⟩ := h.main
  have hmb : Mb (ActE D.E) 0 := .inl rfl
  have hv0 := h.v0
  subst hv0
  have hw := h.mem.main
  have hpl : Plain (at2 (D.V 0).v w.tape w.drawn) := h.mem.plain 0 hmb
  obtain ⟨ρ₂, y1, y2, w', evs, l2, he, hst, hf2, hcs2, hl2, hw2, hG, hp2, hkeep⟩ := member_step (main := true) hC hw (h.mem.glob 0 hmb) hh hf hcs .nil hpl hr
  cases hl2
  rw [List.append_nil] at hst
  rw [List.append_nil] at hst
  let V' : Nat → Vw := fun j => if j = 0 then ⟨(D.V 0).N, ρ₂, v'⟩ else D.V j
  have eV : ∀ j, j ≠ 0 → V' j = D.V j := fun j hj => if_neg hj
  have eV1 : V' 0 = ⟨(D.V 0).N, ρ₂, v'⟩ := if_pos rfl
  have hmem := h.mem.step hmb he hw2 hG hp2 hkeep
  obtain ⟨hr1, hr2, hr3⟩ := h.mem.ranges hmb (v' := v') he hG
  have htr := h.tr.step h.mem.sep (g := 0) (.inl rfl) hG.size hr1 hr2 hr3 (u := MemOp.ofEvents 0 fr'.fn fr'.place (seen P fr'.fn evs)) fun op hop => by
    obtain ⟨e, hee, rfl⟩ := Go.Conc.mem_ofEvents hop
    have hO := opC_of_EvC hw2 (hG.evs e (mem_seen hee)) (not_extern hee)
    refine ⟨rfl, hO.1, hO.2.1, fun a ha => ?_⟩
    obtain ⟨c, k1, ⟨b, k2⟩, k3⟩ := hO.2.2 a ha
    refine ⟨c, k1, ⟨b, by show (V' 0).ρ b c; rw [eV1]; exact k2⟩, fun hwr => ?_⟩
    obtain ⟨b2, k4, k5⟩ := k3 hwr
    exact ⟨b2, by show (V' 0).N ≤ b2; rw [eV1]; exact k4, by show (V' 0).ρ b2 c; rw [eV1]; exact k5⟩
  have hlt0 : 0 < gs.size := by omega
  refine ⟨_, Go.Conc.G y1 y2, w', seen P fr'.fn evs, { D with V := V' }, h0, hst, ?_⟩
  refine { gam := h.gam, nod := h.nod, three := h.three, inv := h.inv, pnod := h.pnod, opened := h.opened, only := h.only, run := h.run, out := h.out, v0 := ?_, mem := hmem, tr := htr, main := ?_, bound := ?_, len := ?_, ghs := ?_, pds := ?_, chan := ?_ }
  · show (V' 0).v = v'
    rw [eV1]
  · refine ⟨y1, y2, ?_, ?_, by rw [Array.getElem?_setIfInBounds_self_of_lt hlt0]; rfl⟩
    · show FRel S (V' 0).ρ x.1 y1
      rw [eV1]; exact hf2
    · show FsRel S (V' 0).ρ x.2 y2
      rw [eV1]; exact hcs2
  · intro e he
    rw [Array.size_setIfInBounds]
    exact h.bound e he
  · rw [Array.size_setIfInBounds]; exact hl
  · intro m y hy
    obtain ⟨g, h1, h2⟩ := h.ghs m y hy
    refine ⟨g, by rw [Array.getElem?_setIfInBounds_ne (by omega)]; exact h1, ?_⟩
    show GhI P S G Sb C (V' (m + 1)) _ _
    rw [eV _ (by omega)]
    exact h2
  · intro n p hp
    obtain ⟨⟨Q', h1, h1'⟩, h2, sp, op, h3, h4, h5⟩ := h.pds n p hp
    have hne : p.j ≠ 0 := by have := h.mem.pos p.j ⟨Q', h1⟩; omega
    refine ⟨⟨Q', h1, ?_⟩, ?_, sp, op, h3, by rw [getElem?_append_old (lt_size_of_getElem? h4)]; exact h4, h5⟩
    · show Q' p.x (V' p.j).v
      rw [eV _ hne]; exact h1'
    · show VRel S (V' p.j).ρ p.x p.y
      rw [eV _ hne]; exact h2
  · intro hc
    obtain ⟨hchn, hB0, hs⟩ := h.chan hc
    have hCs : C < w.heap.size := (Array.getElem?_eq_some_iff.1 hchn).1
    exact ⟨(hG.keep C hCs fun b _ => h.heap hc hmb).trans hchn, hB0, hs⟩
theorem head_rel {ρ : Ren} {f f' : Frame} {o : Oper} (h : Head f o) (hf : FRel S ρ f f') : f'.mode = .run ∧ ∃ ops i r k, f.todo = .inRegion ops (i :: r) :: k ∧ f'.todo = .inRegion ops (i :: r) :: k ∧ ops[i]? = some o ∧ Region.wanted o (yielded ops f'.tmps) = true := by
  obtain ⟨h1, ops, i, r, k, h2, h3, h4⟩ := h
  exact ⟨hf.mode.trans h1, ops, i, r, k, h2, hf.todo.trans h2, h3, by rw [← yielded_rel hf.tmps]; exact h4⟩
theorem map_rel {ρ : Ren} {f f' : Frame} (h : FRel S ρ f f') (hG : GlOk G ρ) (hS : ∀ f, Sb f = true → S f) {as : Array Operand} (ha : as.all (okX G Sb) = true) : AsRel S ρ (as.map f.eval) (as.map f'.eval) :=
  ⟨by simp, fun i h1 h2 => by
    simp only [Array.getElem_map]
    exact h.eval hG hS _ (Array.all_eq_true_iff_forall_mem.1 ha _ (Array.getElem_mem _))⟩
theorem exec_enter {o : Oper} {f : FuncId} {as : Array Operand} {ats : Array TypeId} (hop : o.op = .call { callee := .value (.func f), args := as, argTypes := ats }) (hfn : ∃ fn c, P.funcs[f]? = some fn ∧ fn.body = some c ∧ (fn.name == "runtime.NumGoroutine") = false) (fr : Frame) (w : World) :
    (execOp fr.eval o).runT P w #[] = (.ok (.enter f (as.map fr.eval)) w, #[]) := by
  obtain ⟨fn, c, hf, hb, hn⟩ := hfn
  unfold execOp
  simp only [hop]
  unfold resolve
  show ((Deferred.ofValue (.func (.func f) #[] #[]) (as.map fr.eval) >>= fun d => invoke d.target d.args)).runT P w #[] = _
  show (callFunc f ((#[] ++ as.map fr.eval) ++ #[])).runT P w #[] = _
  rw [Array.empty_append, Array.append_empty]
  unfold callFunc
  simp only [program, bind, Sem.bind]
  unfold Sem.runT
  simp only [hf, hn, hb, Bool.false_eq_true, if_false, Option.isNone_some]
  rfl
theorem Inv.entered (hC : Ctx P S G Sb) (h : Inv P S G Sb B0 W C Γ ch fr cs v none gh gs w t D) {o : Oper} {f : FuncId} {as : Array Operand} {ats : Array TypeId} (ho : Head fr o) (hop : o.op = .call { callee := .value (.func f), args := as, argTypes := ats }) (ha : as.all (okX G Sb) = true)
    (hfn : ∃ fn c, P.funcs[f]? = some fn ∧ fn.body = some c ∧ (fn.name == "runtime.NumGoroutine") = false) :
    ∃ g g', gs[0]? = some g ∧ stepG P true g w = .go g' w #[] ∧ Inv P S G Sb B0 W C Γ ch (Frame.enter P f (as.map fr.eval) .normal) (fr :: cs) v none gh (gs.setIfInBounds 0 g') w t D := by
  have hl := h.len
  obtain ⟨fr', cs', hf, hcs, h0⟩ := h.main
  obtain ⟨hm, ops, i, r, k, hto, hto', hopi, hwt⟩ := head_rel ho hf
  have hst : stepG P true (Go.Conc.G fr' cs') w = .go (Go.Conc.G (Frame.enter P f (as.map fr'.eval) .normal) (fr' :: cs')) w #[] := by
    have h2 : (stepS P fr' cs').runT P w #[] = (.ok (Frame.enter P f (as.map fr'.eval) .normal, fr' :: cs') w, #[]) := by
      unfold stepS
      simp only [hm, hto', hopi, hwt, if_true]
      show Sem.runT P (Sem.bind _ _) w #[] = _
      rw [Sem.runT_bind', exec_enter hop hfn]
      rfl
    rw [stepG_of_S hf.tm h2, seen_none]
  have hlt0 : 0 < gs.size := by omega
  refine ⟨_, Go.Conc.G (Frame.enter P f (as.map fr'.eval) .normal) (fr' :: cs'), h0, hst, ?_⟩
  refine { h with main := ?_, bound := ?_, len := ?_, ghs := ?_ }
  · exact ⟨_, _, .enter f .normal (by simp) (map_rel hf (h.mem.glob 0 (.inl rfl)) hC.sb ha), .cons hf hcs, by rw [Array.getElem?_setIfInBounds_self_of_lt hlt0]; rfl⟩
  · intro e he
    rw [Array.size_setIfInBounds]
    exact h.bound e he
  · rw [Array.size_setIfInBounds]; exact hl
  · intro m y hy
    obtain ⟨g, h1, h2⟩ := h.ghs m y hy
    exact ⟨g, by rw [Array.getElem?_setIfInBounds_ne (by omega)]; exact h1, h2⟩
theorem Inv.made (h : Inv P S G Sb B0 W C [] ch fr cs v none gh gs w t D) {o : Oper} (ho : Head fr o)
    (hex : ∀ (f0 : Frame) w es, (execOp f0.eval o).runT P w es = (.ok (.value (.chan (some w.heap.size))) { w with heap := w.heap.push (.chan 3 #[] false 0 0 false) }, es)) :
    ∃ g g' D', gs[0]? = some g ∧ stepG P true g w = .go g' { w with heap := w.heap.push (.chan 3 #[] false 0 0 false) } #[] ∧
      Inv P S G Sb B0 W w.heap.size [] (some w.heap.size) (fr.finish (.chan (some w.heap.size))) cs v none gh (gs.setIfInBounds 0 g') { w with heap := w.heap.push (.chan 3 #[] false 0 0 false) } t D' := by
  have hl := h.len
  obtain ⟨fr', cs', hf, hcs, h0⟩ := h.main
  obtain ⟨hm, ops, i, r, k, hto, hto', hop, hwt⟩ := head_rel ho hf
  have hE : D.E = [] := List.map_eq_nil_iff.1 h.gam
  have hst : stepG P true (Go.Conc.G fr' cs') w = .go (Go.Conc.G (fr'.finish (.chan (some w.heap.size))) cs') { w with heap := w.heap.push (.chan 3 #[] false 0 0 false) } #[] := by
    have h2 : (stepS P fr' cs').runT P w #[] = (.ok (fr'.finish (.chan (some w.heap.size)), cs') { w with heap := w.heap.push (.chan 3 #[] false 0 0 false) }, #[]) := by
      unfold stepS
      simp only [hm, hto', hop, hwt, if_true]
      show Sem.runT P (Sem.bind _ _) w #[] = _
      rw [Sem.runT_bind', hex]
      rfl
    rw [stepG_of_S hf.tm h2, seen_none]
  have hlt0 : 0 < gs.size := by omega
  have notask : ∀ m y, gh[m]? = some y → task y = none := fun m y hy => by
    cases ht : task y with
    | none => rfl
    | some Q => have := (h.run m y Q hy ht).1; rw [hE] at this; cases this
  have hsz : ({ w with heap := w.heap.push (.chan 3 #[] false 0 0 false) } : World).heap.size = w.heap.size + 1 := Array.size_push ..
  refine ⟨_, Go.Conc.G (fr'.finish (.chan (some w.heap.size))) cs', { D with pd := [], s := 0, r := 0 }, h0, hst, ?_⟩
  refine { v0 := h.v0, gam := h.gam, nod := h.nod, three := h.three, inv := h.inv, pnod := List.nodup_nil, opened := fun e => absurd hE e, only := fun c hc => by injection hc with hc; exact hc.symm, run := h.run, out := fun e he => (by have he : e ∈ D.E := he; rw [hE] at he; cases he), mem := ?_, tr := ?_, main := ?_, bound := ?_, len := ?_, ghs := ?_, pds := fun n p hp => by simp at hp, chan := fun _ => ⟨?_, ?_, rfl⟩ }
  · refine h.mem.stir (by omega) (fun j b c hj hb => ?_) ⟨rfl, rfl, rfl, by omega, fun c hc => ?_⟩
    · show (w.heap.push _)[c]? = _
      have := ((h.mem.rel j hj).dom b c hb).2
      rw [Array.getElem?_push, if_neg (by omega)]
    · show (w.heap.push _)[c]? = _
      have := h.mem.top
      have := h.mem.base.size
      rw [Array.getElem?_push, if_neg (by omega)]
  · have := h.tr.quietA (B' := w.heap.size + 1) (by omega) (u := #[]) fun y hy => by simp at hy
    rw [Array.append_empty] at this
    rw [hsz]
    exact this
  · exact ⟨_, cs', hf.finish hto (.chan _), hcs, by rw [Array.getElem?_setIfInBounds_self_of_lt hlt0]; rfl⟩
  · intro e he
    rw [Array.size_setIfInBounds]
    exact h.bound e he
  · rw [Array.size_setIfInBounds]; exact hl
  · intro m y hy
    obtain ⟨g, h1, h2⟩ := h.ghs m y hy
    refine ⟨g, by rw [Array.getElem?_setIfInBounds_ne (by omega)]; exact h1, ?_⟩
    have := notask m y hy
    cases y with
    | leav q => exact h2
    | start => cases this
    | work => cases this
  · show (w.heap.push _)[w.heap.size]? = some (.chan 3 #[] false 0 0 false)
    rw [Array.getElem?_push, if_pos rfl]
  · have := h.mem.top
    have := h.mem.base.size
    omega
theorem Inv.forked (hC : Ctx P S G Sb) (h : Inv P S G Sb B0 W C Γ ch fr cs v none gh gs w t D) (hch : ch = some C) {o : Oper} {x : Operand} {ats : Array TypeId} {f : FuncId} {caps : Array Value} {Q : Post} (ho : Head fr o) (hop : o.op = .go { callee := .value x, args := #[], argTypes := ats })
    (hx : okX G Sb x = true) (hev : fr.eval x = .func (.func f) #[] caps) (hfn : ∃ fn c, P.funcs[f]? = some fn ∧ fn.body = some c ∧ (fn.name == "runtime.NumGoroutine") = false) (hlen : Γ.length < 3) (hQ : InvQ S Q)
    (hT : T P (HD P G Sb) (AtSend P G Sb C Q) (Frame.enter P f caps .deferred) [] (shut v)) :
    ∃ g g' child gh' D', gs[0]? = some g ∧ stepG P true g w = .spawn g' child w #[] ∧
      Inv P S G Sb B0 W C (Γ ++ [Q]) ch (fr.finish undef) cs (shut v) none gh' ((gs.setIfInBounds 0 g').push child) w (t ++ ((MemOp.ofEvents 0 g.frame.fn g.frame.place #[]).push { g := 0, fn := g.frame.fn, pos := g.frame.place, act := .go gs.size } |>.push { g := gs.size, fn := child.frame.fn, pos := g.frame.place, act := .start })) D' := by
  have hl := h.len
  obtain ⟨fr', cs', hf, hcs, h0⟩ := h.main
  obtain ⟨hm, ops, i, r, k, hto, hto', hopi, hwt⟩ := head_rel ho hf
  have hv0 := h.v0
  subst hv0
  have hvf := hf.eval (h.mem.glob 0 (.inl rfl)) hC.sb x hx
  rw [hev] at hvf
  obtain ⟨caps', hev', hcaps⟩ : ∃ caps', fr'.eval x = .func (.func f) #[] caps' ∧ AsRel S (D.V 0).ρ caps caps' := by
    generalize fr'.eval x = u at hvf
    cases hvf with
    | func _ _ bs _ ds h0 h1 h2 h3 h4 =>
      have : bs = #[] := Array.eq_empty_of_size_eq_zero h1.symm
      subst this
      exact ⟨ds, rfl, h3, h4⟩
  have hst : stepG P true (Go.Conc.G fr' cs') w = .spawn (Go.Conc.G (fr'.finish undef) cs') (born P { target := .fn (.func f) caps', args := #[] }) w #[] := by
    rw [oper_spawn (P := P) (main := true) (fr := fr') (cs := cs') (w := w) (w' := w) (es := #[]) (f := .func f) (c := caps') (as := #[]) hf.tm hm hto' hopi hwt (by
      unfold execOp
      simp only [hop]
      unfold resolve
      simp only [hev', Deferred.ofValue, Array.map_empty, Array.append_empty, List.map_toArray, List.map_nil]
      rfl), seen_none]
  have hlt0 : 0 < gs.size := by omega
  let j := gs.size
  have hAj : ¬ ActE D.E j := fun ⟨Q', hq⟩ => absurd (h.bound _ hq) (Nat.lt_irrefl _)
  let X : Vw := ⟨(D.V 0).v.heap.size, (D.V 0).ρ, shut (D.V 0).v⟩
  let V' : Nat → Vw := fun k => if k = 0 ∨ k = j then X else D.V k
  have e0 : V' 0 = X := if_pos (.inl rfl)
  have ej : V' j = X := if_pos (.inr rfl)
  have ek : ∀ k, k ≠ 0 → k ≠ j → V' k = D.V k := fun k h1 h2 => if_neg fun e => e.elim h1 h2
  let pos' : Nat → Option Nat := fun k => if k = j then none else D.pos k
  have pj : pos' j = none := if_pos rfl
  have pk : ∀ k, k ≠ j → pos' k = D.pos k := fun k hk => if_neg hk
  have hact : ActE (D.E ++ [(j, Q)]) = fun k => ActE D.E k ∨ k = j := funext fun k => propext ⟨fun ⟨Q', hq⟩ => by
    rcases List.mem_append.1 hq with h | h
    · exact .inl ⟨Q', h⟩
    · have := List.mem_singleton.1 h
      injection this with h1 h2
      exact .inr h1, fun hk => by
    rcases hk with ⟨Q', hq⟩ | rfl
    · exact ⟨Q', List.mem_append_left _ hq⟩
    · exact ⟨Q, List.mem_append_right _ (List.mem_singleton.2 rfl)⟩⟩
  have hdom := h.mem.main.dom
  refine ⟨_, Go.Conc.G (fr'.finish undef) cs', born P { target := .fn (.func f) caps', args := #[] }, gh ++ [.start f caps (shut (D.V 0).v) Q], { D with V := V', E := D.E ++ [(j, Q)], pos := pos' }, h0, hst, ?_⟩
  have etr : ((MemOp.ofEvents 0 (Go.Conc.G fr' cs').frame.fn (Go.Conc.G fr' cs').frame.place #[]).push { g := 0, fn := (Go.Conc.G fr' cs').frame.fn, pos := (Go.Conc.G fr' cs').frame.place, act := .go gs.size } |>.push { g := gs.size, fn := (born P { target := .fn (.func f) caps', args := #[] }).frame.fn, pos := (Go.Conc.G fr' cs').frame.place, act := .start }) = #[{ g := 0, fn := (Go.Conc.G fr' cs').frame.fn, pos := (Go.Conc.G fr' cs').frame.place, act := .go gs.size }, { g := gs.size, fn := (born P { target := .fn (.func f) caps', args := #[] }).frame.fn, pos := (Go.Conc.G fr' cs').frame.place, act := .start }] := by
    rw [events_none]; rfl
  have h0' : gs[0]? = some (Go.Conc.G fr' cs') := h0
  show Inv P S G Sb B0 W C (Γ ++ [Q]) ch (fr.finish undef) cs (shut (D.V 0).v) none _ ((gs.setIfInBounds 0 (Go.Conc.G (fr'.finish undef) cs')).push (born P { target := .fn (.func f) caps', args := #[] })) w (t ++ ((MemOp.ofEvents 0 (Go.Conc.G fr' cs').frame.fn (Go.Conc.G fr' cs').frame.place #[]).push { g := 0, fn := (Go.Conc.G fr' cs').frame.fn, pos := (Go.Conc.G fr' cs').frame.place, act := .go gs.size } |>.push { g := gs.size, fn := (born P { target := .fn (.func f) caps', args := #[] }).frame.fn, pos := (Go.Conc.G fr' cs').frame.place, act := .start })) { D with V := V', E := D.E ++ [(j, Q)], pos := pos' }
  rw [etr]
  have gold : ∀ m, m ≠ 0 → m < gs.size → ((gs.setIfInBounds 0 (Go.Conc.G (fr'.finish undef) cs')).push (born P { target := .fn (.func f) caps', args := #[] }))[m]? = gs[m]? := fun m h1 h2 => by
    rw [Array.getElem?_push, Array.size_setIfInBounds, if_neg (by omega), Array.getElem?_setIfInBounds_ne (by omega)]
  have hmem := h.mem.fork (j := j) hlt0 hAj
  refine { v0 := by show (V' 0).v = _; rw [e0], gam := ?_, nod := ?_, three := ?_, inv := ?_, pnod := h.pnod, opened := fun _ => hch, only := h.only, mem := by rw [show ActE _ = _ from hact]; exact hmem, tr := ?_, main := ?_, bound := ?_, len := ?_, ghs := ?_, run := ?_, out := ?_, pds := ?_, chan := h.chan }
  · rw [show ActE _ = _ from hact]
    refine h.tr.fork h.mem.sep (j := j) hlt0 hAj ⟨rfl, rfl⟩ ⟨rfl, rfl⟩ (fun k hk => pk k fun e => hAj (e ▸ hk)) (fun k hk c => ?_) (fun k hk0 hkj c => ?_) (fun c hc => ?_) fun c hc => ?_
    · unfold rngV
      show (∃ b, (V' k).ρ b c) ↔ _
      by_cases hk0 : k = 0
      · subst hk0; rw [e0]
      · rw [ek k hk0 hk]
    · unfold ownV
      show (∃ b, (V' k).N ≤ b ∧ (V' k).ρ b c) ↔ _
      rw [ek k hk0 hkj]
    · obtain ⟨b, hb⟩ := hc
      have hb : (V' j).ρ b c := hb
      rw [ej] at hb
      exact ⟨b, hb⟩
    · obtain ⟨b, hN, hb⟩ := hc
      have hb : (V' j).ρ b c := hb
      have hN : (V' j).N ≤ b := hN
      rw [ej] at hb hN
      have h1 : b < (D.V 0).v.heap.size := (hdom b c hb).1
      exact absurd h1 (Nat.not_lt.2 hN)
  · refine ⟨fr'.finish undef, cs', ?_, ?_, ?_⟩
    · show FRel S (V' 0).ρ _ _
      rw [e0]
      exact hf.finish hto (.tuple _ _ rfl fun i h => by simp at h)
    · show FsRel S (V' 0).ρ _ _
      rw [e0]; exact hcs
    · rw [Array.getElem?_push, Array.size_setIfInBounds, if_neg (by omega), Array.getElem?_setIfInBounds_self_of_lt hlt0]; rfl
  · show (D.E ++ [(j, Q)]).map Prod.snd = _
    rw [List.map_append, h.gam]; rfl
  · show ((D.E ++ [(j, Q)]).map Prod.fst).Nodup
    rw [List.map_append, List.map_singleton, List.nodup_append]
    refine ⟨h.nod, by simp, fun a ha b hb => ?_⟩
    obtain ⟨e, he, rfl⟩ := List.mem_map.1 ha
    rw [List.mem_singleton.1 hb]
    exact Nat.ne_of_lt (h.bound e he)
  · show (D.E ++ [(j, Q)]).length ≤ 3
    rw [← h.gam, List.length_map] at hlen
    rw [List.length_append, List.length_singleton]
    omega
  · intro e he
    rcases List.mem_append.1 he with he | he
    · exact h.inv e he
    · rw [List.mem_singleton.1 he]; exact hQ
  · intro e he
    rw [Array.size_push, Array.size_setIfInBounds]
    rcases List.mem_append.1 he with he | he
    · have := h.bound e he; omega
    · rw [List.mem_singleton.1 he]; exact Nat.lt_succ_self _
  · rw [Array.size_push, Array.size_setIfInBounds, List.length_append, List.length_singleton, hl]
  · intro m y hy
    by_cases hm2 : m < gh.length
    · rw [List.getElem?_append_left hm2] at hy
      obtain ⟨g, h1, h2⟩ := h.ghs m y hy
      refine ⟨g, by rw [gold _ (by omega) (by omega)]; exact h1, ?_⟩
      show GhI P S G Sb C (V' (m + 1)) _ _
      rw [ek _ (by omega) (by show m + 1 ≠ gs.size; omega)]
      exact h2
    · rw [List.getElem?_append_right (by omega)] at hy
      have hm3 : m - gh.length = 0 := by
        have := (List.getElem?_eq_some_iff.1 hy).1
        simpa using this
      rw [hm3] at hy
      simp only [List.getElem?_cons_zero, Option.some.injEq] at hy
      subst hy
      have hmj : m + 1 = j := by show m + 1 = gs.size; omega
      refine ⟨born P { target := .fn (.func f) caps', args := #[] }, ?_, ?_⟩
      · rw [Array.getElem?_push, Array.size_setIfInBounds, if_pos hmj]
      · show GhI P S G Sb C (V' (m + 1)) _ _
        rw [hmj, ej]
        exact ⟨rfl, ⟨caps', hcaps, rfl⟩, hfn, hT⟩
  · intro m y Q' hy hQ'
    by_cases hm2 : m < gh.length
    · rw [List.getElem?_append_left hm2] at hy
      obtain ⟨h1, h2⟩ := h.run m y Q' hy hQ'
      exact ⟨List.mem_append_left _ h1, (pk (m + 1) (by show m + 1 ≠ gs.size; omega)).trans h2⟩
    · rw [List.getElem?_append_right (by omega)] at hy
      have hm3 : m - gh.length = 0 := by
        have := (List.getElem?_eq_some_iff.1 hy).1
        simpa using this
      rw [hm3] at hy
      simp only [List.getElem?_cons_zero, Option.some.injEq] at hy
      subst hy
      have hQ' : some Q = some Q' := hQ'
      injection hQ' with hQ'
      subst hQ'
      have hmj : m + 1 = j := by show m + 1 = gs.size; omega
      rw [hmj]
      exact ⟨List.mem_append_right _ (List.mem_singleton.2 rfl), pj⟩
  · intro e he
    rcases List.mem_append.1 he with he | he
    · rcases h.out e he with ⟨y, h1, h2⟩ | h1
      · exact .inl ⟨y, by rw [List.getElem?_append_left (gh_lt h1)]; exact h1, h2⟩
      · exact .inr h1
    · rw [List.mem_singleton.1 he]
      refine .inl ⟨.start f caps (shut (D.V 0).v) Q, ?_, rfl⟩
      show (gh ++ _)[gs.size - 1]? = _
      rw [List.getElem?_append_right (by omega), show gs.size - 1 - gh.length = 0 by omega]; rfl
  · intro n p hp
    obtain ⟨⟨Q', h1, h1'⟩, h2, sp, op, h3, h4, h5⟩ := h.pds n p hp
    have hne : p.j ≠ 0 := by have := h.mem.pos p.j ⟨Q', h1⟩; omega
    have hnj : p.j ≠ j := Nat.ne_of_lt (h.bound _ h1)
    refine ⟨⟨Q', List.mem_append_left _ h1, ?_⟩, ?_, sp, op, (pk _ hnj).trans h3, by rw [getElem?_append_old (lt_size_of_getElem? h4)]; exact h4, h5⟩
    · show Q' p.x (V' p.j).v
      rw [ek _ hne hnj]; exact h1'
    · show VRel S (V' p.j).ρ p.x p.y
      rw [ek _ hne hnj]; exact h2
end
end Go.Proofs.YtlipmagkplbkdaaDoor

/-! E8 -/
namespace Go.Proofs.YtlipmagkplbkdaaDoor
open Go Go.Conc Go.RowKit
set_option linter.unusedVariables false
set_option linter.unusedSimpArgs false
def Ends (P : Program) (Post : Value → World → Prop) (m : Machine) (t : Trace) : Prop := ∃ n last o w' t', runNT P (n + 1) m t = (.ended o w', t') ∧ runN P n m = .next last ∧ step P last = .ended o w' ∧ Good P Post last o w' t'
def Turn (P : Program) (Post : Value → World → Prop) (gs : Array Goroutine) (w : World) (t : Trace) : Prop :=
  ∀ sl, (∃ m' ops, runT P (crowd gs w sl) 0 = (.next m', ops) ∧ Ends P Post m' (t ++ ops)) ∨ (∃ o w' ops, runT P (crowd gs w sl) 0 = (.ended o w', ops) ∧ ∀ w0 sl0, Good P Post (crowd gs w0 sl0) o w' (t ++ ops))
section
variable {P : Program} {S : FuncId → Prop} {G Sb : Nat → Bool} {B0 : Nat} {W w w' : World} {C : Nat} {Γ : List Post} {ch : Option Nat} {fr : Frame} {cs : List Frame} {v : World} {park : Option Value} {gh : List Gh} {gs : Array Goroutine} {t : Trace} {D : Dat} {PostQ : Value → World → Prop}
theorem Ends.next {m m' : Machine} {ops : Array MemOp} (hs : stepT P m = (.next m', ops)) (h : Ends P PostQ m' (t ++ ops)) : Ends P PostQ m t :=
  let ⟨n, last, o, w, t', h1, h2, h3, h4⟩ := h
  ⟨n + 1, last, o, w, t', by rw [runNT_succ_next hs]; exact h1, by rw [runN_succ_next hs]; exact h2, h3, h4⟩
theorem Ends.now {m : Machine} {o : Outcome} {ops : Array MemOp} (hs : stepT P m = (.ended o w', ops)) (h : Good P PostQ m o w' (t ++ ops)) : Ends P PostQ m t :=
  ⟨0, m, o, w', t ++ ops, by simp [runNT, hs], rfl, by simp [step, hs], h⟩
theorem Inv.acc (h : Inv P S G Sb B0 W C Γ ch fr cs v park gh gs w t D) : Acc (LD (GhR P G Sb C)) gh := acc_list fun x hx => by
  obtain ⟨i, hi⟩ := List.mem_iff_getElem?.1 hx
  obtain ⟨g, _, hI⟩ := h.ghs i x hi
  cases x with
  | leav q => exact acc_leav q
  | start f caps v Q => exact acc_start hI.2.2.2
  | work f1 c1 v1 Q => exact acc_work hI.2.2
theorem Inv.walk (hC : Ctx P S G Sb) (hpk : ∀ z, park = some z → ch = some C ∧ HasTodo fr ∧ Γ ≠ []) (K : park = none → ∀ gh gs w t D, Inv P S G Sb B0 W C Γ ch fr cs v park gh gs w t D → Turn P PostQ gs w t)
    (KT : park ≠ none → ∀ gs w t sl, Took P S G Sb B0 W C Γ ch fr cs v gs w t → Ends P PostQ (crowd gs w sl) t) :
    ∀ {gh : List Gh}, Acc (LD (GhR P G Sb C)) gh → ∀ gs w sl t D, Inv P S G Sb B0 W C Γ ch fr cs v park gh gs w t D → (∀ z, park = some z → D.pd = []) → Ends P PostQ (crowd gs w sl) t := by
  intro gh hacc
  induction hacc with
  | intro gh _ ih =>
    intro gs w sl t D h hpd
    obtain ⟨f0, c0, hf0, hc0, h0⟩ := h.main
    have haw : ∀ g ∈ gs, awake g := by
      intro g hg
      obtain ⟨i, hi, rfl⟩ := Array.mem_iff_getElem.1 hg
      have he : gs[i]? = some gs[i] := Array.getElem?_eq_getElem hi
      cases i with
      | zero =>
        rw [he] at h0
        injection h0 with h0
        rw [h0]
        cases park with
        | none => exact awake_of (.inl rfl)
        | some z => exact awake_of (.inr (.inl rfl))
      | succ i => exact awake_of ((h.status he).elim .inl fun x => .inr (.inr x))
    have some1 : ∃ (i : Nat) (g : Goroutine), gs[i]? = some g ∧ g.status = .running := by
      cases hp : park with
      | none => rw [hp] at h0; exact ⟨0, _, h0, rfl⟩
      | some z =>
        obtain ⟨_, _, hne⟩ := hpk z hp
        have hE : D.E ≠ [] := fun e => hne (by rw [← h.gam, e]; rfl)
        obtain ⟨e, he⟩ := List.exists_mem_of_ne_nil _ hE
        rcases h.out e he with ⟨x, h1, h2⟩ | ⟨p, h1, _⟩
        · obtain ⟨g, hg, hI⟩ := h.ghs _ x h1
          refine ⟨_, g, hg, ?_⟩
          cases x with
          | leav q => cases h2
          | start f caps v Q => obtain ⟨_, ⟨caps', _, rfl⟩, _⟩ := hI; rfl
          | work fr cs v Q => obtain ⟨_, ⟨fr', cs', _, _, rfl⟩, _⟩ := hI; rfl
        · rw [hpd z hp] at h1; cases h1
    obtain ⟨i, g, d, sl', hi, hg, hst⟩ := crowd_pick (P := P) (w := w) (sl := sl) haw some1
    have hd := h.at d
    cases i with
    | zero =>
      have hp : park = none := by
        cases hp : park with
        | none => rfl
        | some z =>
          rw [hp, hi] at h0
          injection h0 with h0
          rw [h0] at hg
          cases hg
      rcases K hp gh gs (w.at d) t D hd sl' with ⟨m', ops, h1, h2⟩ | ⟨o, w', ops, h1, h2⟩
      · exact Ends.next (hst.trans h1) h2
      · exact Ends.now (hst.trans h1) (h2 w sl)
    | succ k =>
      obtain ⟨gs', w', ops, h1, h2⟩ := hd.other hC (fun z hz => ⟨(hpk z hz).1, hpd z hz, (hpk z hz).2.1⟩) hi hg sl'
      refine Ends.next (hst.trans h1) ?_
      rcases h2 with ⟨gh', D', h3, h4, h5⟩ | ⟨h3, h4⟩
      · exact ih gh' h3 gs' w' sl' _ D' h4 h5
      · exact KT h3 gs' w' _ sl' h4
theorem Inv.calm (h : Inv P S G Sb B0 W C Γ ch fr cs v none gh gs w t D) (j : Nat) (y : Goroutine) (hy : gs[j]? = some y) : y.status = .running ∨ y.status = .finished := by
  cases j with
  | zero =>
    obtain ⟨f0, c0, _, _, h3⟩ := h.main
    rw [hy] at h3
    injection h3 with h3
    subst h3
    exact .inl rfl
  | succ j => exact h.status hy
theorem Inv.recv (hC : Ctx P S G Sb) (h : Inv P S G Sb B0 W C Γ ch fr cs v none gh gs w t D) (hch : ch = some C) (hne : Γ ≠ []) {o : Oper} {x : Operand} {z : Value} (ho : Head fr o) (hx : okX G Sb x = true) (hev : fr.eval x = .chan (some C))
    (hex : ∀ (ev : Operand → Value) w es, ev x = .chan (some C) → (execOp ev o).runT P w es = (.ok (.comm #[rcase C z] true (.recv false)) w, es))
    (K : ∀ gs w t sl, Took P S G Sb B0 W C Γ ch fr cs v gs w t → Ends P PostQ (crowd gs w sl) t) : Turn P PostQ gs w t := by
  intro sl
  left
  have hl := h.len
  have hlt0 : 0 < gs.size := by omega
  obtain ⟨fr', cs', hf, hcs, h0⟩ := h.main
  have h0 : gs[0]? = some (Go.Conc.G fr' cs') := h0
  obtain ⟨hm, ops, i, r, k, hto, hto', hop, hwt⟩ := head_rel ho hf
  obtain ⟨hchn, hB0, hs⟩ := h.chan hch
  have hCs : C < w.heap.size := (Array.getElem?_eq_some_iff.1 hchn).1
  have hev' : fr'.eval x = .chan (some C) := by
    have hvc := hf.eval (h.mem.glob 0 (.inl rfl)) hC.sb x hx
    rw [hev] at hvc
    generalize fr'.eval x = u at hvc
    cases hvc
    rfl
  have hst : stepG P (0 == 0) (Go.Conc.G fr' cs') w = .comm (Go.Conc.G fr' cs') #[rcase C z] true (.recv false) w #[] := by
    rw [oper_comm (P := P) (main := (0 == 0)) (fr := fr') (cs := cs') (w := w) (w' := w) (es := #[]) hf.tm hm hto' hop hwt (hex _ w #[] hev'), seen_none]
  have hparts : partners (gs.setIfInBounds 0 ph) C true = [] := Go.Conc.partners_nil fun j y hy => by
    refine offersAt_of_not_blocked ?_ _ _
    rcases getElem?_stand gs 0 j y hy with ⟨_, rfl⟩ | ⟨_, hy⟩
    · simp [ph]
    · rcases h.calm j y hy with e | e <;> rw [e] <;> simp
  cases hpd : D.pd with
  | nil =>
    rw [hpd] at hchn
    have hstep := crowd_waits (sl := sl) h0 hst fun cc hcc => by
      have : cc = rcase C z := by simpa using hcc
      subst this
      exact ways_recv_none hchn hparts
    refine ⟨_, _, hstep, ?_⟩
    rw [events_none, Array.append_empty]
    have hI : Inv P S G Sb B0 W C Γ ch fr cs v (some z) gh (gs.setIfInBounds 0 (parked (Go.Conc.G fr' cs') #[rcase C z] (.recv false))) w t D := by
      refine { h with main := ?_, bound := ?_, len := ?_, ghs := ?_ }
      · exact ⟨fr', cs', hf, hcs, by rw [Array.getElem?_setIfInBounds_self_of_lt hlt0]; rfl⟩
      · intro e he
        rw [Array.size_setIfInBounds]
        exact h.bound e he
      · rw [Array.size_setIfInBounds]; exact hl
      · intro m y hy
        obtain ⟨g, h1, h2⟩ := h.ghs m y hy
        exact ⟨g, by rw [Array.getElem?_setIfInBounds_ne (by omega)]; exact h1, h2⟩
    exact Inv.walk hC (fun z hz => ⟨hch, ⟨ops, i, r, k, hto⟩, hne⟩) (fun e => by cases e) (fun _ => K) hI.acc _ _ _ _ _ hI fun z hz => hpd
  | cons p rest =>
    have hstep := crowd_recv_buf (sl := sl) h0 hst hchn (by rw [hpd]; simp) hparts
    rw [finishComm_recv, events_none, Array.empty_append] at hstep
    have e1 : (D.pd.map Pd.y).toArray.getD 0 undef = p.y := by rw [hpd]; simp
    have e2 : (D.pd.map Pd.y).toArray.extract 1 (D.pd.map Pd.y).toArray.size = (rest.map Pd.y).toArray := by
      rw [hpd]
      simp
      exact List.take_of_length_le (by simp)
    rw [e1, e2] at hstep
    refine ⟨_, _, hstep, ?_⟩
    have hI : Inv P S G Sb B0 W C Γ ch fr cs v none gh gs w (t ++ #[{ g := 0, fn := fr'.fn, pos := fr'.place, act := .recv C D.r 3 }, { g := 0, fn := fr'.fn, pos := fr'.place, act := .recvDone C D.r }]) D := by
      refine { h with tr := ?_, pds := ?_ }
      · exact h.tr.quietA (Nat.le_refl _) fun y hy => by
          rcases mem2 hy with rfl | rfl <;> exact ⟨rfl, hCs, fun m hm => by cases hm⟩
      · intro n p hp
        obtain ⟨h1, h2, sp, op, h3, h4, h5⟩ := h.pds n p hp
        exact ⟨h1, h2, sp, op, h3, by rw [getElem?_append_old (lt_size_of_getElem? h4)]; exact h4, h5⟩
    obtain ⟨Γ1, Q1, Γ2, v', x', D2, k1, k2, k3, k4, k5, k6⟩ := hI.took hpd (f' := fr') (c' := cs') h0 hto (pp := t.size + 1) (z := { g := 0, fn := fr'.fn, pos := fr'.place, act := .recvDone C D.r })
      (by rw [Array.getElem?_append_right (by omega), show t.size + 1 - t.size = 1 by omega]; rfl) rfl rfl
    exact K _ _ _ _ ⟨Γ1, Q1, Γ2, v', x', gh, D2, k1, k2, k3, k4, k6⟩
theorem Inv.fin (hC : Ctx P S G Sb) (h : Inv P S G Sb B0 W C [] ch fr [] v none gh gs w t D) {F : Value → Prop} {x : Value} (hF : ∀ ρ x y, VRel S ρ x y → F x → F y) (hlv : fr.leaving P (at2 v w.tape w.drawn) (.returned x)) (hin : P.inits.idxOf? fr.fn = none) (hFx : F x) :
    Turn P (fun y w' => F y ∧ Below B0 W w') gs w t := by
  intro sl
  right
  have hl := h.len
  have hE : D.E = [] := List.map_eq_nil_iff.1 h.gam
  have hA : ∀ j, ¬ ActE D.E j := fun j ⟨Q, hq⟩ => by rw [hE] at hq; cases hq
  obtain ⟨fr', cs', hf, hcs, h0⟩ := h.main
  have h0 : gs[0]? = some (Go.Conc.G fr' cs') := h0
  cases hcs
  have hmb : Mb (ActE D.E) 0 := .inl rfl
  have hv0 := h.v0
  subst hv0
  have hw := h.mem.main
  have hpl : Plain (at2 (D.V 0).v w.tape w.drawn) := h.mem.plain 0 hmb
  obtain ⟨hm, hd, hk, fn, hfn, hr⟩ := hlv
  obtain ⟨ρ₂, y, w', evs, he, hrt, hxy, hw2, hG⟩ := Sim.results (P := P) (S := S) (N0 := (D.V 0).N) fn hf.tmps (D.V 0).ρ _ w (Ext.refl _) hw x _ hr
  have hrt := hrt #[]
  rw [Array.empty_append] at hrt
  have hst : stepG P (0 == 0) (Go.Conc.G fr' []) w = .ended (.done y) w' (seen P fr'.fn evs) := by
    have hfn' := hf.fn
    have htd := hf.todo
    have hmd := hf.mode
    have hkd := hf.kind
    have hdf := hf.defers'
    obtain ⟨fn', tmps', todo', defers', mode', kind', roundOf'⟩ := fr'
    simp only at *
    subst hfn' hmd hkd hdf
    simp only [Go.Conc.G, stepG, hm, unwind, hfn, hrt, doReturn, hk, hin, GStep.after]
    simp
  have hmem := h.mem.step hmb he hw2 hG hpl (fun b _ => rfl)
  obtain ⟨hr1, hr2, hr3⟩ := h.mem.ranges hmb (v' := at2 (D.V 0).v w.tape w.drawn) he hG
  have htr := h.tr.step h.mem.sep (g := 0) (.inl rfl) hG.size hr1 hr2 hr3 (u := MemOp.ofEvents 0 fr'.fn fr'.place (seen P fr'.fn evs)) fun op hop => by
    obtain ⟨e, hee, rfl⟩ := Go.Conc.mem_ofEvents hop
    have hO := opC_of_EvC hw2 (hG.evs e (mem_seen hee)) (not_extern hee)
    refine ⟨rfl, hO.1, hO.2.1, fun a ha => ?_⟩
    obtain ⟨c, k1, ⟨b, k2⟩, k3⟩ := hO.2.2 a ha
    refine ⟨c, k1, ⟨b, k2⟩, fun hwr => ?_⟩
    obtain ⟨b2, k4, k5⟩ := k3 hwr
    exact ⟨b2, k4, k5⟩
  refine ⟨_, _, _, runT_many_ended h0 hst, fun w0 sl0 => ⟨y, rfl, ⟨hF _ _ _ hxy hFx, hmem.base⟩, htr.calm, htr.over hA, ⟨fun g hg => ?_, rfl⟩, fun j g hg hj => ?_⟩⟩
  · obtain ⟨j, hj⟩ := List.mem_iff_getElem?.1 hg
    rw [List.getElem?_drop] at hj
    have hj : gs[j + 1]? = some g := by rw [Nat.add_comm]; simpa [crowd] using hj
    have hlt := (Array.getElem?_eq_some_iff.1 hj).1
    obtain ⟨g', h1, h2⟩ := h.ghs j gh[j] (List.getElem?_eq_getElem (by omega))
    rw [hj] at h1
    injection h1 with h1
    subst h1
    cases hh : gh[j] with
    | leav q => rw [hh] at h2; exact ⟨_, (QuitsD.of_quitsIn h2).leaves⟩
    | start f caps v Q => exact absurd (h.run j _ Q (List.getElem?_eq_getElem (by omega)) (by rw [hh]; rfl)).1 (by rw [hE]; simp)
    | work f1 c1 v1 Q => exact absurd (h.run j _ Q (List.getElem?_eq_getElem (by omega)) (by rw [hh]; rfl)).1 (by rw [hE]; simp)
  · obtain ⟨m, rfl⟩ : ∃ m, j = m + 1 := ⟨j - 1, by omega⟩
    have hj : gs[m + 1]? = some g := hg
    have hlt := (Array.getElem?_eq_some_iff.1 hj).1
    obtain ⟨g', h1, h2⟩ := h.ghs m gh[m] (List.getElem?_eq_getElem (by omega))
    rw [hj] at h1
    injection h1 with h1
    subst h1
    cases hh : gh[m] with
    | leav q =>
      rw [hh] at h2
      refine ⟨q, ?_⟩
      have e := htr.word.deaf (m + 1) (t ++ MemOp.ofEvents 0 fr'.fn fr'.place (seen P fr'.fn evs)).size
      show Goroutine.endsWith P _ q g ((t ++ MemOp.ofEvents 0 fr'.fn fr'.place (seen P fr'.fn evs)).deaf (m + 1) (t ++ MemOp.ofEvents 0 fr'.fn fr'.place (seen P fr'.fn evs)).size) = some 0
      rw [e]
      exact (QuitsD.of_quitsIn h2).hears _
    | start f caps v Q => exact absurd (h.run m _ Q (List.getElem?_eq_getElem (by omega)) (by rw [hh]; rfl)).1 (by rw [hE]; simp)
    | work f1 c1 v1 Q => exact absurd (h.run m _ Q (List.getElem?_eq_getElem (by omega)) (by rw [hh]; rfl)).1 (by rw [hE]; simp)
theorem machine (hC : Ctx P S G Sb) {F : Value → Prop} (hF : ∀ ρ x y, VRel S ρ x y → F x → F y) (hM : M P S G Sb F Γ ch fr cs v) :
    ∀ C gh gs w sl t D, Inv P S G Sb B0 W C Γ ch fr cs v none gh gs w t D → Ends P (fun y w' => F y ∧ Below B0 W w') (crowd gs w sl) t := by
  induction hM with
  | fin ch fr v x hlv hin hFx =>
    intro C gh gs w sl t D h
    exact Inv.walk hC (fun z hz => by cases hz) (fun _ gh gs w t D h => h.fin hC hF (hlv _ _) hin hFx) (fun e => absurd rfl e) h.acc _ _ _ _ _ h fun z hz => by cases hz
  | step Γ ch fr cs v hh hex hk ih =>
    intro C gh gs w sl t D h
    refine Inv.walk hC (fun z hz => by cases hz) (fun _ gh gs w t D h sl => ?_) (fun e => absurd rfl e) h.acc _ _ _ _ _ h fun z hz => by cases hz
    obtain ⟨x, v', hr⟩ := hex w.tape w.drawn
    obtain ⟨g, g', w', es, D', h0, hst, hI⟩ := h.tame hC hh hr
    refine .inl ⟨_, _, runT_crowd_go h0 hst, ?_⟩
    rw [h.woken _ _ fun z hz => by cases hz]
    exact ih _ _ x v' hr C _ _ _ _ _ D' hI
  | enter Γ ch fr cs v o f as ats ho hop ha hfn hk ih =>
    intro C gh gs w sl t D h
    refine Inv.walk hC (fun z hz => by cases hz) (fun _ gh gs w t D h sl => ?_) (fun e => absurd rfl e) h.acc _ _ _ _ _ h fun z hz => by cases hz
    obtain ⟨g, g', h0, hst, hI⟩ := h.entered hC ho hop ha hfn
    refine .inl ⟨_, _, runT_crowd_go h0 hst, ?_⟩
    rw [h.woken _ _ (fun z hz => by cases hz), events_none, Array.append_empty]
    exact ih C _ _ _ _ _ D hI
  | chan ch fr cs v o ho hex hk ih =>
    intro C gh gs w sl t D h
    refine Inv.walk hC (fun z hz => by cases hz) (fun _ gh gs w t D h sl => ?_) (fun e => absurd rfl e) h.acc _ _ _ _ _ h fun z hz => by cases hz
    obtain ⟨g, g', D', h0, hst, hI⟩ := h.made ho hex
    refine .inl ⟨_, _, runT_crowd_go h0 hst, ?_⟩
    rw [h.woken _ _ (fun z hz => by cases hz), events_none, Array.append_empty]
    exact ih _ _ _ _ _ _ _ D' hI
  | fork Γ C0 fr cs v o x ats f caps Q ho hop hx hev hfn hlen hQ hT hk ih =>
    intro C gh gs w sl t D h
    refine Inv.walk hC (fun z hz => by cases hz) (fun _ gh gs w t D h sl => ?_) (fun e => absurd rfl e) h.acc _ _ _ _ _ h fun z hz => by cases hz
    have hc0 := h.only C0 rfl
    subst hc0
    obtain ⟨g, g', child, gh', D', h0, hst, hI⟩ := h.forked hC rfl ho hop hx hev hfn hlen hQ hT
    exact .inl ⟨_, _, runT_crowd_spawn h0 hst, ih _ _ _ _ _ _ D' hI⟩
  | recv Γ C0 fr cs v o x z ho hx hev hex hne hk ih =>
    intro C gh gs w sl t D h
    refine Inv.walk hC (fun z hz => by cases hz) (fun _ gh gs w t D h => ?_) (fun e => absurd rfl e) h.acc _ _ _ _ _ h fun z hz => by cases hz
    have hc0 := h.only C0 rfl
    subst hc0
    exact h.recv hC rfl hne ho hx hev hex fun gs w t sl ⟨Γ1, Q, Γ2, v', x', gh', D', e1, e2, e3, e4, e5⟩ => ih Γ1 Q Γ2 e1 v' x' e2 e3 e4 _ _ _ _ _ _ D' e5
theorem inv_start {N : Nat} {ρ : Ren} {f' : Frame} {c' : List Frame} (hw : WRel P S N ρ (at2 v W.tape W.drawn) W) (hp : Plain v) (hG : GlOk G ρ) (hf : FRel S ρ fr f') (hc : FsRel S ρ cs c') (hcl : ∀ b o, b < N → v.heap[b]? = some o → shutO o = o) (hfl : ∀ b c, N ≤ b → ρ b c → B0 ≤ c) (hB : B0 ≤ W.heap.size) :
    Inv P S G Sb B0 W C [] none fr cs v none [] #[Go.Conc.G f' c'] W #[] ⟨fun _ => ⟨N, ρ, v⟩, [], [], fun _ => none, 0, 0⟩ where
  v0 := rfl
  mem := by
    have no : ∀ j, ¬ ActE [] j := fun j ⟨Q, h⟩ => by cases h
    have mb : ∀ j, Mb (ActE []) j → j = 0 := fun j h => h.resolve_right (no j)
    exact ⟨fun j _ => hw, fun j _ => hp, fun j _ => hG, fun j h => absurd h (no j), fun j k b b' c hj hk hjk => absurd ((mb j hj).trans (mb k hk).symm) hjk, fun j h => absurd h (no j), fun j h => absurd h (no j), fun j h => absurd h (no j), hcl, fun j b c _ => hfl b c, hB, .refl _ _⟩
  tr := tr_nil fun j ⟨Q, h⟩ => by cases h
  main := ⟨f', c', hf, hc, rfl⟩
  gam := rfl
  nod := List.nodup_nil
  three := by simp
  inv e he := by cases he
  bound e he := by cases he
  len := rfl
  ghs i h hi := by simp at hi
  run i h Q hi := by simp at hi
  out e he := by cases he
  pds n p hp := by simp at hp
  pnod := List.nodup_nil
  opened e := absurd rfl e
  only c hc := by cases hc
  chan hc := by cases hc
end
end Go.Proofs.YtlipmagkplbkdaaDoor

/-! E9 -/
namespace Go.Proofs.YtlipmagkplbkdaaDoor
open Go Go.Conc Go.RowKit
set_option linter.unusedVariables false
set_option linter.unusedSimpArgs false
theorem some_view (S : FuncId → Prop) (ρ : Ren) : ∀ y : Value, ∃ x, VRel S ρ x y := fun y => by
  cases y with
  | bool b => exact ⟨_, .bool b⟩
  | agg ys =>
    have ih : ∀ i, i < ys.size → ∃ x, ∀ h : i < ys.size, VRel S ρ x ys[i] := fun i hi => by
      obtain ⟨x, hx⟩ := some_view S ρ ys[i]
      exact ⟨x, fun _ => hx⟩
    obtain ⟨xs, h1, h2⟩ := arr_choose ih
    exact ⟨.agg xs, .agg xs ys h1 fun i h h' => h2 i h h'⟩
  | tuple ys =>
    have ih : ∀ i, i < ys.size → ∃ x, ∀ h : i < ys.size, VRel S ρ x ys[i] := fun i hi => by
      obtain ⟨x, hx⟩ := some_view S ρ ys[i]
      exact ⟨x, fun _ => hx⟩
    obtain ⟨xs, h1, h2⟩ := arr_choose ih
    exact ⟨.tuple xs, .tuple xs ys h1 fun i h h' => h2 i h h'⟩
  | _ => exact ⟨.nilFunc, .nilFunc _ rfl⟩
termination_by y => SizeOf.sizeOf y
open Classical in
noncomputable def cleanV (S : FuncId → Prop) (ρ : Ren) (y : Value) : Value := if VRel S ρ y y then y else Classical.choose (some_view S ρ y)
theorem cleanV_rel (S : FuncId → Prop) (ρ : Ren) (y : Value) : VRel S ρ (cleanV S ρ y) y := by
  unfold cleanV
  split
  · assumption
  · exact Classical.choose_spec (some_view S ρ y)
theorem cleanV_id {S : FuncId → Prop} {ρ : Ren} {y : Value} (h : VRel S ρ y y) : cleanV S ρ y = y := if_pos h
def rho0 (W : World) : Ren := fun b c => c = b ∧ ∃ cs t fr, W.heap[b]? = some (.cells cs t fr)
noncomputable def cleanO (S : FuncId → Prop) (ρ : Ren) : Obj → Obj
  | .cells cs t _ => .cells (cs.map (cleanV S ρ)) t (0, cs.size)
  | _ => .coro none
noncomputable def cleanW (S : FuncId → Prop) (W : World) : World := { W with heap := W.heap.map (cleanO S (rho0 W)) }
section
variable {P : Program} {S : FuncId → Prop} {G : Nat → Bool} {W : World}
theorem clean_get (b : Nat) : (cleanW S W).heap[b]? = (W.heap[b]?).map (cleanO S (rho0 W)) := Array.getElem?_map ..
theorem clean_size : (cleanW S W).heap.size = W.heap.size := Array.size_map ..
theorem clean_plain : Plain (cleanW S W) := fun b o ho => by
  rw [clean_get] at ho
  obtain ⟨o', _, rfl⟩ := Option.map_eq_some_iff.1 ho
  cases o' <;> rfl
theorem clean_closed (b : Nat) (o : Obj) (ho : (cleanW S W).heap[b]? = some o) : shutO o = o := by
  rw [clean_get] at ho
  obtain ⟨o', _, rfl⟩ := Option.map_eq_some_iff.1 ho
  cases o' <;> first | rfl | (simp [cleanO, shutO])
theorem clean_rel (hg : P.globals.size ≤ W.heap.size) : WRel P S W.heap.size (rho0 W) (cleanW S W) W where
  inj b b' c h h' := h.1.symm.trans h'.1
  func b c c' h h' := h.1.trans h'.1.symm
  dom b c h := by
    obtain ⟨rfl, cs, t, fr, h⟩ := h
    have := (Array.getElem?_eq_some_iff.1 h).1
    exact ⟨by rw [clean_size]; exact this, this⟩
  cell b c h := by
    obtain ⟨rfl, cs, t, fr, h⟩ := h
    refine .inl ⟨cs.map (cleanV S (rho0 W)), cs, t, (0, cs.size), fr, by rw [clean_get, h]; rfl, h, ⟨Array.size_map .., fun i h1 h2 => ?_⟩, fun hn => absurd (Array.getElem?_eq_some_iff.1 h).1 (Nat.not_lt.2 hn), fun _ off ho => ⟨Nat.zero_le _, by rw [Array.size_map] at ho; exact ho⟩⟩
    rw [Array.getElem_map]
    exact cleanV_rel S _ _
  tape := rfl
  drawn := rfl
  low := by rw [clean_size]; exact Nat.le_refl _
  glob := hg
  lowW := hg
  same b c h _ := h.1
theorem clean_cell (a : Addr) : (cleanW S W).cell? a = (W.cell? a).map (cleanV S (rho0 W)) := by
  unfold World.cell?
  rw [clean_get]
  cases h : W.heap[a.block]? with
  | none => rfl
  | some o =>
    cases o <;> first | rfl | skip
    simp only [Option.map_some, cleanO]
    split
    · rfl
    · rw [Array.getElem?_map]
def GoodL (S : FuncId → Prop) (W : World) (cs : List Value) : Prop := ∀ c ∈ cs, VRel S (rho0 W) c c
def plainTy (P : Program) : Nat → TypeId → Bool
  | 0, _ => false
  | n + 1, t => match P.underlying t with
    | some .bool | some (.int _) | some .string => true
    | some (.slice e) => plainTy P n e && decide (0 < P.cellsOf e)
    | some (.struct fs) => fs.all (fun f => plainTy P n f.type) && (List.range (P.cellsOf t)).all fun i => fs.any fun f => decide (f.offset ≤ i) && decide (i < f.offset + P.cellsOf f.type)
    | _ => false
theorem mapM_same {α β : Type} {f g : α → Option β} : ∀ {l : List α} {r : List β}, (∀ a ∈ l, ∀ b, f a = some b → g a = some b) → l.mapM f = some r → l.mapM g = some r
  | [], r, _, h => h
  | a :: l, r, hfg, h => by
    simp only [List.mapM_cons, Option.bind_eq_bind, Option.bind_eq_some_iff, Option.pure_def, Option.some.injEq] at h ⊢
    obtain ⟨b, hb, r', hr', rfl⟩ := h
    exact ⟨b, hfg a (List.mem_cons_self ..) b hb, r', mapM_same (fun x hx => hfg x (List.mem_cons_of_mem _ hx)) hr', rfl⟩
theorem clean_cells {a : Addr} {n : Nat} {l : List Value} (h : W.cells? 0 a n = some l) (hg : GoodL S W l) : (cleanW S W).cells? 0 a n = some l := by
  unfold World.cells? at h ⊢
  rw [if_pos (Nat.zero_le _)] at h ⊢
  have key : ∀ (is : List Nat) (l : List Value), (is.mapM fun i => W.cell? (a.add i)) = some l → (is.mapM fun i => (cleanW S W).cell? (a.add i)) = some (l.map (cleanV S (rho0 W))) := by
    intro is
    induction is with
    | nil => intro l h; simp at h; subst h; rfl
    | cons i is ih =>
      intro l h
      simp only [List.mapM_cons, Option.bind_eq_bind, Option.bind_eq_some_iff, Option.pure_def, Option.some.injEq] at h ⊢
      obtain ⟨b, hb, r', hr', rfl⟩ := h
      exact ⟨_, by rw [clean_cell, hb]; rfl, _, ih r' hr', rfl⟩
  rw [key _ _ h]
  congr 1
  conv => rhs; rw [← List.map_id l]
  exact List.map_congr_left fun c hc => cleanV_id (hg c hc)
theorem cells_block {a : Addr} {n : Nat} {l : List Value} (hn : 0 < n) (h : W.cells? 0 a n = some l) : ∃ cs t fr, W.heap[a.block]? = some (.cells cs t fr) := by
  unfold World.cells? at h
  rw [if_pos (Nat.zero_le _)] at h
  obtain ⟨m, rfl⟩ : ∃ m, n = m + 1 := ⟨n - 1, by omega⟩
  rw [List.range_succ_eq_map] at h
  simp only [List.mapM_cons, Option.bind_eq_bind, Option.bind_eq_some_iff, Option.pure_def] at h
  obtain ⟨b, hb, _⟩ := h
  unfold World.cell? at hb
  have e : (a.add 0).block = a.block := rfl
  rw [e] at hb
  split at hb
  · rename_i cs t fr ho; exact ⟨cs, t, fr, ho⟩
  · cases hb
variable {H : Type} {enc : TypeId × Value → H}
theorem trod_clean : ∀ (fuel n : Nat) (t : TypeId) (cs : List Value) (x : DataW H × List MemPlace), plainTy P n t = true → DataW.trod enc P W 0 (fun _ => true) true fuel t cs = some x →
    GoodL S W cs ∧ DataW.trod enc P (cleanW S W) 0 (fun _ => true) true fuel t cs = some x := by
  intro fuel
  induction fuel with
  | zero => intro n t cs x _ h; simp [DataW.trod] at h
  | succ fuel ih =>
    intro n t cs x hp h
    cases n with
    | zero => cases hp
    | succ n =>
      unfold plainTy at hp
      have h0 := h
      unfold DataW.trod at h ⊢
      cases hu : P.underlying t with
      | none => rw [hu] at hp; cases hp
      | some d =>
        rw [hu] at hp h
        cases d with
        | bool =>
          simp only at h ⊢
          split at h <;> first | (exact ⟨fun c hc => by simp at hc; subst hc; exact .bool _, h⟩) | simp_all
        | int k =>
          simp only at h ⊢
          split at h <;> first | (exact ⟨fun c hc => by simp at hc; subst hc; exact .int _ _, h⟩) | simp_all
        | string =>
          simp only at h ⊢
          split at h <;> first | (exact ⟨fun c hc => by simp at hc; subst hc; exact .string _, h⟩) | simp_all
        | slice e =>
          simp only [Bool.and_eq_true, decide_eq_true_eq] at hp
          obtain ⟨hpe, hce⟩ := hp
          rcases DataW.trod_slice hu h0 with ⟨rfl, rfl⟩ | ⟨a, len, cap, elems, rest, m, hm, rfl, rfl, hb, hl, hc, hel, hels, hsp, _⟩
          · exact ⟨fun c hc => by simp at hc; subst hc; exact .nils _ _, rfl⟩
          · obtain rfl : fuel = m := by omega
            obtain ⟨hrl, hrest⟩ := hsp rfl
            have tr : ∀ i b, (W.cells? 0 (a.add (i * P.cellsOf e)) (P.cellsOf e)).bind (DataW.trod enc P W 0 (fun _ => true) true fuel e) = some b → ((cleanW S W).cells? 0 (a.add (i * P.cellsOf e)) (P.cellsOf e)).bind (DataW.trod enc P (cleanW S W) 0 (fun _ => true) true fuel e) = some b := fun i b hb => by
              rw [Option.bind_eq_some_iff] at hb ⊢
              obtain ⟨l, h1, h2⟩ := hb
              obtain ⟨h3, h4⟩ := ih n e l b hpe h2
              exact ⟨l, clean_cells h1 h3, h4⟩
            refine ⟨fun c hc => ?_, ?_⟩
            · simp only [List.mem_singleton] at hc
              subst hc
              by_cases hcap : cap = 0
              · obtain rfl : len = 0 := by omega
                subst hcap
                exact .sl0 a
              · have h1 : ∃ b, (W.cells? 0 (a.add (0 * P.cellsOf e)) (P.cellsOf e)).bind (DataW.trod enc P W 0 (fun _ => true) true fuel e) = some b := by
                  by_cases hlen : len = 0
                  · have h2 := hrest 0 (by omega)
                    rw [hlen] at h2
                    rw [show (0 + 0) * P.cellsOf e = 0 * P.cellsOf e by simp] at h2
                    exact ⟨_, h2.trans (List.getElem?_eq_getElem (by omega))⟩
                  · exact ⟨_, (hels 0 (by omega)).trans (List.getElem?_eq_getElem (by omega))⟩
                obtain ⟨b, hb⟩ := h1
                rw [Option.bind_eq_some_iff] at hb
                obtain ⟨l, h3, _⟩ := hb
                have h4 := cells_block hce h3
                rw [show (a.add (0 * P.cellsOf e)).block = a.block by unfold Addr.add; split <;> rfl] at h4
                obtain ⟨ab, ao, as⟩ := a
                exact .sl ab ab ao as len cap ⟨rfl, h4⟩
            · simp only at h ⊢
              split at h
              · rename_i hcond
                rw [if_pos hcond]
                simp only [Option.bind_eq_some_iff, Option.map_eq_some_iff, if_true] at h ⊢
                obtain ⟨r1, h1, r2, h2, h3⟩ := h
                exact ⟨r1, mapM_same (fun i _ b hb => tr i b hb) h1, r2, mapM_same (fun j _ b hb => tr (len + j) b hb) h2, h3⟩
              · cases h
        | struct fs =>
          simp only [Bool.and_eq_true] at hp
          obtain ⟨hpf, hcov⟩ := hp
          simp only at h ⊢
          split at h
          · rename_i hlen
            rw [if_pos hlen]
            simp only [Option.map_eq_some_iff] at h ⊢
            obtain ⟨xs, h1, h2⟩ := h
            have hf : ∀ f ∈ fs.toList, ∀ b, DataW.trod enc P W 0 (fun _ => true) true fuel f.type ((cs.drop f.offset).take (P.cellsOf f.type)) = some b → GoodL S W ((cs.drop f.offset).take (P.cellsOf f.type)) ∧ DataW.trod enc P (cleanW S W) 0 (fun _ => true) true fuel f.type ((cs.drop f.offset).take (P.cellsOf f.type)) = some b := fun f hf b hb =>
              ih n f.type _ b (Array.all_eq_true_iff_forall_mem.1 hpf f (Array.mem_toList_iff.1 hf)) hb
            refine ⟨fun c hc => ?_, xs, mapM_same (fun f hfm b hb => (hf f hfm b hb).2) h1, h2⟩
            obtain ⟨i, hi, rfl⟩ := List.mem_iff_getElem.1 hc
            have hci := List.all_eq_true.1 hcov i (List.mem_range.2 (by omega))
            obtain ⟨j, hj0, hfi⟩ := Array.any_eq_true.1 hci
            have hj : j < fs.toList.length := by simpa using hj0
            rw [show fs[j] = fs.toList[j] by simp] at hfi
            simp only [Bool.and_eq_true, decide_eq_true_eq] at hfi
            have hfm2 : fs.toList[j] ∈ fs.toList := List.getElem_mem hj
            have hxl : xs.length = fs.toList.length := by simpa using mapM_some_length h1
            obtain ⟨b, hb⟩ : ∃ b, DataW.trod enc P W 0 (fun _ => true) true fuel fs.toList[j].type ((cs.drop fs.toList[j].offset).take (P.cellsOf fs.toList[j].type)) = some b := ⟨_, (mapM_some_get h1 j _ (List.getElem?_eq_getElem hj)).trans (List.getElem?_eq_getElem (by omega))⟩
            refine (hf _ hfm2 b hb).1 _ ?_
            rw [List.mem_iff_getElem?]
            refine ⟨i - fs.toList[j].offset, ?_⟩
            rw [List.getElem?_take_of_lt (by omega), List.getElem?_drop, show fs.toList[j].offset + (i - fs.toList[j].offset) = i by omega]
            exact List.getElem?_eq_getElem hi
          · cases h
        | _ => cases hp
end
end Go.Proofs.YtlipmagkplbkdaaDoor
