/- Texts of the proof that the statement of ChanceAlone holds, several in one. -/
import Derived.Test.YtlipmagkplbkdaaDoorZ14
import Derived.Test.YtlipmagkplbkdaaDoorHl
import Derived.Conc.Holds
import Derived.SevenTiedAt
set_option linter.unusedVariables false
set_option linter.unusedSimpArgs false
set_option linter.unusedSectionVars false
set_option maxRecDepth 100000
set_option maxHeartbeats 8000000
namespace Go.Proofs.YtlipmagkplbkdaaDoor
section
open Go Go.Conc Go.RowKit Go.ChangeShapes Go.WideShapes Go.ChangeAt
theorem Good_mono {P : Program} {Post Post' : Value -> World -> Prop} {m : Machine} {o : Outcome} {w' : World} {t' : Trace} (h : Go.Conc.Good P Post m o w' t') (hp : ∀ v, Post v w' -> Post' v w') : Go.Conc.Good P Post' m o w' t' :=
 h.elim fun v x => ⟨v, x.1, hp v x.2.1, x.2.2⟩
theorem Ends.mono {P : Program} {Q Q' : Value -> World -> Prop} {m : Machine} {t : Trace} (h : Ends P Q m t) (hp : ∀ v w, Q v w -> Q' v w) : Ends P Q' m t := by
 obtain ⟨n, last, o, w', t', h1, h2, h3, h4⟩ := h
 exact ⟨n, last, o, w', t', h1, h2, h3, Good_mono h4 fun v => hp v w'⟩
theorem change_leaving {H : Type} {enc : TypeId × Value -> H} {a : Assume} {C : Checked} {os : Os} {f : FuncId} {fn : Func} {s : ChangeSpec} {conds : List PathCond} {apart fresh handsOn again : Bool} {X : World -> Array Value -> Prop}
  (hX : ∀ (w w' : World) (args : Array Value), w.heap = w'.heap -> X w args -> X w' args)
  (own : ownKnob C.prog.godebug = none) (started : os.Started) (hfn : C.prog.funcs[f]? = some fn)
  (witness : ∃ (w : World) (tape : Tape) (i : Input), w.os = os /\ (w.forCall tape i).Shaped C.prog /\ i.vars = [] /\ Input.okWide C.prog (w.forCall tape i) .any w.heap.size f i /\
   ((s.pre enc C.prog fn conds apart (w.forCall tape i).memory i.args /\ X (w.forCall tape i).memory i.args) /\ sizedMet enc C.prog fn (OpenSpec.ofChange s) apart (w.forCall tape i).memory i.args) /\ a.holds C.prog (lone (Frame.enter C.prog f i.args .normal) [] (w.forCall tape i)))
  (runs : ∀ (W : World) (base : Nat) (args : Array Value) (ds gs : List (DataW H)) (before : List MemPlace),
   (∀ (j : Nat) t v, fn.params[j]? = some t -> args[j]? = some v -> Value.okWide C.prog W .any base t v) ->
   DataW.Whole enc C.prog fn.params.toList s.vars apart W args.toList ds gs before ->
   conds.all (PathCond.test C.prog ⟨fn.params.toList, ds, s.plain.varTypes C.prog, gs⟩) = true ->
   (DataW.weightsEach C.prog (fn.params.toList ++ s.plain.varTypes C.prog) (ds ++ gs)).all (· <= reachBytes) = true -> W.ShapedOpen C.prog -> X W args ->
   a.holds C.prog (lone (Frame.enter C.prog f args .normal) [] W) ->
   Ends C.prog (fun v W' => s.post enc C.prog fn apart fresh handsOn again W args v W') (solo (Go.Conc.G (Frame.enter C.prog f args .normal) []) W) #[]) :
  ReturnsInLeavingWide a C os f .any (fun w args => (s.pre enc C.prog fn conds apart w args /\ X w args) /\ sizedMet enc C.prog fn (OpenSpec.ofChange s) apart w args) (s.post enc C.prog fn apart fresh handsOn again) := by
 refine returnsInLeavingWide_of_good own started witness ?_
 intro w tape i _ hsh _ hok hpre hholds
 obtain ⟨_, _, _, fn', hfn', _, _, _, _, hval⟩ := hok
 have e : fn' = fn := Option.some.inj (hfn'.symm.trans hfn)
 subst e
 obtain ⟨⟨⟨ds, gs, before, hw, hc⟩, hx⟩, hz⟩ := hpre
 have hw' := DataW.Whole.of_heap (w' := w.forCall tape i) (by rfl) hw
 obtain ⟨M, last, o, w', t', h1, h2, h3, h4⟩ := runs (w.forCall tape i) w.heap.size i.args ds gs before hval hw' hc (hz.weights hw) hsh (hX _ _ _ (by rfl) hx) hholds
 exact ⟨M, last, o, w', t', h1, h2, h3, Good_mono h4 fun v hp => ChangeSpec.post_blind hp⟩
theorem holds_tied_goes (Lk : Looks) {p : Pinned} {s : OpenSpec} {c : OpenClaim} (kinds : List LaidKind) (tests : Bool) (har : Bool × String) (lk : Bool)
  (hc : c.holds p s) (hw : c.wfByText s = true) (htie : c.laidByTextAt Lk p kinds tests)
  (hst : c.start = .entering) (hnb : c.noBlocks = false /\ c.again = false) (hm : p.checked.prog.mainIs = some (har.1, har.2.toList)) (hn : (!har.1 && har.2.isEmpty && !lk) = false)
  (hl : ∀ f fn, p.checked.prog.funcNamed c.func = some f -> p.checked.prog.funcs[f]? = some fn -> lk = p.checked.prog.looks [] /\ ∀ (j : Nat) t, fn.params[j]? = some t -> p.checked.prog.wantsStandIn t = false)
  (hg : true = c.goesBy p.checked.prog) :
  Claim7.holds p (.plain s) { stood := { row := c, standIns := [], harness := har, looks := lk }, kinds := [], alts := [], goes := true, laidByText := true, laidKinds := kinds, laidTests := tests, laidLooks := Lk } := by
 have h6 : Claim7.isSixth { stood := { row := c, standIns := [], harness := har, looks := lk }, kinds := [] } = false := by simpa [Claim7.isSixth] using hn
 have h1 := Claim7.tied_new_at Lk kinds tests (Claim7.new_of_sixth hc har lk hst hnb hm h6 hl) hw
 exact ⟨h1, fun D hD => (by cases hD), htie, (fun h => by cases h), hg⟩
theorem tab_clean {S : FuncId -> Prop} {W : World} (h : TabAt W) : TabAt (cleanW S W) := by
 unfold TabAt Lib.TabIs World.var? at h ⊢
 cases hg : Tryd.prog.globalNamed "internal/strconv.uint64pow10" with
 | none => rw [hg] at h; cases h
 | some g =>
  rw [hg] at h
  simp only [Option.bind_some] at h ⊢
  rw [clean_get]
  cases hv : W.heap[g]? with
  | none => rw [hv] at h; cases h
  | some o =>
   rw [hv] at h
   cases o with
   | cells cs t fr =>
    have h := Option.some.inj h
    show some (cs.map (cleanV S (rho0 W))) = _
    rw [h, List.map_toArray, List.map_map]
    refine congrArg (fun l => some (List.toArray l)) (List.map_congr_left fun z _ => ?_)
    exact cleanV_id (.int _ _)
   | _ => cases h
theorem gat_clean {S : FuncId -> Prop} {W : World} (h : GAt W) : GAt (cleanW S W) := by
 obtain ⟨g, h1, h2⟩ := h
 exact ⟨g, h1, by rw [clean_size]; exact h2⟩
theorem shaped_cells {P : Program} {W : World} (h : W.ShapedOpen P) {g : Nat} (hg : g < P.globals.size) (hr : (((begin P (fun _ _ => 0) default).world.heap[g]?).bind Obj.row?).isSome = true) : ∃ cs t fr, W.heap[g]? = some (.cells cs t fr) := by
 cases hq : ((begin P (fun _ _ => 0) default).world.heap[g]?).bind Obj.row? with
 | none => rw [hq] at hr; cases hr
 | some zt =>
  obtain ⟨z, t⟩ := zt
  obtain ⟨cs, h1, _⟩ := h.1 g z t hg hq
  exact ⟨cs, t, _, h1⟩
theorem glok_of {W : World} (h : W.ShapedOpen Tryd.prog) : GlOk gR (rho0 W) /\ Tryd.prog.globals.size <= W.heap.size := by
 have h0 := shaped_cells h (g := 0) (of_decide_eq_true (by kernel_rfl)) (by kernel_rfl)
 have h1 := shaped_cells h (g := 1) (of_decide_eq_true (by kernel_rfl)) (by kernel_rfl)
 have h2 := shaped_cells h (g := 2) (of_decide_eq_true (by kernel_rfl)) (by kernel_rfl)
 have h3 := shaped_cells h (g := 3) (of_decide_eq_true (by kernel_rfl)) (by kernel_rfl)
 have h4 := shaped_cells h (g := 4) (of_decide_eq_true (by kernel_rfl)) (by kernel_rfl)
 have h5 := shaped_cells h (g := 5) (of_decide_eq_true (by kernel_rfl)) (by kernel_rfl)
 refine ⟨fun g hg => ?_, ?_⟩
 ·have hg' : g = 0 ∨ g = 1 ∨ g = 2 ∨ g = 3 ∨ g = 4 ∨ g = 5 := by unfold gR at hg; simpa using hg
  rcases hg' with rfl | rfl | rfl | rfl | rfl | rfl
  ·exact ⟨rfl, h0⟩
  ·exact ⟨rfl, h1⟩
  ·exact ⟨rfl, h2⟩
  ·exact ⟨rfl, h3⟩
  ·exact ⟨rfl, h4⟩
  ·exact ⟨rfl, h5⟩
 ·obtain ⟨cs, t, fr, h⟩ := h5
  have h6 : 5 < W.heap.size := (Array.getElem?_eq_some_iff.1 h).1
  exact Nat.le_trans (of_decide_eq_true (by kernel_rfl) : Tryd.prog.globals.size <= 6) h6
theorem asRel_list {S : FuncId -> Prop} {ρ : Ren} {l : List Value} (h : ∀ x ∈ l, VRel S ρ x x) : AsRel S ρ l.toArray l.toArray :=
 ⟨rfl, fun i h1 h2 => h _ (by simp)⟩
theorem ends_of_view {S : FuncId -> Prop} {Gb Sb : Nat -> Bool} {f : FuncId} {args : Array Value} {W : World} (hC : Ctx Tryd.prog S Gb Sb) (hG : GlOk Gb (rho0 W)) (hgs : Tryd.prog.globals.size <= W.heap.size) (hA : AsRel S (rho0 W) args args)
  (hM : MS Tryd.prog S Gb Sb (· = .bool true) [] none (Frame.enter Tryd.prog f args .normal) [] (cleanW S W)) :
  Ends Tryd.prog (fun y w' => y = .bool true /\ Below W.heap.size W w') (solo (Go.Conc.G (Frame.enter Tryd.prog f args .normal) []) W) #[] :=
 run_of_tree (N := W.heap.size) (ρ := rho0 W) (B0 := W.heap.size) hC (fun ρ x y h e => by subst e; exact vRel_bool h) (clean_rel hgs) clean_plain hG hA (fun b o _ h => clean_closed b o h) (fun b c hb hc => by rw [hc.1]; exact hb) (Nat.le_refl _) hM
end
end Go.Proofs.YtlipmagkplbkdaaDoor
