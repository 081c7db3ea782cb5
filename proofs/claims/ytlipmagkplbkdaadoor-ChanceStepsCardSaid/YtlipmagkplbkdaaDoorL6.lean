import Derived.Test.YtlipmagkplbkdaaDoorZ10
import Derived.Test.YtlipmagkplbkdaaDoorZ7
import Derived.Test.YtlipmagkplbkdaaDoorZ9
import Derived.Test.YtlipmagkplbkdaaDoorZ5
namespace Go.Proofs.YtlipmagkplbkdaaDoor
open Go.RowKit Go.Sort Go.BigFrame
set_option linter.unusedVariables false
set_option linter.unusedSimpArgs false
section
variable {P : Program} {o : Oper} {w : World}
theorem run_fieldL9 {t : TypeId} (ev : Operand → Value) (x : Operand) (f : Nat) (ho : o.op = .fieldAddr t x f) {u z : Value} (hx : ev x = u) (hr : (Instr.fieldAt t u f).run P w = .ok z w) : (execOp ev o).run P w = .ok (.value z) w := by
  unfold execOp
  simp only [ho, hx, Sem.run_bind, hr, Result.andThen_ok, Sem.run_pure]
theorem run_indexL9 {t : TypeId} (ev : Operand → Value) (x y : Operand) (ho : o.op = .indexAddr t x y) {u q z : Value} (hx : ev x = u) (hy : ev y = q) (hr : (Instr.indexAt t u q).run P w = .ok z w) : (execOp ev o).run P w = .ok (.value z) w := by
  unfold execOp
  simp only [ho, hx, hy, Sem.run_bind, hr, Result.andThen_ok, Sem.run_pure]
theorem run_oneL9 (ev : Operand → Value) (ty : TypeId) (x : Operand) (ho : o.op = .load ty x) (hu : P.underlying ty = some .string) (g k : Nat) (hx : ev x = .pointer (some ⟨g, k, none⟩)) {v : Value} (hc : w.cell? ⟨g, k, none⟩ = some v) :
    (execOp ev o).run P w = .ok (.value v) w := by
  unfold execOp
  simp only [ho, hx]
  simp [Instr.loadAt, Instr.sureAddr, loadVar, isAgg, Sem.run_bind, run_underlying hu, hc, go_sem]
theorem run_bsL9 {t : TypeId} {w' : World} (ev : Operand → Value) (x : Operand) (ho : o.op = .buildSlice t 1 #[(0, x)]) {u z : Value} (hx : ev x = u) (hr : (Instr.buildSlice t 1 #[(0, u)]).run P w = .ok z w') : (execOp ev o).run P w = .ok (.value z) w' := by
  rw [show execOp ev o = do return .value (← Instr.buildSlice t 1 #[(0, u)]) from by simp [execOp, ho, hx]]
  simp only [Sem.run_bind, hr, Result.andThen_ok]
  rfl
end
theorem run_buildL9 {o : Oper} {w : World} (ev : Operand → Value) (x y : Operand) (ho : o.op = .build 51 #[(0, x), (1, y)]) {p : ByteArray} {n : Int} {A : Option Addr} {m c : Nat} (hx : ev x = .string p) (hy : ev y = .agg #[.int .u8 n, .slice A m c]) :
    (execOp ev o).run Tryd.prog w = .ok (.value (.agg #[.string p, .int .u8 n, .slice A m c])) w := by
  unfold execOp
  simp only [ho, List.map_toArray, List.map_cons, List.map_nil, hx, hy]
  kernel_rfl
def T3 (g : Nat) (cl : Cel) (D : Option Addr) (d : Nat) : Nat → (Nat → Prop) → (Nat → Value) → World → Prop
  | 0, _, s, _ => s 0 = .pointer (some ⟨g, 0, none⟩)
  | 1, _, s, _ => s 1 = .string cl.path
  | 2, _, s, _ => s 2 = .pointer (some ⟨g, 1, none⟩)
  | 3, _, s, _ => s 3 = .agg #[.int .u8 cl.mod.name, .slice D cl.mod.args.length d]
  | 4, X, s, w => ∃ b, s 4 = .slice (some ⟨b, 0, none⟩) 1 1 ∧ X b ∧ Blk w b 49 #[.int .u8 cl.mod.name, .slice D cl.mod.args.length d]
  | 5, X, s, w => ∃ A c, s 5 = .slice A 1 c ∧ SlAt pMod X w A c [cl.mod]
  | 6, X, s, w => ∃ b o D9 d9, s 6 = .pointer (some ⟨b, o, none⟩) ∧ X b ∧ w.cell? ⟨b, o, none⟩ = some (.int .u8 cl.mod.name) ∧ w.cell? ⟨b, o + 1, none⟩ = some (.slice D9 cl.mod.args.length d9) ∧ SlAt (pI .i64) X w D9 d9 cl.mod.args
  | 7, X, s, w => ∃ D9 d9, s 7 = .agg #[.int .u8 cl.mod.name, .slice D9 cl.mod.args.length d9] ∧ SlAt (pI .i64) X w D9 d9 cl.mod.args
  | 8, X, s, w => ∃ D9 d9, s 8 = .agg #[.string cl.path, .int .u8 cl.mod.name, .slice D9 cl.mod.args.length d9] ∧ SlAt (pI .i64) X w D9 d9 cl.mod.args
  | 9, X, s, w => ∃ A c, s 9 = .slice A 1 c ∧ SlAt pCel X w A c [cl]
  | 10, X, s, w => ∃ A c, s 10 = .slice A 1 c ∧ SlAt pCel X w A c [cl]
  | 11, _, s, _ => s 11 = .int .i64 0
  | _, _, _, _ => True
def t3c : List (Option Nat) := [none, none, none, none, none, some 6, some 7, some 8, some 9, some 10, none, none]
def t3D : List (List Nat) := [[], [0], [], [2], [3], [4], [5], [6], [1, 7], [8], [9], []]
theorem T3_stab (W : World) (g : Nat) (cl : Cel) (D : Option Addr) (d : Nat) (i : Nat) (X : Nat → Prop) (s s' : Nat → Value) (w w' : World) (h : T3 g cl D d i X s w) (hi' : s' i = s i) (_ : ∀ k, k ∈ t3D.getD i [] → s' k = s k) (_ : RowKit.Below W.heap.size W w) (_ : RowKit.Below W.heap.size W w') (_ : w.heap.size ≤ w'.heap.size) (_ : ∀ k, X k → k < w.heap.size) (hk : ∀ k, X k → w'.heap[k]? = w.heap[k]?) : T3 g cl D d i X s' w' := by
  match i, h, hi' with
  | 0, h, hi | 1, h, hi | 2, h, hi | 3, h, hi | 11, h, hi => exact hi.trans h
  | 4, ⟨b, h1, h2, h3⟩, hi => exact ⟨b, hi.trans h1, h2, h3.same (hk b h2)⟩
  | 5, ⟨A, c, h1, h2⟩, hi => exact ⟨A, c, hi.trans h1, h2.keep hk⟩
  | 6, ⟨b, o, D9, d9, h1, h2, h3, h4, h5⟩, hi => exact ⟨b, o, D9, d9, hi.trans h1, h2, (cell_keep (hk b h2)).trans h3, (cell_keep (hk b h2)).trans h4, h5.keep hk⟩
  | 7, ⟨D9, d9, h1, h2⟩, hi => exact ⟨D9, d9, hi.trans h1, h2.keep hk⟩
  | 8, ⟨D9, d9, h1, h2⟩, hi => exact ⟨D9, d9, hi.trans h1, h2.keep hk⟩
  | 9, ⟨A, c, h1, h2⟩, hi => exact ⟨A, c, hi.trans h1, h2.keep hk⟩
  | 10, ⟨A, c, h1, h2⟩, hi => exact ⟨A, c, hi.trans h1, h2.keep hk⟩
  | n + 12, _, _ => exact trivial
set_option maxRecDepth 100000 in
set_option maxHeartbeats 8000000 in
theorem refSucc_calls (A : Option Addr) (c : Nat) (rs : List Rul) (s : Int) (cl : Cel) (D : Option Addr) (d : Nat) (w : World) (h : SlAt pRul (Old w) w A c rs) (h' : SlAt (pI .i64) (Old w) w D d cl.mod.args) (hf8 : Fits .u8 cl.mod.name) (hs : Fits .i64 s) (hv : RVal rs) (hfine : fineF cl.mod = true) (hp : cl.path.size ≤ 300) :
    Calls Tryd.prog 54 #[.slice A rs.length c, .int .i64 s, .agg #[.string cl.path, .int .u8 cl.mod.name, .slice D cl.mod.args.length d]] w (CelsPost (succR rs s cl) w) := by
  have hmx := h.lenle
  have hmx' := h'.lenle
  have hargs := fine_args hfine
  obtain ⟨W0, hW0⟩ : ∃ W0, W0 = w.alloc (.cells #[.string cl.path, .int .u8 cl.mod.name, .slice D cl.mod.args.length d] 51) := ⟨_, rfl⟩
  have hb0 : Below w.heap.size w W0 := by rw [hW0]; exact (Below.refl _ _).alloc (Nat.le_refl _) _
  have hz0 : w.heap.size + 1 ≤ W0.heap.size := by rw [hW0]; simp
  have hbl0 : Blk W0 w.heap.size 51 #[.string cl.path, .int .u8 cl.mod.name, .slice D cl.mod.args.length d] := by rw [hW0]; exact Blk.new _ _ _
  have hcc := refChosen_calls A c rs s cl D d W0 (h.later hb0) (h'.later hb0) hs hv hfine hp
  have y0 : W0.cell? ⟨w.heap.size, 0, none⟩ = some (.string cl.path) := (hbl0.cell 0).trans rfl
  have y1 : W0.cell? ⟨w.heap.size, 1, none⟩ = some (.int .u8 cl.mod.name) := (hbl0.cell 1).trans rfl
  have y2 : W0.cell? ⟨w.heap.size, 2, none⟩ = some (.slice D cl.mod.args.length d) := (hbl0.cell 2).trans rfl
  unfold IntPost at hcc
  rcases pick_cases hv s cl with ⟨hnil, hch, hpk⟩ | ⟨i, j, r, hi, hch, hij, hj, hfit, hpk⟩
  · have hres : succR rs s cl = ([cl], 0) := succR_none hpk
    rw [num_none hnil] at hcc
    have H := Lib.hid h; clear h
    have H' := Lib.hid h'; clear h'
    have Hv := Lib.hid hv; clear hv
    have Hargs := Lib.hid hargs; clear hargs
    have Hb0 := Lib.hid hb0; clear hb0
    have Hbl0 := Lib.hid hbl0; clear hbl0
    have Hfine := Lib.hid hfine; clear hfine
    have Hs := Lib.hid hs; clear hs
    have Hcc := Lib.hid hcc; clear hcc
    have Hres := Lib.hid hres; clear hres
    have Hnil := Lib.hid hnil; clear hnil
    have Hch := Lib.hid hch; clear hch
    have Hpk := Lib.hid hpk; clear hpk
    have Y0 := Lib.hid y0; clear y0
    have Y1 := Lib.hid y1; clear y1
    have Y2 := Lib.hid y2; clear y2
    go_enter Tryd.func54, Tryd.ntmps54
    go_upto_region 1 with fail
    rw [← hW0]
    have HW0 := Lib.hid hW0; clear hW0
    have y0 := Y0.out
    have y1 := Y1.out
    have y2 := Y2.out
    go_upto_region 3 with (go_at_call 71; refine Hcc.out.mono ?_; rintro e w1 ⟨rfl, hb1⟩)
    have hz1 := hb1.size
    have hbw1 : Below w.heap.size w w1 := Hb0.out.trans (hb1.mono (by omega))
    have hbl1 := Hbl0.out.same (hb1.block _ (by omega))
    clear y0 y1 y2
    have y0 : w1.cell? ⟨w.heap.size, 0, none⟩ = some (.string cl.path) := (hbl1.cell 0).trans rfl
    have y1 : w1.cell? ⟨w.heap.size, 1, none⟩ = some (.int .u8 cl.mod.name) := (hbl1.cell 1).trans rfl
    have y2 : w1.cell? ⟨w.heap.size, 2, none⟩ = some (.slice D cl.mod.args.length d) := (hbl1.cell 2).trans rfl
    clear y0 y1 y2
    have Hb1 := Lib.hid hb1; clear hb1
    have Hbw1 := Lib.hid hbw1; clear hbw1
    have Hbl1 := Lib.hid hbl1; clear hbl1
    refine wp_region_led (T3 w.heap.size cl D d) t3c t3D (by kernel_rfl) (by kernel_rfl) (T3_stab w1 w.heap.size cl D d) ?step ?fin
    case step =>
      intro i o ho a w' X hA
      have hbl := Hbl1.out.same (hA.bel.block _ Hbl1.out.lt)
      match i, ho with
      | 0, ho =>
        obtain rfl := Option.some.inj ho
        exact led_quiet hA (.pointer (some ⟨w.heap.size, 0, none⟩)) (run_fieldL9 _ (.tmp 5) 0 rfl (hA.old (d := 5) (by kernel_rfl) rfl) (by kernel_rfl)) (fun e => by cases e) fun s hs _ => hs
      | 1, ho =>
        obtain rfl := Option.some.inj ho
        exact led_quiet hA (.string cl.path) (run_oneL9 _ 9 (.tmp 20) rfl Tryd.underlying9 _ 0 ((hA.val rfl).trans (hA.get 0 (by decide) (.inl rfl))) ((hbl.cell 0).trans rfl)) (fun e => by cases e) fun s hs _ => hs
      | 2, ho =>
        obtain rfl := Option.some.inj ho
        exact led_quiet hA (.pointer (some ⟨w.heap.size, 1, none⟩)) (run_fieldL9 _ (.tmp 5) 1 rfl (hA.old (d := 5) (by kernel_rfl) rfl) (by kernel_rfl)) (fun e => by cases e) fun s hs _ => hs
      | 3, ho =>
        obtain rfl := Option.some.inj ho
        exact led_quiet hA (.agg #[.int .u8 cl.mod.name, .slice D cl.mod.args.length d]) (run_loadL _ 49 (.tmp 22) rfl w.heap.size 1 ((hA.val rfl).trans (hA.get 2 (by decide) (.inl rfl))) [.int .u8 cl.mod.name, .slice D cl.mod.args.length d] _ (range_blk hbl 1 _ fun j v hj => by
          match j, hj with
          | 0, hj => exact hj
          | 1, hj => exact hj
          | j + 2, hj => simp at hj) Tryd.underlying49 rfl (by kernel_rfl)) (fun e => by cases e) fun s hs _ => hs
      | 4, ho =>
        obtain rfl := Option.some.inj ho
        have e3 := hA.get 3 (by decide) (.inl rfl)
        exact led_new hA _ _ (run_bsL9 _ (.tmp 23) rfl ((hA.val rfl).trans e3) (run_buildSlice1 Tryd.underlying23 info_mod rfl (by decide) (by decide) _ rfl w')) (fun e => by cases e) fun s hs _ => ⟨_, hs, rfl, Blk.new _ _ _⟩
      | 5, ho =>
        obtain rfl := Option.some.inj ho
        obtain ⟨b, e4, hX, hbb⟩ := hA.get 4 (by decide) (.inl rfl)
        have hsb : SlAt pMod (Old w') w' (some ⟨b, 0, none⟩) 1 [cl.mod] := by
          refine ⟨Nat.le_refl _, by unfold maxLen; omega, (fun he => by cases he), fun i x hx => ?_⟩
          have hi : i = 0 := by have := (List.getElem?_eq_some_iff.1 hx).1; simpa using this
          subst hi
          obtain rfl : x = cl.mod := by simpa using hx.symm
          refine ⟨b, 0, [.int .u8 cl.mod.name, .slice D cl.mod.args.length d], rfl, hbb.lt, ⟨D, d, rfl, hf8, H'.out.later (Hbw1.out.trans (hA.bel.mono (by omega)))⟩, fun j c hj => ?_⟩
          match j, hj with
          | 0, hj => exact (hbb.cell 0).trans hj
          | 1, hj => exact (hbb.cell 1).trans hj
          | j + 2, hj => simp at hj
        exact led_call hA 45 #[.slice (some ⟨b, 0, none⟩) 1 1] (fun v w'' => ∃ A c, v = .slice A 1 c ∧ SlAt pMod (fun q => w'.heap.size ≤ q ∧ q < w''.heap.size) w'' A c [cl.mod]) (Eq.trans (b := .ok (.enter 45 #[a.eval (.tmp 24)]) w') (by kernel_rfl) (by rw [(hA.val rfl).trans e4])) (fun e => by cases e)
          ((refTwin_calls (some ⟨b, 0, none⟩) 1 [cl.mod] w' hsb (by simp) (fun m' hm' => by simp at hm'; rw [hm']; have := Hargs.out.2; omega)).mono fun e w'' ⟨A, c, he, ho, hb⟩ => by
            obtain ⟨_, _, hv, hs⟩ := ho.fresh
            injection hv with h1 h2 h3
            subst h1 h3
            exact ⟨_, he, ⟨A, c, rfl, hs⟩, hb⟩) fun v w'' hR _ s hs _ => by
            obtain ⟨A, c, rfl, hsl⟩ := hR
            exact ⟨A, c, hs, hsl⟩
      | 6, ho =>
        obtain rfl := Option.some.inj ho
        obtain ⟨A, c, e5, hsl⟩ := hA.get 5 (by decide) (.inr rfl)
        obtain ⟨b, o, D9, d9, m', hd, rfl, hob, x0, x1, _, hxa, _⟩ := hsl.getMod (i := 0) (by simp)
        obtain rfl : m' = cl.mod := by have := hd.out; simp at this; exact this.symm
        exact led_pass hA 5 rfl (.pointer (some ⟨b, o, none⟩)) (run_indexL9 _ (.tmp 25) _ rfl ((hA.val rfl).trans e5) (q := .int .i64 0) rfl (by kernel_rfl)) (fun e => by cases e) fun s hs _ => ⟨b, o, D9, d9, hs, hob, by simpa using x0, by simpa using x1, hxa.out⟩
      | 7, ho =>
        obtain rfl := Option.some.inj ho
        obtain ⟨b, o, D9, d9, e6, hX, x0, x1, hxa⟩ := hA.get 6 (by decide) (.inr rfl)
        exact led_pass hA 6 rfl (.agg #[.int .u8 cl.mod.name, .slice D9 cl.mod.args.length d9]) (run_loadL _ 49 (.tmp 26) rfl b o ((hA.val rfl).trans e6) [.int .u8 cl.mod.name, .slice D9 cl.mod.args.length d9] _ (fun j v hj => by
          match j, hj with
          | 0, hj => exact x0.trans hj
          | 1, hj => exact x1.trans hj
          | j + 2, hj => simp at hj) Tryd.underlying49 rfl (by kernel_rfl)) (fun e => by cases e) fun s hs _ => ⟨D9, d9, hs, hxa⟩
      | 8, ho =>
        obtain rfl := Option.some.inj ho
        have e1 := hA.get 1 (by decide) (.inl rfl)
        obtain ⟨D9, d9, e7, hxa⟩ := hA.get 7 (by decide) (.inr rfl)
        exact led_pass hA 7 rfl _ (run_buildL9 _ (.tmp 21) (.tmp 27) rfl ((hA.val rfl).trans e1) ((hA.val rfl).trans e7)) (fun e => by cases e) fun s hs _ => ⟨D9, d9, hs, hxa⟩
      | 9, ho =>
        obtain rfl := Option.some.inj ho
        obtain ⟨D9, d9, e8, hxa⟩ := hA.get 8 (by decide) (.inr rfl)
        have hX : ∀ k, X 8 k → k < w'.heap.size := fun k hk => (hA.own 8 k (by decide) (.inr rfl) hk).2
        exact led_new2 hA 8 rfl _ _ (run_bsL9 _ (.tmp 28) rfl ((hA.val rfl).trans e8) (run_buildSlice1 Tryd.underlying26 info_cel rfl (by decide) (by decide) _ rfl w')) (fun e => by cases e) fun s hs _ => ⟨_, 1, hs, (sl_boxed (E := pCel) (F := X 8) (x := cl) (u := .agg #[.string cl.path, .int .u8 cl.mod.name, .slice D9 cl.mod.args.length d9]) ⟨D9, d9, rfl, by unfold maxLen; omega, hf8, hxa⟩ hX).wide fun q hq => hq.elim .inr .inl⟩
      | 10, ho =>
        obtain rfl := Option.some.inj ho
        obtain ⟨A, c, e9, hsl⟩ := hA.get 9 (by decide) (.inr rfl)
        exact led_pass hA 9 rfl _ (run_moveL _ (.tmp 29) _ (.inr rfl) ((hA.val rfl).trans e9)) (fun e => by cases e) fun s hs _ => ⟨A, c, hs, hsl⟩
      | 11, ho =>
        obtain rfl := Option.some.inj ho
        exact led_quiet hA (.int .i64 0) (run_moveL _ _ _ (.inr rfl) rfl) (fun e => by cases e) fun s hs _ => hs
      | n + 12, ho =>
        have : (none : Option Oper) = some o := ho
        cases this
    case fin =>
      intro v X w6 hb6 hv
      obtain ⟨⟨A5, c5, v10, s5⟩, y5⟩ := hv 10 (by simp) rfl
      have v11 := (hv 11 (by simp) rfl).1
      have s6 : SlAt pCel (fun k => w.heap.size ≤ k ∧ k < w6.heap.size) w6 A5 c5 [cl] := s5.wide fun k hk => ⟨by have := (y5 k hk).1; omega, (y5 k hk).2⟩
      have tot : Below w.heap.size w w6 := Hbw1.out.trans (hb6.mono (by omega))
      simp only [putsV, List.setIfInBounds_toArray, List.set_cons_succ, List.set_cons_zero]
      rw [v10, show v 11 = _ from v11]
      clear hv v10 v11 s5 y5 hb6
      have S6 := Lib.hid s6; clear s6
      have Tot := Lib.hid tot; clear tot
      go_wp2
      go_ret2
      rw [Hres.out]
      exact ⟨A5, c5, rfl, S6.out, Tot.out⟩
  · have hres : succR rs s cl = sucR r cl := succR_some hpk
    rw [num_some hch hij] at hcc
    have hmem := List.mem_of_getElem? hj
    have hco1 := hv.c r hmem
    have ho20 := hv.o r hmem
    have hjl : j < rs.length := (List.getElem?_eq_some_iff.1 hj).1
    have hj0 : (0 : Int) ≤ (j : Int) := Int.natCast_nonneg _
    have hj1 : (j : Int) < (rs.length : Int) := by omega
    have hnn : ¬ ((j : Int) < 0) := by omega
    have H := Lib.hid h; clear h
    have H' := Lib.hid h'; clear h'
    have Hv := Lib.hid hv; clear hv
    have Hargs := Lib.hid hargs; clear hargs
    have Hb0 := Lib.hid hb0; clear hb0
    have Hbl0 := Lib.hid hbl0; clear hbl0
    have Hfine := Lib.hid hfine; clear hfine
    have Hs := Lib.hid hs; clear hs
    have Hcc := Lib.hid hcc; clear hcc
    have Hres := Lib.hid hres; clear hres
    have Hch := Lib.hid hch; clear hch
    have Hij := Lib.hid hij; clear hij
    have Hj := Lib.hid hj; clear hj
    have Hfit := Lib.hid hfit; clear hfit
    have Hpk := Lib.hid hpk; clear hpk
    have Y0 := Lib.hid y0; clear y0
    have Y1 := Lib.hid y1; clear y1
    have Y2 := Lib.hid y2; clear y2
    have Hmem := Lib.hid hmem; clear hmem
    have Hco1 := Lib.hid hco1; clear hco1
    go_enter Tryd.func54, Tryd.ntmps54
    go_upto_region 1 with fail
    rw [← hW0]
    have HW0 := Lib.hid hW0; clear hW0
    have y0 := Y0.out
    have y1 := Y1.out
    have y2 := Y2.out
    go_upto_region 4 with (go_at_call 71; refine Hcc.out.mono ?_; rintro e w1 ⟨rfl, hb1⟩)
    have hz1 := hb1.size
    have hbw1 : Below w.heap.size w w1 := Hb0.out.trans (hb1.mono (by omega))
    have hbl1 := Hbl0.out.same (hb1.block _ (by omega))
    clear y0 y1 y2
    obtain ⟨b7, o7, A7, c7, A8, c8, r', hdr, hA7, hob7, k0, k1, k2, k3, k4, k5, k6, hat, hl1, hl2⟩ := (H.out.below hbw1).getRulAt hjl
    have hrr : r' = r := by have h1 := get_of_drop hdr.out; rw [Hj.out] at h1; exact (Option.some.inj h1).symm
    subst hrr
    subst hA7
    have hob7w : b7 < w.heap.size := hob7
    have hz1w : w.heap.size + 1 ≤ w1.heap.size := by omega
    have hxa1 : SlAt (pI .i64) (Old w) w1 D d cl.mod.args := H'.out.below hbw1
    have hmade : ∀ W : World, Below w1.heap.size w1 W → Calls Tryd.prog 72 #[.agg #[.int .u8 r'.name, .int .i64 r'.arity, .int .u8 r'.left, .int .u8 r'.right, .slice A7 r'.guards.length c7, .int .i64 r'.weight, .slice A8 r'.out.length c8], .agg #[.int .u8 cl.mod.name, .slice D cl.mod.args.length d]] W
        (fun e W' => ∃ A9 c9, e = .returned (.tuple #[.slice A9 (madeR r' cl.mod).1.length c9, .bool (madeR r' cl.mod).2]) ∧ SlAt pMod (fun q => W.heap.size ≤ q ∧ q < W'.heap.size) W' A9 c9 (madeR r' cl.mod).1 ∧ Below w1.heap.size w1 W' ∧ Below W.heap.size W W') := fun W hW =>
      (refMade_calls r' A7 c7 A8 c8 D d cl.mod W (RulAt.to hat.out (by omega) hW) ((hxa1.keep fun q hq => hW.block q (by have : q < w.heap.size := hq; omega)).wide fun q hq => by have : q < w.heap.size := hq; have := hW.size; show q < W.heap.size; omega) Hco1.out Hfit.out Hargs.out (by omega)).mono fun e W' ⟨A9, c9, he, ho9, hb9⟩ => by
        obtain ⟨_, _, hv9, hs9⟩ := ho9.fresh; cases hv9
        exact ⟨A9, c9, he, hs9, hW.trans (hb9.mono hW.size), hb9⟩
    have sk : ∀ W : World, Below w1.heap.size w1 W → W.cell? ⟨w.heap.size, 1, none⟩ = some (.int .u8 cl.mod.name) ∧ W.cell? ⟨w.heap.size, 2, none⟩ = some (.slice D cl.mod.args.length d) ∧
        W.cell? ⟨b7, o7 + j * 7, none⟩ = some (.int .u8 r'.name) ∧ W.cell? ⟨b7, o7 + j * 7 + 1, none⟩ = some (.int .i64 r'.arity) ∧ W.cell? ⟨b7, o7 + j * 7 + 2, none⟩ = some (.int .u8 r'.left) ∧ W.cell? ⟨b7, o7 + j * 7 + 3, none⟩ = some (.int .u8 r'.right) ∧ W.cell? ⟨b7, o7 + j * 7 + 4, none⟩ = some (.slice A7 r'.guards.length c7) ∧ W.cell? ⟨b7, o7 + j * 7 + 5, none⟩ = some (.int .i64 r'.weight) ∧ W.cell? ⟨b7, o7 + j * 7 + 6, none⟩ = some (.slice A8 r'.out.length c8) := fun W hW => by
      have hb := hbl1.same (hW.block _ (by omega))
      have e7 : W.heap[b7]? = w1.heap[b7]? := hW.block b7 (by omega)
      exact ⟨(hb.cell 1).trans rfl, (hb.cell 2).trans rfl, (cell_keep e7).trans k0, (cell_keep e7).trans k1, (cell_keep e7).trans k2, (cell_keep e7).trans k3, (cell_keep e7).trans k4, (cell_keep e7).trans k5, (cell_keep e7).trans k6⟩
    obtain ⟨y1, y2, k0, k1, k2, k3, k4, k5, k6⟩ := sk w1 (Below.refl _ _)
    have hbase : Below w1.heap.size w1 w1.drew := below_drew (Below.refl _ _)
    cases hmo2 : madeOk r' cl.mod
    · have hmr : madeR r' cl.mod = ([], false) := by unfold madeR; rw [hmo2]; rfl
      have hst := sucR_not (c := cl) hmo2
      rw [hmr] at hmade
      have Hmade := Lib.hid hmade; clear hmade
      have Sk := Lib.hid sk; clear sk
      have Hbw1 := Lib.hid hbw1; clear hbw1
      have Hst := Lib.hid hst; clear hst
      have Hmr := Lib.hid hmr; clear hmr
      have Hat := Lib.hid hat; clear hat
      have Hmo2 := Lib.hid hmo2; clear hmo2
      have Hb1 := Lib.hid hb1; clear hb1
      have Hdr := Lib.hid hdr; clear hdr
      have Hxa1 := Lib.hid hxa1; clear hxa1
      have Hbl1 := Lib.hid hbl1; clear hbl1
      go_region_held3 (fun w' => w'.cell? ⟨w.heap.size, 1, none⟩ = some (.int .u8 cl.mod.name) ∧ w'.cell? ⟨w.heap.size, 2, none⟩ = some (.slice D cl.mod.args.length d) ∧
        w'.cell? ⟨b7, o7 + j * 7, none⟩ = some (.int .u8 r'.name) ∧ w'.cell? ⟨b7, o7 + j * 7 + 1, none⟩ = some (.int .i64 r'.arity) ∧ w'.cell? ⟨b7, o7 + j * 7 + 2, none⟩ = some (.int .u8 r'.left) ∧ w'.cell? ⟨b7, o7 + j * 7 + 3, none⟩ = some (.int .u8 r'.right) ∧ w'.cell? ⟨b7, o7 + j * 7 + 4, none⟩ = some (.slice A7 r'.guards.length c7) ∧ w'.cell? ⟨b7, o7 + j * 7 + 5, none⟩ = some (.int .i64 r'.weight) ∧ w'.cell? ⟨b7, o7 + j * 7 + 6, none⟩ = some (.slice A8 r'.out.length c8))
        (first | exact Sk.out _ (by assumption) | assumption)
        (first | (go_at_call 72; refine (Hmade.out _ ?_).mono ?_; (first | assumption | simp [*]); rintro e wv ⟨A9, c9, rfl, hs9, hB9, hC9⟩))
      have hbw9 : Below w.heap.size w wv := Hbw1.out.trans (hB9.mono (by omega))
      have Hbw9 := Lib.hid hbw9; clear hbw9
      go_wp2
      go_ret2
      exact celsPost_none (Hres.out.trans Hst.out) Hbw9.out
    · have hmr : madeR r' cl.mod = (madeL r' cl.mod, true) := by unfold madeR; rw [hmo2]; rfl
      have hml := madeL_len r' cl.mod
      obtain ⟨M, hM⟩ : ∃ M, madeL r' cl.mod = M := ⟨_, rfl⟩
      rw [hM] at hml hmr
      rw [hmr, show ((M, true) : List Mod × Bool).1 = M from rfl, hml] at hmade
      have hlong : shortL (sucL cl.path M) = false → sucR r' cl = ([], 4) := fun h => sucR_long hmo2 (by rw [hM]; exact h)
      have hgood : shortL (sucL cl.path M) = true → sucR r' cl = (sucL cl.path M, 0) := fun h => by rw [sucR_ok hmo2 (by rw [hM]; exact h), hM]
      have hLl : (sucL cl.path M).length = r'.out.length := by rw [sucL_len, hml]
      have hsh0 : shortL (sucL cl.path M) = shortL ((sucL cl.path M).drop 0) := rfl
      have Hmade := Lib.hid hmade; clear hmade
      have Sk := Lib.hid sk; clear sk
      have Hbw1 := Lib.hid hbw1; clear hbw1
      have Hmr := Lib.hid hmr; clear hmr
      have Hat := Lib.hid hat; clear hat
      have Hmo2 := Lib.hid hmo2; clear hmo2
      have Hb1 := Lib.hid hb1; clear hb1
      have Hdr := Lib.hid hdr; clear hdr
      have Hxa1 := Lib.hid hxa1; clear hxa1
      have Hbl1 := Lib.hid hbl1; clear hbl1
      have HM := Lib.hid hM; clear hM
      have Hml := Lib.hid hml; clear hml
      have Hlong := Lib.hid hlong; clear hlong
      have Hgood := Lib.hid hgood; clear hgood
      have HLl := Lib.hid hLl; clear hLl
      have Hsh0 := Lib.hid hsh0; clear hsh0
      go_region_held3 (fun w' => w'.cell? ⟨w.heap.size, 1, none⟩ = some (.int .u8 cl.mod.name) ∧ w'.cell? ⟨w.heap.size, 2, none⟩ = some (.slice D cl.mod.args.length d) ∧
        w'.cell? ⟨b7, o7 + j * 7, none⟩ = some (.int .u8 r'.name) ∧ w'.cell? ⟨b7, o7 + j * 7 + 1, none⟩ = some (.int .i64 r'.arity) ∧ w'.cell? ⟨b7, o7 + j * 7 + 2, none⟩ = some (.int .u8 r'.left) ∧ w'.cell? ⟨b7, o7 + j * 7 + 3, none⟩ = some (.int .u8 r'.right) ∧ w'.cell? ⟨b7, o7 + j * 7 + 4, none⟩ = some (.slice A7 r'.guards.length c7) ∧ w'.cell? ⟨b7, o7 + j * 7 + 5, none⟩ = some (.int .i64 r'.weight) ∧ w'.cell? ⟨b7, o7 + j * 7 + 6, none⟩ = some (.slice A8 r'.out.length c8))
        (first | exact Sk.out _ (by assumption) | assumption)
        (first | (go_at_call 72; refine (Hmade.out _ ?_).mono ?_; (first | assumption | simp [*]); rintro e wv ⟨A9, c9, rfl, hs9, hB9, hC9⟩))
      have hzv := hB9.size
      have hbwv : Below w.heap.size w wv := Hbw1.out.trans (hB9.mono (by omega))
      have hblv := Hbl1.out.same (hB9.block _ (by omega))
      have hs9' : SlAt pMod (fun q => w1.heap.size ≤ q ∧ q < wv.heap.size) wv A9 c9 M := hs9.wide fun q hq => ⟨Nat.le_trans (by first | (simp; done) | (simp; omega)) hq.1, hq.2⟩
      have how0 : Own pCel 51 wv.heap.size (w1.heap.size ≤ ·) wv (.slice none 0 0) ((sucL cl.path M).take 0) := Own.nil
      have hlenM : M.length = r'.out.length := Hml.out
      clear k0 k1 k2 k3 k4 k5 k6 y1 y2
      clear hs9
      have HB9 := Lib.hid hB9; clear hB9
      have HC9 := Lib.hid hC9; clear hC9
      have Hbwv := Lib.hid hbwv; clear hbwv
      have Hblv := Lib.hid hblv; clear hblv
      have Hs9' := Lib.hid hs9'; clear hs9'
      have How0 := Lib.hid how0; clear how0
      have HlenM := Lib.hid hlenM; clear hlenM
      go_wp2
      go_loopw [12, 11] (fun zq out wr => ∃ (q : Nat) (Aq : Option Addr) (cq : Nat), q ≤ r'.out.length ∧ zq = .int .i64 q ∧ out = .slice Aq q cq ∧ Hid (Below wv.heap.size wv wr) ∧ wv.heap.size ≤ wr.heap.size ∧ Hid (shortL (sucL cl.path M) = shortL ((sucL cl.path M).drop q)) ∧
        Hid (Own pCel 51 wv.heap.size (w1.heap.size ≤ ·) wr (.slice Aq q cq) ((sucL cl.path M).take q))) (fun zq _ _ => r'.out.length - (intOf zq).toNat)
      case atStart => exact ⟨0, none, 0, Nat.zero_le _, rfl, rfl, Below.refl _ _, Nat.le_refl _, Hsh0, How0⟩
      case round =>
        obtain ⟨q, Aq, cq, hq, rfl, rfl, hb4, hsz4, hsh, hown4⟩ := hrel
        obtain ⟨wi, rfl⟩ : ∃ wi : World, wi = wr := ⟨_, rfl⟩
        have hbwi : Below w.heap.size w wi := Hbwv.out.trans (hb4.out.mono (by omega))
        have hbli := Hblv.out.same (hb4.out.block _ (by omega))
        by_cases hlq : q < r'.out.length
        case neg =>
          obtain rfl : q = r'.out.length := by omega
          have hyes : shortL (sucL cl.path M) = true := by rw [hsh.out, drop_end (by have := HLl.out; omega)]; rfl
          have hf := Hgood.out hyes
          have hown5 := hown4.out
          have hLl' := HLl.out
          rw [List.take_of_length_le (by omega)] at hown5
          generalize sucL cl.path M = L at hf hown5 hLl'
          obtain ⟨hz1', hsl5⟩ := hown5.sl'
          have hsl6 : SlAt pCel (fun x => w.heap.size ≤ x ∧ x < wi.heap.size) wi Aq cq L := hsl5.wide fun x hx => by omega
          have Hf := Lib.hid hf; clear hf
          have Hsl6 := Lib.hid hsl6; clear hsl6
          have Hbwi := Lib.hid hbwi; clear hbwi
          have HLl' := Lib.hid hLl'; clear hLl'
          clear hown5 hsl5 hown4 hsh
          go_wp2
          go_ret2
          rw [Hres.out, Hf.out]
          refine ⟨Aq, cq, ?_, Hsl6.out, Hbwi.out⟩
          show Ending.returned (.tuple #[.slice Aq r'.out.length cq, .int .i64 0]) = _
          rw [HLl'.out]
        case pos =>
          obtain ⟨it, hit⟩ : ∃ it, itoaB q = it := ⟨_, rfl⟩
          have his : it.size ≤ 21 := by rw [← hit]; exact itoaB_size (by omega)
          have hsub : subP cl.path q = cl.path ++ ⟨#[47]⟩ ++ it := by unfold subP slash; rw [hit]
          have hsz3 : (cl.path ++ (⟨#[47]⟩ : ByteArray) ++ it).size = cl.path.size + 1 + it.size := by rw [← hsub, subP_size, hit]
          have hqM : q < M.length := by have := HlenM.out; omega
          obtain ⟨b3, o3, D3, d3, m3, hd3, hA3, hob3, x0, x1, hf3, hxa3, hxl3⟩ := (Hs9'.out.keep (w' := wi) fun x hx => hb4.out.block x hx.2).getMod hqM
          subst hA3
          have hob3i : b3 < wi.heap.size := by omega
          have hgetM : M[q]? = some m3 := get_of_drop hd3.out
          have htk := sucL_take (p := cl.path) hgetM
          have hdrop : (sucL cl.path M).drop q = ⟨subP cl.path q, m3⟩ :: (sucL cl.path M).drop (q + 1) := drop_cons (sucL_get hgetM)
          have y0 : wi.cell? ⟨w.heap.size, 0, none⟩ = some (.string cl.path) := (hbli.cell 0).trans rfl
          have p0 := cell_regrown y0
          have hdec : ∀ (dd : Nat) (os : Array Obj), Calls Tryd.prog 46 #[.int .i64 q] (grow (redrawn wi dd) os) fun e w'' => e = .returned (.string it) ∧ ∃ p : Regrown, w'' = grow (redrawn wi p.d) p.os := fun dd os =>
            Calls.regrown_of ((decC_calls q _ (by omega)).mono fun e w' ⟨he, hw⟩ => ⟨by rw [he, hit], by rw [← hw]; exact Below.refl _ _⟩)
          have hq0 : (0 : Int) ≤ (q : Int) := Int.natCast_nonneg _
          have hq1 : (q : Int) < (r'.out.length : Int) := by omega
          have hq1' : ¬ (9223372036854775807 < cl.path.size + 1) := by omega
          have hq2' : ¬ (9223372036854775807 < cl.path.size + 1 + it.size) := by omega
          have Hdec := Lib.hid hdec; clear hdec
          have Htk := Lib.hid htk; clear htk
          have Hdrop := Lib.hid hdrop; clear hdrop
          have Hd3 := Lib.hid hd3; clear hd3
          have Hxa3 := Lib.hid hxa3; clear hxa3
          have Hsub := Lib.hid hsub; clear hsub
          have Hit := Lib.hid hit; clear hit
          have Hbwi := Lib.hid hbwi; clear hbwi
          have Hbli := Lib.hid hbli; clear hbli
          have X0 := Lib.hid x0; clear x0
          have X1 := Lib.hid x1; clear x1
          have HgetM := Lib.hid hgetM; clear hgetM
          have Hsz3 := Lib.hid hsz3; clear hsz3
          clear y0
          go_upto_region 11 with fail
          refine wp_region_quiet_below (by kernel_rfl) (by kernel_rfl) ?_
          repeat (quiet_step (exact Hdec.out _ _))
          refine wpQuiet_nil ?_
          intro _ hw'
          obtain ⟨⟨dq, osq⟩, hw''⟩ := hw'
          subst hw''
          have hb5 := below_regrown wi dq osq
          generalize grow (redrawn wi dq) osq = w5 at hb5 ⊢
          have hz5 := hb5.size
          have hbw5 : Below w.heap.size w w5 := Hbwi.out.trans (hb5.mono (by omega))
          clear p0
          by_cases hlg : 200 < cl.path.size + 1 + it.size
          · have hno : shortL (sucL cl.path M) = false := by
              rw [hsh.out, Hdrop.out]; unfold shortL
              rw [List.all_cons, decide_eq_false (by show ¬ (subP cl.path q).size ≤ 200; rw [Hsub.out, Hsz3.out]; omega)]; rfl
            have hf := Hlong.out hno
            have Hf := Lib.hid hf; clear hf
            have Hno := Lib.hid hno; clear hno
            have Hbw5 := Lib.hid hbw5; clear hbw5
            have Hb5 := Lib.hid hb5; clear hb5
            clear hown4 hsh
            go_wp2
            go_ret2
            exact celsPost_none (Hres.out.trans Hf.out) Hbw5.out
          · have hn : shortL (sucL cl.path M) = shortL ((sucL cl.path M).drop (q + 1)) := by
              rw [hsh.out, Hdrop.out]; unfold shortL
              rw [List.all_cons, decide_eq_true (by show (subP cl.path q).size ≤ 200; rw [Hsub.out, Hsz3.out]; omega)]; simp
            have hown5 := hown4.out.later hb5
            have x0 := (cell_keep (hb5.block b3 hob3i)).trans X0.out
            have x1 := (cell_keep (hb5.block b3 hob3i)).trans X1.out
            have hxa5 : SlAt (pI .i64) (fun x => w1.heap.size ≤ x ∧ x < wv.heap.size) w5 D3 d3 m3.args := Hxa3.out.keep fun x hx => hb5.block x (by omega)
            have hR : pCel.R (fun x => w1.heap.size ≤ x ∧ x < wv.heap.size) w5 (Value.agg #[.string (cl.path ++ ⟨#[47]⟩ ++ it), .int .u8 m3.name, .slice D3 m3.args.length d3]).cells.toList ⟨subP cl.path q, m3⟩ := by
              refine ⟨D3, d3, ?_, ?_, hf3, hxa5⟩
              · show [_, _, _] = [_, _, _]
                rw [Hsub.out]
              · show (subP cl.path q).size ≤ maxLen
                rw [Hsub.out, Hsz3.out]; unfold maxLen; omega
            have hF : ∀ x, (w1.heap.size ≤ x ∧ x < wv.heap.size) → w1.heap.size ≤ x ∧ x < w5.heap.size ∧ some x ≠ (Value.slice Aq q cq).ownBlock := fun x hx => ⟨hx.1, by omega, fun he => by have := (hown4.out.lt x he.symm).1; omega⟩
            have hlx : ((sucL cl.path M).take q).length = q := by rw [List.length_take, HLl.out]; omega
            have hlk : ((sucL cl.path M).take q).length + 1 = q + 1 := by rw [hlx]
            have hrk : Room ((sucL cl.path M).take q).length := room_of (by rw [hlx]; omega)
            have hba : wv.heap.size ≤ w5.heap.size := by omega
            have hb45 : Below wv.heap.size wv w5 := hb4.out.trans (hb5.mono hsz4)
            have Hn := Lib.hid hn; clear hn
            have Hown5 := Lib.hid hown5; clear hown5
            have HR := Lib.hid hR; clear hR
            have HF := Lib.hid hF; clear hF
            have Hlk := Lib.hid hlk; clear hlk
            have Hrk := Lib.hid hrk; clear hrk
            have Hlx := Lib.hid hlx; clear hlx
            have Hxa5 := Lib.hid hxa5; clear hxa5
            have Hb45 := Lib.hid hb45; clear hb45
            have Hbw5 := Lib.hid hbw5; clear hbw5
            have Hb5 := Lib.hid hb5; clear hb5
            go_wp2_with ((with_reducible show wpList _ _ _ (Oper.mk (some 64) _ _ _ _ _ :: _) _ _); refine wpList_pushG (E := pCel) (xs := (sucL cl.path M).take q) (v := .slice Aq q cq) (base := wv.heap.size) (G := (w1.heap.size ≤ ·)) 26 51 (.agg #[.string ByteArray.empty, .int .u8 0, .slice none 0 0]) 48 64 (.tmp 57) (.tmp 63) rfl rfl rfl rfl rfl Tryd.underlying26 info_cel rfl (by decide) (fun _ => rfl) (fun _ => rfl) Hown5.out (.agg #[.string (cl.path ++ ⟨#[47]⟩ ++ it), .int .u8 m3.name, .slice D3 m3.args.length d3]) rfl ⟨subP cl.path q, m3⟩ (fun x => w1.heap.size ≤ x ∧ x < wv.heap.size) HR.out HF.out (q + 1) Hlk.out Hrk.out ⟨by decide, by decide⟩ hba ?_; intro A6 c6 w6 hown6 hg6)
            go_roundw
            case rel =>
              have hz6 := hg6.out.bel.size
              refine ⟨q + 1, A6, c6, hlq, by go_num, rfl, Hb45.out.trans hg6.out.bel, by omega, Hn, ?_⟩
              unfold Hid; rw [Htk.out]; exact hown6.out
            case measure => simp [intOf]; omega
end Go.Proofs.YtlipmagkplbkdaaDoor
