/-
  Layer 43: the walk of the reference's Prove.
-/
import Derived.Test.YtfeafembifdklaaYd
import Derived.Test.YtfeafembifdklaaZk
import Derived.Test.YtfeafembifdklaaZy
namespace Go.Proofs.Ytfeafembifdklaa
open Go.RowKit Go.Sort
set_option linter.unusedVariables false

section
variable {P : Program} {l : List Oper} {c : List (Option Nat)} {D : List (List Nat)} {tm : Array Value} {df : List Deferred} {w0 : World} {Q : Exit → Act → World → Prop}
variable {Φ : Nat → (Nat → Prop) → (Nat → Value) → World → Prop} {i : Nat} {o : Oper} {a : Act} {w : World} {X : Nat → Nat → Prop}
/-- a step that hands two used ones' blocks on -/
theorem led_pass2 (h : AtL Φ l c D tm df w0 i a w X) (j k : Nat) (hj : c.getD j none = some i) (hk : c.getD k none = some i) (v : Value) (hr : (execOp a.eval o).run P w = .ok (.value v) w) (hd : o.dst = none → v = undef) (hf : ∀ s : Nat → Value, s i = v → (∀ k, k ∈ D.getD i [] → s k = slotL l a.tmps k) → Φ i (fun b => X j b ∨ X k b) s w) :
    Oper.wp P o a w (fun a' w' => ∃ v Y, LeftL Φ l w0 c D i o a w X a' w' v Y) Q := by
  unfold Oper.wp
  rw [hr, Oper.upon_value]
  exact ⟨v, _, rfl, hf, hd, h.bel, Nat.le_refl _, fun b hb => hb.elim (fun hb => .inl ⟨j, hj, hb⟩) (fun hb => .inl ⟨k, hk, hb⟩), fun _ _ _ => rfl⟩
/-- a call that takes a used one's blocks over -/
theorem led_callJ (h : AtL Φ l c D tm df w0 i a w X) (j : Nat) (hj : c.getD j none = some i) (f : FuncId) (args : Array Value) (R : Value → World → Prop) (hr : (execOp a.eval o).run P w = .ok (.enter f args) w) (hd : o.dst ≠ none) (hc : Calls P f args w fun e w' => ∃ v, e = .returned v ∧ R v w' ∧ RowKit.Below w.heap.size w w')
    (hf : ∀ (v : Value) (w' : World), R v w' → RowKit.Below w.heap.size w w' → ∀ s : Nat → Value, s i = v → (∀ k, k ∈ D.getD i [] → s k = slotL l a.tmps k) → Φ i (fun b => X j b ∨ (w.heap.size ≤ b ∧ b < w'.heap.size)) s w') :
    Oper.wp P o a w (fun a' w' => ∃ v Y, LeftL Φ l w0 c D i o a w X a' w' v Y) Q := by
  unfold Oper.wp
  rw [hr, Oper.upon_enter]
  refine hc.mono ?_
  rintro e w' ⟨v, rfl, hR, hb⟩
  exact ⟨v, _, rfl, hf v w' hR hb, fun e => (hd e).elim, h.bel.trans (hb.mono h.bel.size), hb.size, fun b hb => hb.elim (fun hb => .inl ⟨j, hj, hb⟩) .inr, fun b hb2 _ => hb.block b hb2⟩
end
/-- region 4: the fit's box copied, the search -/
def K4 (W : World) (g1 : Nat) (f : Fit) (least : Int) (out : List Cub) (A1 : Option Addr) (c1 : Nat) (A2 : Option Addr) (c2 : Nat) (A3 : Option Addr) (c3 : Nat) (A4 : Option Addr) (c4 : Nat) : Nat → (Nat → Prop) → (Nat → Value) → World → Prop
  | 0, X, s, w => s 0 = .agg #[.slice A1 f.lo.length c1, .slice A2 f.hi.length c2, .slice A3 f.terms.length c3, .slice A4 f.goals.length c4]
  | 1, X, s, w => Own (pI .i64) 3 W.heap.size (Old W) w (s 1) [] ∧ ∀ k, (s 1).ownBlock = some k → X k
  | 2, X, s, w => s 2 = .pointer (some ⟨g1, 0, none⟩)
  | 3, X, s, w => s 3 = .slice A1 f.lo.length c1
  | 4, X, s, w => ∃ A' c', s 4 = .slice A' f.lo.length c' ∧ Own (pI .i64) 3 W.heap.size (Old W) w (s 4) ([] ++ f.lo) ∧ ∀ k, (s 4).ownBlock = some k → X k
  | 5, X, s, w => Own (pI .i64) 3 W.heap.size (Old W) w (s 5) [] ∧ ∀ k, (s 5).ownBlock = some k → X k
  | 6, X, s, w => s 6 = .pointer (some ⟨g1, 1, none⟩)
  | 7, X, s, w => s 7 = .slice A2 f.hi.length c2
  | 8, X, s, w => ∃ A' c', s 8 = .slice A' f.hi.length c' ∧ Own (pI .i64) 3 W.heap.size (Old W) w (s 8) ([] ++ f.hi) ∧ ∀ k, (s 8).ownBlock = some k → X k
  | 9, X, s, w => ∃ A' c' B' q', s 9 = .agg #[.slice A' f.lo.length c', .slice B' f.hi.length q'] ∧ SlAt (pI .i64) X w A' c' f.lo ∧ SlAt (pI .i64) X w B' q' f.hi
  | 10, X, s, w => s 10 = .int .i64 least
  | 11, X, s, w => ∃ A' c', s 11 = .slice A' out.length c' ∧ SlAt pCub X w A' c' out
  | 12, X, s, w => ∃ A' c', s 12 = .slice A' out.length c' ∧ SlAt pCub X w A' c' out
  | _, _, _, _ => True
def k4c : List (Option Nat) := [none, some 4, none, none, some 9, some 8, none, none, some 9, some 11, none, some 12, none]
def k4D : List (List Nat) := [[], [], [], [2], [1, 3], [], [], [6], [5, 7], [4, 8], [], [0, 9, 10], [11]]
theorem K4_stab (W : World) (g1 : Nat) (f : Fit) (least : Int) (out : List Cub) (A1 : Option Addr) (c1 : Nat) (A2 : Option Addr) (c2 : Nat) (A3 : Option Addr) (c3 : Nat) (A4 : Option Addr) (c4 : Nat) (i : Nat) (X : Nat → Prop) (s s' : Nat → Value) (w w' : World) (h : K4 W g1 f least out A1 c1 A2 c2 A3 c3 A4 c4 i X s w) (hi' : s' i = s i) (hd : ∀ k, k ∈ k4D.getD i [] → s' k = s k) (hb : RowKit.Below W.heap.size W w) (hb' : RowKit.Below W.heap.size W w') (hs : w.heap.size ≤ w'.heap.size) (hX : ∀ k, X k → k < w.heap.size) (hk : ∀ k, X k → w'.heap[k]? = w.heap[k]?) : K4 W g1 f least out A1 c1 A2 c2 A3 c3 A4 c4 i X s' w' := by
  have hG : ∀ k, Old W k → w'.heap[k]? = w.heap[k]? := fun k hk => (hb'.block k hk).trans (hb.block k hk).symm
  match i, h, hi', hd with
  | 0, h, hi, _ => exact hi.trans h
  | 1, ⟨h1, h2⟩, hi, _ => exact ⟨by rw [hi]; exact own_keepL h1 h2 hs hG hk, by rw [hi]; exact h2⟩
  | 2, h, hi, _ => exact hi.trans h
  | 3, h, hi, _ => exact hi.trans h
  | 4, ⟨A', c', h1, h2, h3⟩, hi, _ => exact ⟨A', c', hi.trans h1, by rw [hi]; exact own_keepL h2 h3 hs hG hk, by rw [hi]; exact h3⟩
  | 5, ⟨h1, h2⟩, hi, _ => exact ⟨by rw [hi]; exact own_keepL h1 h2 hs hG hk, by rw [hi]; exact h2⟩
  | 6, h, hi, _ => exact hi.trans h
  | 7, h, hi, _ => exact hi.trans h
  | 8, ⟨A', c', h1, h2, h3⟩, hi, _ => exact ⟨A', c', hi.trans h1, by rw [hi]; exact own_keepL h2 h3 hs hG hk, by rw [hi]; exact h3⟩
  | 9, ⟨A', c', B', q', h1, h2, h3⟩, hi, hd => exact ⟨A', c', B', q', hi.trans h1, h2.keep hk, h3.keep hk⟩
  | 10, h, hi, _ => exact hi.trans h
  | 11, ⟨A', c', h1, h2⟩, hi, _ => exact ⟨A', c', hi.trans h1, h2.keep hk⟩
  | 12, ⟨A', c', h1, h2⟩, hi, _ => exact ⟨A', c', hi.trans h1, h2.keep hk⟩
  | n + 13, _, _, _ => exact trivial
theorem run_load4 {P : Program} {o : Oper} {w : World} (ev : Operand → Value) (ty : TypeId) (x : Operand) (ho : o.op = .load ty x) (g : Nat) (t : TypeId) (hx : ev x = .pointer (some ⟨g, 0, none⟩)) (cs : Array Value) (d : TypeDesc) (hc : Blk w g t cs)
    (hu : P.underlying ty = some d) (hd : d.isRow = true) (hi : (P.info? ty).map (·.size) = some cs.toList.length) : (execOp ev o).run P w = .ok (.value (.agg cs)) w := by
  have := run_loadL (o := o) ev ty x ho g 0 hx cs.toList d (range_blk hc 0 _ fun j v hj => by rw [Nat.zero_add]; simpa using hj) hu hd hi
  simpa using this
set_option maxRecDepth 100000 in
set_option maxHeartbeats 8000000 in
theorem refProve_calls (f : Fit) (A1 : Option Addr) (c1 : Nat) (A2 : Option Addr) (c2 : Nat) (A3 : Option Addr) (c3 : Nat) (A4 : Option Addr) (c4 : Nat) (w : World) (h : FitAt f (Old w) w A1 c1 A2 c2 A3 c3 A4 c4) : Calls Try.prog 7 #[.agg #[.slice A1 f.lo.length c1, .slice A2 f.hi.length c2, .slice A3 f.terms.length c3, .slice A4 f.goals.length c4]] w (ProvePost f w) := by
  have m1 := h.l.lenle
  have m2 := h.h.lenle
  obtain ⟨W0, hW0⟩ : ∃ W0, W0 = w.alloc (.cells #[.slice A1 f.lo.length c1, .slice A2 f.hi.length c2, .slice A3 f.terms.length c3, .slice A4 f.goals.length c4] 25) := ⟨_, rfl⟩
  have hb0 : Below w.heap.size w W0 := by rw [hW0]; exact (Below.refl _ _).alloc (Nat.le_refl _) _
  have hz0 : w.heap.size + 1 ≤ W0.heap.size := by rw [hW0]; simp
  have hl0 : w.heap.size < W0.heap.size := by omega
  have hbl0 : Blk W0 w.heap.size 25 #[.slice A1 f.lo.length c1, .slice A2 f.hi.length c2, .slice A3 f.terms.length c3, .slice A4 f.goals.length c4] := by rw [hW0]; exact Blk.new _ _ _
  have h0 := h.later hb0
  have H0 := Lib.hid h0; clear h0
  have Hb0 := Lib.hid hb0; clear hb0
  have Hbl0 := Lib.hid hbl0; clear hbl0
  have HW0 := Lib.hid hW0; clear hW0
  clear h
  have cb := refBest_calls f A1 c1 A2 c2 A3 c3 A4 c4 W0 H0.out
  have Cb := Lib.hid cb; clear cb
  by_cases hck : checkFit f = 0
  · have hv := checkFit_valid hck
    obtain ⟨p1, p2, p3, p4, p5, p6, p7⟩ := valid_parts hv
    have hok : CubOk f f.lo f.hi := ⟨hv, rfl, p3, p6⟩
    have hmin : ∀ y, InBox f.lo f.hi y → (bestF f).2 ≤ costF f y := fun y hy => ((best_min hv).2.2 y hy).1
    have hlol : f.lo.length ≤ 4 := p2
    have hhil : f.hi.length = f.lo.length := p3
    have k0 := Hbl0.out.four
    obtain ⟨y0, y1, y2, y3⟩ := k0
    have Hck := Lib.hid hck; clear hck
    have Hv := Lib.hid hv; clear hv
    have Hok := Lib.hid hok; clear hok
    have Hmin := Lib.hid hmin; clear hmin
    have Hhil := Lib.hid hhil; clear hhil
    clear p1 p2 p3 p4 p5 p6 p7
    go_enter Try.func7, Try.ntmps7
    go_wp2_with fail
    rw [← HW0.out]
    refine Cb.out.mono ?_
    rintro e w1 ⟨hb1, hc⟩
    rcases hc with ⟨hc, _⟩ | ⟨_, A7, c7, rfl, _⟩
    · exact absurd Hck.out hc
    obtain ⟨least, hle⟩ : ∃ least, (bestF f).2 = least := ⟨_, rfl⟩
    rw [hle]
    have z1 := hb1.size
    have n1 := Hbl0.out.same (hb1.block _ hl0)
    have h1 := H0.out.later hb1
    have hbw := Hb0.out.trans (hb1.mono (by omega))
    clear y0 y1 y2 y3
    obtain ⟨out1, ho1⟩ : ∃ out1, lookF f least (span f.lo f.hi + 1) f.lo f.hi [] = out1 := ⟨_, rfl⟩
    have hpl : proveL f = out1 := by unfold proveL; rw [hle]; exact ho1
    have Hb1 := Lib.hid hb1; clear hb1
    have Hle := Lib.hid hle; clear hle
    have N1 := Lib.hid n1; clear n1
    have H1 := Lib.hid h1; clear h1
    have Hbw := Lib.hid hbw; clear hbw
    have Ho1 := Lib.hid ho1; clear ho1
    have Hpl := Lib.hid hpl; clear hpl
    go_upto_region 4 with fail
    refine wp_region_led (K4 w1 w.heap.size f least out1 A1 c1 A2 c2 A3 c3 A4 c4) k4c k4D (by kernel_rfl) (by kernel_rfl) (K4_stab w1 w.heap.size f least out1 A1 c1 A2 c2 A3 c3 A4 c4) ?step ?fin
    case step =>
      intro i o ho a w' X hA
      match i, ho with
      | 0, ho =>
        obtain rfl := Option.some.inj ho
        exact led_quiet hA (.agg #[.slice A1 f.lo.length c1, .slice A2 f.hi.length c2, .slice A3 f.terms.length c3, .slice A4 f.goals.length c4]) (run_load4 _ 25 (.tmp 1) rfl w.heap.size 25 (hA.old (d := 1) (by kernel_rfl) rfl) _ _ (N1.out.same (hA.bel.block _ N1.out.lt)) Try.underlying25 rfl (by kernel_rfl)) (fun e => by cases e) fun s hs _ => hs
      | 1, ho =>
        obtain rfl := Option.some.inj ho
        exact led_new hA _ _ (run_bsI rfl _ w') (fun e => by cases e) fun s hs _ => ⟨by rw [hs]; exact Own.empty hA.bel.size, fun k hk => by rw [hs] at hk; injection hk with hk; exact hk.symm⟩
      | 2, ho =>
        obtain rfl := Option.some.inj ho
        exact led_quiet hA (.pointer (some ⟨w.heap.size, 0, none⟩)) (run_fieldG _ (.tmp 1) 0 w.heap.size 0 rfl (hA.old (d := 1) (by kernel_rfl) rfl) (by kernel_rfl)) (fun e => by cases e) fun s hs _ => hs
      | 3, ho =>
        obtain rfl := Option.some.inj ho
        exact led_quiet hA (.slice A1 f.lo.length c1) (run_cellG _ 22 _ (.tmp 19) rfl _ 0 ((hA.val rfl).trans (hA.get 2 (by decide) (.inl rfl))) Try.underlying22 (((N1.out.same (hA.bel.block _ N1.out.lt)).cell 0))) (fun e => by cases e) fun s hs _ => hs
      | 4, ho =>
        obtain rfl := Option.some.inj ho
        obtain ⟨o1, x1⟩ := hA.get 1 (by decide) (.inr rfl)
        exact led_cat hA 1 rfl 22 3 (.int .i64 0) 8 (.tmp 18) (.tmp 20) rfl Try.underlying22 info_intL rfl (by decide) (hA.val rfl) o1 x1 A1 c1 f.lo ((hA.val rfl).trans (hA.get 3 (by decide) (.inl rfl))) (Old w1) (H1.out.l.below hA.bel) (own_neqI o1 hA.bel.size) f.lo.length rfl (room_of (by omega)) (by decide) (fun e => by cases e) (fun _ => False) (fun b hb => hb.elim)
          fun A' c' w'' h1 h2 s hs hk => ⟨A', c', hs, by rw [hs]; exact h1, fun k hk => .inl (by rw [hs] at hk; exact hk)⟩
      | 5, ho =>
        obtain rfl := Option.some.inj ho
        exact led_new hA _ _ (run_bsI rfl _ w') (fun e => by cases e) fun s hs _ => ⟨by rw [hs]; exact Own.empty hA.bel.size, fun k hk => by rw [hs] at hk; injection hk with hk; exact hk.symm⟩
      | 6, ho =>
        obtain rfl := Option.some.inj ho
        exact led_quiet hA (.pointer (some ⟨w.heap.size, 1, none⟩)) (run_fieldG _ (.tmp 1) 1 w.heap.size 1 rfl (hA.old (d := 1) (by kernel_rfl) rfl) (by kernel_rfl)) (fun e => by cases e) fun s hs _ => hs
      | 7, ho =>
        obtain rfl := Option.some.inj ho
        exact led_quiet hA (.slice A2 f.hi.length c2) (run_cellG _ 22 _ (.tmp 23) rfl _ 1 ((hA.val rfl).trans (hA.get 6 (by decide) (.inl rfl))) Try.underlying22 (((N1.out.same (hA.bel.block _ N1.out.lt)).cell 1))) (fun e => by cases e) fun s hs _ => hs
      | 8, ho =>
        obtain rfl := Option.some.inj ho
        obtain ⟨o1, x1⟩ := hA.get 5 (by decide) (.inr rfl)
        exact led_cat hA 5 rfl 22 3 (.int .i64 0) 8 (.tmp 22) (.tmp 24) rfl Try.underlying22 info_intL rfl (by decide) (hA.val rfl) o1 x1 A2 c2 f.hi ((hA.val rfl).trans (hA.get 7 (by decide) (.inl rfl))) (Old w1) (H1.out.h.below hA.bel) (own_neqI o1 hA.bel.size) f.hi.length rfl (room_of (by have := Hhil.out; omega)) (by decide) (fun e => by cases e) (fun _ => False) (fun b hb => hb.elim)
          fun A' c' w'' h1 h2 s hs hk => ⟨A', c', hs, by rw [hs]; exact h1, fun k hk => .inl (by rw [hs] at hk; exact hk)⟩
      | 9, ho =>
        obtain rfl := Option.some.inj ho
        obtain ⟨A5, c5, e5, o5, x5⟩ := hA.get 4 (by decide) (.inr rfl)
        obtain ⟨A6, c6, e6, o6, x6⟩ := hA.get 8 (by decide) (.inr rfl)
        rw [e5] at o5 x5
        rw [e6] at o6 x6
        have hlne : f.lo ≠ [] := by intro e; have := (valid_parts Hv.out).1; rw [e] at this; simp at this
        have hhne : f.hi ≠ [] := by intro e; have h9 := Hhil.out; rw [e] at h9; have := (valid_parts Hv.out).1; simp at h9; omega
        rw [List.nil_append] at o5 o6
        obtain ⟨g1, rfl, p1, _, p2, p3, R1, f1⟩ := o5.row hlne
        obtain ⟨g2, rfl, q1, _, q2, q3, R2, f2⟩ := o6.row hhne
        exact led_pass2 hA 4 8 rfl rfl (.agg #[.slice (some ⟨g1, 0, none⟩) f.lo.length c5, .slice (some ⟨g2, 0, none⟩) f.hi.length c6]) (run_buildC _ (.tmp 21) (.tmp 25) rfl ((hA.val rfl).trans e5) ((hA.val rfl).trans e6)) (fun e => by cases e) fun s hs hk => ⟨_, c5, _, c6, hs, R1.sl p2 p3 f1 (.inl (x5 g1 rfl)), R2.sl q2 q3 f2 (.inr (x6 g2 rfl))⟩
      | 10, ho =>
        obtain rfl := Option.some.inj ho
        exact led_quiet hA (.int .i64 least) (run_moveL _ (.tmp 5) _ (.inl rfl) (hA.old (d := 5) (by kernel_rfl) rfl)) (fun e => by cases e) fun s hs _ => hs
      | 11, ho =>
        obtain rfl := Option.some.inj ho
        have e0 := hA.get 0 (by decide) (.inl rfl)
        obtain ⟨A5, c5, A6, c6, e9, s5, s6⟩ := hA.get 9 (by decide) (.inr rfl)
        have e10 := hA.get 10 (by decide) (.inl rfl)
        have hX : ∀ k, X 9 k → k < w'.heap.size := fun k hk => (hA.own 9 k (by decide) (.inr rfl) hk).2
        have key := proof_calls f least w'.heap.size (fun k => X 9 k ∨ w'.heap.size ≤ k) (fun k hk => .inr hk) A1 c1 A2 c2 A3 c3 A4 c4 (span f.lo f.hi + 1) f.lo f.hi A5 c5 A6 c6 w' none 0 0 [] (Nat.le_refl _)
          ((H1.out.below hA.bel).keep fun k hk => ⟨rfl, ⟨Nat.lt_of_lt_of_le hk hA.bel.size, fun e => by cases e⟩, trivial⟩) (s5.wide fun k hk => ⟨⟨hX k hk, fun e => by cases e⟩, .inl hk⟩) (s6.wide fun k hk => ⟨⟨hX k hk, fun e => by cases e⟩, .inl hk⟩) Hok.out (by rw [← Hle.out]; exact Hmin.out) (Nat.lt_succ_self _) (by simp) Own.nil
        rw [Ho1.out] at key
        refine led_callJ hA 9 rfl 20 _ (fun v w'' => ∃ A c, v = .slice A out1.length c ∧ SlAt pCub (fun k => X 9 k ∨ (w'.heap.size ≤ k ∧ k < w''.heap.size)) w'' A c out1) (Eq.trans (b := .ok (.enter 20 #[a.eval (.tmp 17), a.eval (.tmp 26), a.eval (.tmp 27), .slice none 0 0]) w') (by kernel_rfl) (by rw [(hA.val rfl).trans e0, (hA.val rfl).trans e9, (hA.val rfl).trans e10])) (fun e => by cases e) (key.mono fun e w'' hh => ?_) fun v w'' hR hb s hs _ => ?_
        · obtain ⟨A, n, c, rfl, hon, hg⟩ := hh
          obtain ⟨hn, hsl⟩ := hon.sl'
          subst hn
          exact ⟨_, rfl, ⟨A, c, rfl, hsl.wide fun k hk => by
            rcases hk.1 with (h1 | h1) | h1
            · exact .inl h1
            · exact .inr ⟨h1, hk.2⟩
            · exact .inr ⟨h1, hk.2⟩⟩, hg.bel⟩
        · obtain ⟨A, c, rfl, hsl⟩ := hR
          exact ⟨A, c, hs, hsl⟩
      | 12, ho =>
        obtain rfl := Option.some.inj ho
        obtain ⟨A5, c5, e1, s1⟩ := hA.get 11 (by decide) (.inr rfl)
        exact led_pass hA 11 rfl _ (run_moveL _ (.tmp 28) _ (.inr rfl) ((hA.val rfl).trans e1)) (fun e => by cases e) fun s hs _ => ⟨A5, c5, hs, s1⟩
      | n + 13, ho =>
        have : (none : Option Oper) = some o := ho
        cases this
    case fin =>
      intro v X w6 hb6 hv
      obtain ⟨⟨A5, c5, v12, s5⟩, y5⟩ := hv 12 (by simp) rfl
      have s6 : SlAt pCub (fun k => w.heap.size ≤ k ∧ k < w6.heap.size) w6 A5 c5 out1 := s5.wide fun k hk => ⟨by have := (y5 k hk).1; omega, (y5 k hk).2⟩
      have tot := Hbw.out.trans (hb6.mono (by omega))
      have m9 := s6.lenle
      have hpf : proveF f = if 2000 < out1.length then ([], 4) else (out1, 0) := by unfold proveF; rw [if_pos Hck.out, Hpl.out]
      simp only [putsV]
      rw [v12]
      clear hv v12 s5 y5 hb6
      have S6 := Lib.hid s6; clear s6
      have Tot := Lib.hid tot; clear tot
      by_cases hm : 2000 < out1.length
      · rw [if_pos hm] at hpf
        have Hpf := Lib.hid hpf; clear hpf
        go_wp2
        go_ret2
        exact ⟨Tot.out, none, 0, by rw [Hpf.out]; rfl, by rw [Hpf.out]; exact cubs_nil⟩
      · rw [if_neg hm] at hpf
        have Hpf := Lib.hid hpf; clear hpf
        go_wp2
        go_ret2
        exact ⟨Tot.out, A5, c5, by rw [Hpf.out]; rfl, by rw [Hpf.out]; exact S6.out⟩
  · have e0 : (checkFit f != 0) = true := by simp [hck]
    have hpf : proveF f = ([], checkFit f) := by unfold proveF; rw [if_neg hck]
    have k0 := Hbl0.out.four
    obtain ⟨y0, y1, y2, y3⟩ := k0
    have Hck := Lib.hid hck; clear hck
    have Hpf := Lib.hid hpf; clear hpf
    go_enter Try.func7, Try.ntmps7
    go_wp2_with fail
    rw [← HW0.out]
    refine Cb.out.mono ?_
    rintro e w1 ⟨hb1, hc⟩
    rcases hc with ⟨_, rfl⟩ | ⟨hc, _⟩
    · have z1 := hb1.size
      clear y0 y1 y2 y3
      have Hb1 := Lib.hid hb1; clear hb1
      go_wp2
      go_ret2
      exact ⟨Hb0.out.trans (Hb1.out.mono (by omega)), none, 0, by rw [Hpf.out]; rfl, by rw [Hpf.out]; exact cubs_nil⟩
    · exact absurd hc Hck.out
end Go.Proofs.Ytfeafembifdklaa
