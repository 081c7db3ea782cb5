/-
  Layer 43: the walk of the reference's cut: the copy of a box, one side set.
-/
import Derived.Test.YtfeafembifdklaaYb
import Derived.Test.YtfeafembifdklaaZv
import Derived.Test.YtfeafembifdklaaLr
import Derived.Deep.DeepCutAuto
namespace Go.Proofs.Ytfeafembifdklaa
open Go.RowKit Go.Sort
set_option linter.unusedVariables false

def New (w w' : World) (k : Nat) : Prop := w.heap.size ≤ k ∧ k < w'.heap.size
/-- the copy of a box, one side set -/
def CutPost (lo hi : List Int) (w : World) (e : Ending) (w' : World) : Prop :=
  ∃ A1 c1 A2 c2, e = .returned (.agg #[.slice A1 lo.length c1, .slice A2 hi.length c2]) ∧ Below w.heap.size w w' ∧ SlAt (pI .i64) (New w w') w' A1 c1 lo ∧ SlAt (pI .i64) (New w w') w' A2 c2 hi
def cutLo (b : Bool) (lo : List Int) (k : Nat) (m : Int) : List Int := if b then lo.set k (m + 1) else lo
def cutHi (b : Bool) (hi : List Int) (k : Nat) (m : Int) : List Int := if b then hi else hi.set k m
theorem run_bsI {o : Oper} (ho : o.op = .buildSlice 22 0 #[]) (ev : Operand → Value) (w : World) : (execOp ev o).run Try.prog w = .ok (.value (.slice (some ⟨w.heap.size, 0, none⟩) 0 0)) (w.alloc (.cells #[] 3)) := by
  have hr : (Instr.buildSlice 22 0 #[]).run Try.prog w = .ok (.slice (some ⟨w.heap.size, 0, none⟩) 0 0) (w.alloc (.cells #[] 3)) := by kernel_rfl
  unfold execOp
  simp only [ho, Sem.run_bind, List.map_toArray, List.map_nil, hr, Result.andThen_ok, Sem.run_pure]
theorem run_allocC {o : Oper} (ho : o.op = .alloc 40) (ev : Operand → Value) (w : World) : (execOp ev o).run Try.prog w = .ok (.value (.pointer (some ⟨w.heap.size, 0, none⟩))) (w.alloc (.cells #[.slice none 0 0, .slice none 0 0] 40)) := by
  obtain ⟨dst, op, tt, ps, af, gd⟩ := o
  simp only at ho
  subst ho
  show (execOp ev _).run Try.prog w = _
  kernel_rfl
theorem run_fieldG {t : TypeId} {o : Oper} {w : World} (ev : Operand → Value) (x : Operand) (f g k : Nat) (ho : o.op = .fieldAddr t x f) (hx : ev x = .pointer (some ⟨g, 0, none⟩)) (hk : (Instr.fieldAt t (.pointer (some ⟨g, 0, none⟩)) f).run Try.prog w = .ok (.pointer (some ⟨g, k, none⟩)) w) : (execOp ev o).run Try.prog w = .ok (.value (.pointer (some ⟨g, k, none⟩))) w := by
  unfold execOp
  simp only [ho, hx, Sem.run_bind, hk, Result.andThen_ok, Sem.run_pure]
theorem run_cellG {P : Program} {o : Oper} {w : World} (ev : Operand → Value) (ty e : TypeId) (x : Operand) (ho : o.op = .load ty x) (g k : Nat) (hx : ev x = .pointer (some ⟨g, k, none⟩)) (hu : P.underlying ty = some (.slice e)) {v : Value} (hc : w.cell? ⟨g, k, none⟩ = some v) : (execOp ev o).run P w = .ok (.value v) w := by
  unfold execOp
  simp only [ho, hx]
  simp [Instr.loadAt, Instr.sureAddr, loadVar, isAgg, Sem.run_bind, run_underlying hu, hc, go_sem]
theorem run_buildC {o : Oper} {w : World} (ev : Operand → Value) (x y : Operand) (ho : o.op = .build 40 #[(0, x), (1, y)]) {A B : Option Addr} {n c m q : Nat} (hx : ev x = .slice A n c) (hy : ev y = .slice B m q) :
    (execOp ev o).run Try.prog w = .ok (.value (.agg #[.slice A n c, .slice B m q])) w := by
  unfold execOp
  simp only [ho, List.map_toArray, List.map_cons, List.map_nil, hx, hy]
  kernel_rfl
theorem info_intL : (Try.prog.info? 3).map (fun i => (i.zero, i.size, i.bytes)) = some (some (.int .i64 0), 1, 8) := by kernel_rfl
theorem own_neqI {α : Type} {E : Rp α} {e : TypeId} {W w : World} {G : Nat → Prop} {v : Value} {xs : List α} (h : Own E e W.heap.size G w v xs) (hs : W.heap.size ≤ w.heap.size) : ∀ k, Old W k → Old W k ∧ k < w.heap.size ∧ some k ≠ v.ownBlock := fun k hk => by
  have h1 : k < W.heap.size := hk
  exact ⟨hk, by omega, fun e => by have := (h.lt k e.symm).1; omega⟩
/-- region 1: both rows copied, the box made -/
def K1 (W : World) (g4 : Nat) (lo hi : List Int) (B1 : Option Addr) (d1 : Nat) (B2 : Option Addr) (d2 : Nat) : Nat → (Nat → Prop) → (Nat → Value) → World → Prop
  | 0, X, s, w => Own (pI .i64) 3 W.heap.size (Old W) w (s 0) [] ∧ ∀ k, (s 0).ownBlock = some k → X k
  | 1, X, s, w => s 1 = .pointer (some ⟨g4, 0, none⟩)
  | 2, X, s, w => s 2 = .slice B1 lo.length d1
  | 3, X, s, w => ∃ A' c', s 3 = .slice A' lo.length c' ∧ Own (pI .i64) 3 W.heap.size (Old W) w (s 3) ([] ++ lo) ∧ ∀ k, (s 3).ownBlock = some k → X k
  | 4, X, s, w => Own (pI .i64) 3 W.heap.size (Old W) w (s 4) [] ∧ ∀ k, (s 4).ownBlock = some k → X k
  | 5, X, s, w => s 5 = .pointer (some ⟨g4, 1, none⟩)
  | 6, X, s, w => s 6 = .slice B2 hi.length d2
  | 7, X, s, w => ∃ A' c', s 7 = .slice A' hi.length c' ∧ Own (pI .i64) 3 W.heap.size (Old W) w (s 7) ([] ++ hi) ∧ ∀ k, (s 7).ownBlock = some k → X k
  | 8, X, s, w => ∃ A' c' B' q', s 3 = .slice A' lo.length c' ∧ s 7 = .slice B' hi.length q' ∧ s 8 = .agg #[.slice A' lo.length c', .slice B' hi.length q']
  | 9, X, s, w => ∃ k, s 9 = .pointer (some ⟨k, 0, none⟩) ∧ Blk w k 40 #[.slice none 0 0, .slice none 0 0] ∧ X k
  | 10, X, s, w => ∃ k A' c' B' q', s 9 = .pointer (some ⟨k, 0, none⟩) ∧ s 8 = .agg #[.slice A' lo.length c', .slice B' hi.length q'] ∧ Blk w k 40 #[.slice A' lo.length c', .slice B' hi.length q'] ∧ X k
  | _, _, _, _ => True
def k1c : List (Option Nat) := [some 3, none, none, none, some 7, none, none, none, none, some 10, none]
def k1D : List (List Nat) := [[], [], [1], [0, 2], [], [], [5], [4, 6], [3, 7], [], [9, 8]]
theorem K1_stab (W : World) (g4 : Nat) (lo hi : List Int) (B1 : Option Addr) (d1 : Nat) (B2 : Option Addr) (d2 : Nat) (i : Nat) (X : Nat → Prop) (s s' : Nat → Value) (w w' : World) (h : K1 W g4 lo hi B1 d1 B2 d2 i X s w) (hi' : s' i = s i) (hd : ∀ k, k ∈ k1D.getD i [] → s' k = s k) (hb : RowKit.Below W.heap.size W w) (hb' : RowKit.Below W.heap.size W w') (hs : w.heap.size ≤ w'.heap.size) (hX : ∀ k, X k → k < w.heap.size) (hk : ∀ k, X k → w'.heap[k]? = w.heap[k]?) : K1 W g4 lo hi B1 d1 B2 d2 i X s' w' := by
  have hG : ∀ k, Old W k → w'.heap[k]? = w.heap[k]? := fun k hk => (hb'.block k hk).trans (hb.block k hk).symm
  match i, h, hi', hd with
  | 0, ⟨h1, h2⟩, hi, _ => exact ⟨by rw [hi]; exact own_keepL h1 h2 hs hG hk, by rw [hi]; exact h2⟩
  | 1, h, hi, _ => exact hi.trans h
  | 2, h, hi, _ => exact hi.trans h
  | 3, ⟨A', c', h1, h2, h3⟩, hi, _ => exact ⟨A', c', hi.trans h1, by rw [hi]; exact own_keepL h2 h3 hs hG hk, by rw [hi]; exact h3⟩
  | 4, ⟨h1, h2⟩, hi, _ => exact ⟨by rw [hi]; exact own_keepL h1 h2 hs hG hk, by rw [hi]; exact h2⟩
  | 5, h, hi, _ => exact hi.trans h
  | 6, h, hi, _ => exact hi.trans h
  | 7, ⟨A', c', h1, h2, h3⟩, hi, _ => exact ⟨A', c', hi.trans h1, by rw [hi]; exact own_keepL h2 h3 hs hG hk, by rw [hi]; exact h3⟩
  | 8, ⟨A', c', B', q', h1, h2, h3⟩, hi, hd => exact ⟨A', c', B', q', (hd 3 (by decide)).trans h1, (hd 7 (by decide)).trans h2, hi.trans h3⟩
  | 9, ⟨k, h1, h2, h3⟩, hi, _ => exact ⟨k, hi.trans h1, h2.same (hk k h3), h3⟩
  | 10, ⟨k, A', c', B', q', h1, h2, h3, h4⟩, hi, hd => exact ⟨k, A', c', B', q', (hd 9 (by decide)).trans h1, (hd 8 (by decide)).trans h2, h3.same (hk k h4), h4⟩
  | n + 11, _, _, _ => exact trivial
set_option maxRecDepth 100000 in
set_option maxHeartbeats 4000000 in
theorem cut_calls (lo hi : List Int) (B1 : Option Addr) (d1 : Nat) (B2 : Option Addr) (d2 : Nat) (k : Nat) (m : Int) (b : Bool) (w : World) (hl : SlAt (pI .i64) (Old w) w B1 d1 lo) (hh : SlAt (pI .i64) (Old w) w B2 d2 hi) (hlen : hi.length = lo.length) (hk : k < lo.length) (h4 : lo.length ≤ 4) (hm : -9223372036854775808 ≤ m ∧ m < 9223372036854775807) :
    Calls Try.prog 33 #[.agg #[.slice B1 lo.length d1, .slice B2 hi.length d2], .int .i64 k, .int .i64 m, .bool b] w (CutPost (cutLo b lo k m) (cutHi b hi k m) w) := by
  have m1 := hl.lenle
  have m2 := hh.lenle
  have hkh : k < hi.length := by omega
  obtain ⟨W0, hW0⟩ : ∃ W0, W0 = w.alloc (.cells #[.slice B1 lo.length d1, .slice B2 hi.length d2] 40) := ⟨_, rfl⟩
  have hb0 : Below w.heap.size w W0 := by rw [hW0]; exact (Below.refl _ _).alloc (Nat.le_refl _) _
  have hz0 : w.heap.size + 1 ≤ W0.heap.size := by rw [hW0]; simp
  have hl0 : w.heap.size < W0.heap.size := by omega
  have hbl0 : Blk W0 w.heap.size 40 #[.slice B1 lo.length d1, .slice B2 hi.length d2] := by rw [hW0]; exact Blk.new _ _ _
  have h0 := hl.later hb0
  have h1 := hh.later hb0
  have e0 : W0.heap.size = w.heap.size + 1 := by rw [hW0]; simp
  have H0 := Lib.hid h0; clear h0
  have H1 := Lib.hid h1; clear h1
  have Hb0 := Lib.hid hb0; clear hb0
  have HW0 := Lib.hid hW0; clear hW0
  have Hlen := Lib.hid hlen; clear hlen
  have Hbl0 := Lib.hid hbl0; clear hbl0
  have E0 := Lib.hid e0; clear e0
  clear hl hh
  go_enter Try.func33, Try.ntmps33
  go_upto_region 1 with fail
  (try rw [← HW0.out])
  obtain ⟨w1, hw1⟩ : ∃ w1 : World, w1 = W0.alloc (.cells #[.slice none 0 0, .slice none 0 0] 40) := ⟨_, rfl⟩
  have hb1 : Below W0.heap.size W0 w1 := by rw [hw1]; exact (Below.refl _ _).alloc (Nat.le_refl _) _
  have hz1 : w1.heap.size = W0.heap.size + 1 := by rw [hw1]; simp
  have nR : Blk w1 (w.heap.size + 1) 40 #[.slice none 0 0, .slice none 0 0] := by rw [hw1, ← E0.out]; exact Blk.new _ _ _
  (try rw [← hw1])
  have h2 := H0.out.later hb1
  have h3 := H1.out.later hb1
  have n4 := Hbl0.out.same (hb1.block _ hl0)
  have hbw : Below w.heap.size w w1 := Hb0.out.trans (hb1.mono (by omega))
  have z1 : w1.heap.size = w.heap.size + 2 := by rw [hz1, E0.out]
  clear hz1
  have Hw1 := Lib.hid hw1; clear hw1
  have Hb1 := Lib.hid hb1; clear hb1
  have H2 := Lib.hid h2; clear h2
  have H3 := Lib.hid h3; clear h3
  have N4 := Lib.hid n4; clear n4
  have NR := Lib.hid nR; clear nR
  have Hbw := Lib.hid hbw; clear hbw
  have Z1 := Lib.hid z1; clear z1
  refine wp_region_led2 (K1 w1 w.heap.size lo hi B1 d1 B2 d2) k1c k1D (by kernel_rfl) (by kernel_rfl) (K1_stab w1 w.heap.size lo hi B1 d1 B2 d2) ?step ?fin
  case step =>
    intro i o ho a w' X hA
    match i, ho with
    | 0, ho =>
      obtain rfl := Option.some.inj ho
      exact led_new hA _ _ (run_bsI rfl _ w') (fun e => by cases e) fun s hs _ => ⟨by rw [hs]; exact Own.empty hA.bel.size, fun k hk => by rw [hs] at hk; injection hk with hk; exact hk.symm⟩
    | 1, ho =>
      obtain rfl := Option.some.inj ho
      exact led_quiet hA (.pointer (some ⟨w.heap.size, 0, none⟩)) (run_fieldG _ (.tmp 4) 0 w.heap.size 0 rfl (hA.old (d := 4) (by kernel_rfl) rfl) (by kernel_rfl)) (fun e => by cases e) fun s hs _ => hs
    | 2, ho =>
      obtain rfl := Option.some.inj ho
      exact led_quiet hA (.slice B1 lo.length d1) (run_cellG _ 22 _ (.tmp 11) rfl _ 0 ((hA.val rfl).trans (hA.get 1 (by decide) (.inl rfl))) Try.underlying22 (((N4.out.same (hA.bel.block _ N4.out.lt)).cell 0))) (fun e => by cases e) fun s hs _ => hs
    | 3, ho =>
      obtain rfl := Option.some.inj ho
      obtain ⟨o1, x1⟩ := hA.get 0 (by decide) (.inr rfl)
      exact led_cat hA 0 rfl 22 3 (.int .i64 0) 8 (.tmp 10) (.tmp 12) rfl Try.underlying22 info_intL rfl (by decide) (hA.val rfl) o1 x1 B1 d1 lo ((hA.val rfl).trans (hA.get 2 (by decide) (.inl rfl))) (Old w1) (H2.out.below hA.bel) (own_neqI o1 hA.bel.size) lo.length rfl (room_of (by omega)) (by decide) (fun e => by cases e) (fun _ => False) (fun b hb => hb.elim)
        fun A' c' w'' h1 h2 s hs hk => ⟨A', c', hs, by rw [hs]; exact h1, fun k hk => .inl (by rw [hs] at hk; exact hk)⟩
    | 4, ho =>
      obtain rfl := Option.some.inj ho
      exact led_new hA _ _ (run_bsI rfl _ w') (fun e => by cases e) fun s hs _ => ⟨by rw [hs]; exact Own.empty hA.bel.size, fun k hk => by rw [hs] at hk; injection hk with hk; exact hk.symm⟩
    | 5, ho =>
      obtain rfl := Option.some.inj ho
      exact led_quiet hA (.pointer (some ⟨w.heap.size, 1, none⟩)) (run_fieldG _ (.tmp 4) 1 w.heap.size 1 rfl (hA.old (d := 4) (by kernel_rfl) rfl) (by kernel_rfl)) (fun e => by cases e) fun s hs _ => hs
    | 6, ho =>
      obtain rfl := Option.some.inj ho
      exact led_quiet hA (.slice B2 hi.length d2) (run_cellG _ 22 _ (.tmp 15) rfl _ 1 ((hA.val rfl).trans (hA.get 5 (by decide) (.inl rfl))) Try.underlying22 (((N4.out.same (hA.bel.block _ N4.out.lt)).cell 1))) (fun e => by cases e) fun s hs _ => hs
    | 7, ho =>
      obtain rfl := Option.some.inj ho
      obtain ⟨o1, x1⟩ := hA.get 4 (by decide) (.inr rfl)
      exact led_cat hA 4 rfl 22 3 (.int .i64 0) 8 (.tmp 14) (.tmp 16) rfl Try.underlying22 info_intL rfl (by decide) (hA.val rfl) o1 x1 B2 d2 hi ((hA.val rfl).trans (hA.get 6 (by decide) (.inl rfl))) (Old w1) (H3.out.below hA.bel) (own_neqI o1 hA.bel.size) hi.length rfl (room_of (by have := Hlen.out; omega)) (by decide) (fun e => by cases e) (fun _ => False) (fun b hb => hb.elim)
        fun A' c' w'' h1 h2 s hs hk => ⟨A', c', hs, by rw [hs]; exact h1, fun k hk => .inl (by rw [hs] at hk; exact hk)⟩
    | 8, ho =>
      obtain rfl := Option.some.inj ho
      obtain ⟨A1, c1, e1, _, _⟩ := hA.get 3 (by decide) (.inl rfl)
      obtain ⟨A2, c2, e2, _, _⟩ := hA.get 7 (by decide) (.inl rfl)
      exact led_quiet hA (.agg #[.slice A1 lo.length c1, .slice A2 hi.length c2]) (run_buildC _ (.tmp 13) (.tmp 17) rfl ((hA.val rfl).trans e1) ((hA.val rfl).trans e2)) (fun e => by cases e) fun s hs hk => ⟨A1, c1, A2, c2, (hk 3 (by decide)).trans e1, (hk 7 (by decide)).trans e2, hs⟩
    | 9, ho =>
      obtain rfl := Option.some.inj ho
      exact led_new hA _ _ (run_allocC rfl _ w') (fun e => by cases e) fun s hs _ => ⟨_, hs, Blk.new _ _ _, rfl⟩
    | 10, ho =>
      obtain rfl := Option.some.inj ho
      obtain ⟨k, e1, n1, x1⟩ := hA.get 9 (by decide) (.inr rfl)
      obtain ⟨A1, c1, A2, c2, e3, e7, e2⟩ := hA.get 8 (by decide) (.inl rfl)
      exact led_store hA 9 rfl 40 (.tmp 9) (.tmp 18) 0 #[.slice none 0 0, .slice none 0 0] #[.slice A1 lo.length c1, .slice A2 hi.length c2] #[.slice A1 lo.length c1, .slice A2 hi.length c2] rfl ((hA.val rfl).trans e1) ((hA.val rfl).trans e2) n1 x1 (by kernel_rfl) (Nat.le_refl _) (by simp [Value.oneCell']) rfl rfl (fun s hk hb => ⟨k, A1, c1, A2, c2, (hk 9 (by decide)).trans e1, (hk 8 (by decide)).trans e2, hb, x1⟩) (by decide)
    | n + 11, ho =>
      have : (none : Option Oper) = some o := ho
      cases this
  case fin =>
    intro v X w6 hb6 hv hap
    obtain ⟨⟨A1, c1, v3, o3, x3⟩, y3⟩ := hv 3 (by simp) rfl
    obtain ⟨⟨A2, c2, v7, o7, x7⟩, y7⟩ := hv 7 (by simp) rfl
    obtain ⟨⟨A3, c3, A4, c4, v3', v7', v8⟩, _⟩ := hv 8 (by simp) rfl
    obtain ⟨⟨g, A5, c5, A6, c6, v9, v8', n9, x9⟩, y9⟩ := hv 10 (by simp) rfl
    have r1 := v3.symm.trans v3'
    have r2 := v7.symm.trans v7'
    have r3 := v8.symm.trans v8'
    simp only [Value.agg.injEq, Array.mk.injEq, List.cons.injEq, Value.slice.injEq, and_true, true_and] at r1 r2 r3
    obtain ⟨rfl, rfl⟩ := r1
    obtain ⟨rfl, rfl⟩ := r2
    obtain ⟨⟨rfl, rfl⟩, rfl, rfl⟩ := r3
    rw [v3, List.nil_append] at o3
    rw [v7, List.nil_append] at o7
    rw [v3] at x3
    rw [v7] at x7
    have hlne : lo ≠ [] := by intro e; rw [e] at hk; simp at hk
    have hhne : hi ≠ [] := by intro e; rw [e] at hkh; simp at hkh
    obtain ⟨g1, rfl, p1, _, p2, p3, ra, f1⟩ := o3.row hlne
    obtain ⟨g2, rfl, q1, _, q2, q3, rb, f2⟩ := o7.row hhne
    have u1 : X 3 g1 := x3 g1 rfl
    have u2 : X 7 g2 := x7 g2 rfl
    have i1 : g1 ≠ g2 := fun e => hap 3 7 g1 (by simp) (by simp) rfl rfl (by decide) u1 (e ▸ u2)
    have i2 : g ≠ g1 := fun e => hap 10 3 g (by simp) (by simp) rfl rfl (by decide) x9 (e ▸ u1)
    have i3 : g ≠ g2 := fun e => hap 10 7 g (by simp) (by simp) rfl rfl (by decide) x9 (e ▸ u2)
    have i4 := (y9 g x9).1
    have nr := NR.out.same (hb6.block _ NR.out.lt)
    have bw := Hbw.out.trans (hb6.mono (by have := Z1.out; omega))
    have b6 := hb6
    have z1' := Z1.out
    simp only [putsV]
    rw [v9]
    clear hv hap v3 v3' v7 v7' v8 v8' v9 o3 o7 x3 x7 x9 y3 y7 y9 u1 u2 hb6
    obtain ⟨s0, s1⟩ := n9.two
    have hk0 : (0 : Int) ≤ (k : Int) := Int.natCast_nonneg _
    have hk1 : (k : Int) < (lo.length : Int) := by omega
    have hk2 : (k : Int) < (hi.length : Int) := by omega
    have e5 : IntKind.i64.wrap (m + 1) = m + 1 := IntWalk.i64_in _ (by omega)
    have fm : Fits .i64 m := fits_i64 (by omega)
    have fm1 : Fits .i64 (m + 1) := fits_i64 (by omega)
    obtain ⟨x1', hx1⟩ : ∃ x, lo[k]? = some x := ⟨_, List.getElem?_eq_getElem hk⟩
    obtain ⟨x2', hx2⟩ : ∃ x, hi[k]? = some x := ⟨_, List.getElem?_eq_getElem hkh⟩
    have c1' := ra.cell hx1
    have c2' := rb.cell hx2
    have fz1 := ra.free k
    have fz2 := rb.free k
    have hz6 : w1.heap.size ≤ w6.heap.size := b6.size
    have Ra := Lib.hid ra; clear ra
    have Rb := Lib.hid rb; clear rb
    have N9 := Lib.hid n9; clear n9
    have Nr := Lib.hid nr; clear nr
    have Bw := Lib.hid bw; clear bw
    have B6 := Lib.hid b6; clear b6
    have F1 := Lib.hid f1; clear f1
    have F2 := Lib.hid f2; clear f2
    have Hx1 := Lib.hid hx1; clear hx1
    have Hx2 := Lib.hid hx2; clear hx2
    have Fm := Lib.hid fm; clear fm
    have Fm1 := Lib.hid fm1; clear fm1
    cases b
    case true =>
      go_upto_region 5 with fail
      obtain ⟨w7, hw7⟩ : ∃ W, W = w6.setCell ⟨g1, k, none⟩ (.int .i64 (m + 1)) := ⟨_, rfl⟩
      (try rw [← hw7])
      have ra' : RowAt w7 g1 3 (lo.set k (m + 1)) := by rw [hw7]; exact Ra.out.set k (m + 1)
      have oth : ∀ q, q ≠ g1 → w7.heap[q]? = w6.heap[q]? := fun q hq => by rw [hw7]; exact Below.heap_setCell _ _ _ _ hq
      have bw7 : Below w.heap.size w w7 := by rw [hw7]; exact Bw.out.setCell (by show w.heap.size ≤ g1; omega) _
      have rb' := Rb.out.same (oth g2 (Ne.symm i1))
      have n9' := N9.out.same (oth g i2)
      have nr' := Nr.out.same (oth (w.heap.size + 1) (by omega))
      have fb : ∀ x ∈ lo.set k (m + 1), Fits .i64 x := fun x hx => by
        rcases List.mem_or_eq_of_mem_set hx with h1 | h1
        · exact F1.out x h1
        · rw [h1]; exact Fm1.out
      clear c1' c2' fz1 fz2 s0 s1 hw7
      obtain ⟨s0, s1⟩ := n9'.two
      obtain ⟨t0, t1⟩ := nr'.two
      have fz := nr'.free 0
      have fz' := nr'.free 1
      have Ra' := Lib.hid ra'; clear ra'
      have Rb' := Lib.hid rb'; clear rb'
      have N9' := Lib.hid n9'; clear n9'
      have Nr' := Lib.hid nr'; clear nr'
      have Oth := Lib.hid oth; clear oth
      have Bw7 := Lib.hid bw7; clear bw7
      have Fb := Lib.hid fb; clear fb
      go_wp2
      refine bodyPost_ret (results_cell_row rfl _ _ (w.heap.size + 1) 40 _ (0, 0) _ rfl ((Nr'.out.set 0 _).set 1 _) Try.underlying40 rfl (by kernel_rfl)) rfl ?_
      have kk : ∀ q, q ≠ w.heap.size + 1 → ((w7.setCell ⟨w.heap.size + 1, 0, none⟩ (.slice (some ⟨g1, 0, none⟩) lo.length c1)).setCell ⟨w.heap.size + 1, 1, none⟩ (.slice (some ⟨g2, 0, none⟩) hi.length c2)).heap[q]? = w7.heap[q]? := fun q hq =>
        (Below.heap_setCell _ _ _ _ hq).trans (Below.heap_setCell _ _ _ _ hq)
      have ra2 := Ra'.out.same (kk g1 (by omega))
      have rb2 := Rb'.out.same (kk g2 (by omega))
      refine ⟨some ⟨g1, 0, none⟩, c1, some ⟨g2, 0, none⟩, c2, by simp [cutLo, cutHi], (Bw7.out.setCell (by show w.heap.size ≤ w.heap.size + 1; omega) _).setCell (by show w.heap.size ≤ w.heap.size + 1; omega) _, ra2.sl (by rw [List.length_set]; exact p2) p3 Fb.out ⟨by omega, ra2.lt⟩, rb2.sl q2 q3 F2.out ⟨by omega, rb2.lt⟩⟩
    case false =>
      go_upto_region 5 with fail
      obtain ⟨w7, hw7⟩ : ∃ W, W = w6.setCell ⟨g2, k, none⟩ (.int .i64 m) := ⟨_, rfl⟩
      (try rw [← hw7])
      have rb' : RowAt w7 g2 3 (hi.set k m) := by rw [hw7]; exact Rb.out.set k m
      have oth : ∀ q, q ≠ g2 → w7.heap[q]? = w6.heap[q]? := fun q hq => by rw [hw7]; exact Below.heap_setCell _ _ _ _ hq
      have bw7 : Below w.heap.size w w7 := by rw [hw7]; exact Bw.out.setCell (by show w.heap.size ≤ g2; omega) _
      have ra' := Ra.out.same (oth g1 i1)
      have n9' := N9.out.same (oth g i3)
      have nr' := Nr.out.same (oth (w.heap.size + 1) (by omega))
      have fb : ∀ x ∈ hi.set k m, Fits .i64 x := fun x hx => by
        rcases List.mem_or_eq_of_mem_set hx with h1 | h1
        · exact F2.out x h1
        · rw [h1]; exact Fm.out
      clear c1' c2' fz1 fz2 s0 s1 hw7
      obtain ⟨s0, s1⟩ := n9'.two
      obtain ⟨t0, t1⟩ := nr'.two
      have fz := nr'.free 0
      have fz' := nr'.free 1
      have Ra' := Lib.hid ra'; clear ra'
      have Rb' := Lib.hid rb'; clear rb'
      have N9' := Lib.hid n9'; clear n9'
      have Nr' := Lib.hid nr'; clear nr'
      have Oth := Lib.hid oth; clear oth
      have Bw7 := Lib.hid bw7; clear bw7
      have Fb := Lib.hid fb; clear fb
      go_wp2
      refine bodyPost_ret (results_cell_row rfl _ _ (w.heap.size + 1) 40 _ (0, 0) _ rfl ((Nr'.out.set 0 _).set 1 _) Try.underlying40 rfl (by kernel_rfl)) rfl ?_
      have kk : ∀ q, q ≠ w.heap.size + 1 → ((w7.setCell ⟨w.heap.size + 1, 0, none⟩ (.slice (some ⟨g1, 0, none⟩) lo.length c1)).setCell ⟨w.heap.size + 1, 1, none⟩ (.slice (some ⟨g2, 0, none⟩) hi.length c2)).heap[q]? = w7.heap[q]? := fun q hq =>
        (Below.heap_setCell _ _ _ _ hq).trans (Below.heap_setCell _ _ _ _ hq)
      have ra2 := Ra'.out.same (kk g1 (by omega))
      have rb2 := Rb'.out.same (kk g2 (by omega))
      refine ⟨some ⟨g1, 0, none⟩, c1, some ⟨g2, 0, none⟩, c2, by simp [cutLo, cutHi], (Bw7.out.setCell (by show w.heap.size ≤ w.heap.size + 1; omega) _).setCell (by show w.heap.size ≤ w.heap.size + 1; omega) _, ra2.sl p2 p3 F1.out ⟨by omega, ra2.lt⟩, rb2.sl (by rw [List.length_set]; exact q2) q3 Fb.out ⟨by omega, rb2.lt⟩⟩
end Go.Proofs.Ytfeafembifdklaa
