/-
  TurtleJoins, the walk of the law: it returns true.
-/
import Derived.Test.YtldccpmnboebmaaDoorBb
import Derived.Test.YtldccpmnboebmaaDoorLh
import Derived.Test.YtldccpmnboebmaaDoorAc
namespace Go.Proofs.YtldccpmnboebmaaDoor
open Go.RowKit Go.Sort
set_option linter.unusedVariables false

abbrev rowTk (A : Option Addr) (c : Nat) (B : Option Addr) (q : Nat) (u : Trk) : Array Value := #[.slice A u.lines.length c, .slice B u.marks.length q, .int .u8 u.fr.1, .int .i64 u.fr.2.1, .int .i64 u.fr.2.2.1, .int .i64 u.fr.2.2.2, .int .i64 u.drawn]
abbrev zeroRow : Array Value := #[.slice none 0 0, .slice none 0 0, .int .u8 0, .int .i64 0, .int .i64 0, .int .i64 0, .int .i64 0]
theorem join_cases {v w : List Mod} {t : Tur} {b : Trop} (hv : checkF v = 0) (hw : checkF w = 0) (hl : v.length + w.length ≤ 2000) (h : FitT t b) (ht0 : 0 ≤ t.1.1) (hb0 : 0 ≤ b.1) {x y z : Trk} {e f g : Int} (h1 : runT v t b = (x, e)) (h2 : runT w (x.fr, x.drawn) b = (y, f)) (h3 : runT (v ++ w) t b = (z, g)) :
    (e = 16 ∧ g = 16) ∨ (e = 0 ∧ f = 16 ∧ g = 16 ∧ Fits .u8 x.fr.1) ∨ (e = 0 ∧ f = 0 ∧ g = 0 ∧ Fits .u8 x.fr.1 ∧ Hid (z = ⟨x.lines ++ y.lines, x.marks ++ y.marks, y.fr, y.drawn⟩)) := by
  obtain ⟨j1, j2⟩ := join_law hv hw hl h ht0 hb0
  rw [h1] at j1 j2
  rw [h3] at j1 j2
  simp only at j1 j2
  rw [h2] at j2
  simp only at j2
  by_cases he : e = 0
  · obtain ⟨i1, i2, k1, k2⟩ := j2 he
    have hfx : Fits .u8 x.fr.1 := fits_u8 ⟨i2, by have := (checkFr_ok i1.1).1; simp only at this; omega⟩
    by_cases hf : f = 0
    · have := Prod.mk.inj (k2 hf)
      exact .inr (.inr ⟨he, hf, this.2, hfx, this.1⟩)
    · obtain ⟨k3, k4⟩ := k1 hf
      exact .inr (.inl ⟨he, k3, k4, hfx⟩)
  · exact .inl (j1 he)
theorem info_modL : (Tryd.prog.info? 44).map (fun i => (i.zero, i.size, i.bytes)) = some (some (.agg #[.int .u8 0, .slice none 0 0]), 2, 32) := by kernel_rfl
theorem run_bs0 {t e : TypeId} (hr : ∀ (ev : Operand → Value) (w : World), (Instr.buildSlice t 0 #[]).run Tryd.prog w = .ok (.slice (some ⟨w.heap.size, 0, none⟩) 0 0) (w.alloc (.cells #[] e))) {o : Oper} (ho : o.op = .buildSlice t 0 #[]) (ev : Operand → Value) (w : World) : (execOp ev o).run Tryd.prog w = .ok (.value (.slice (some ⟨w.heap.size, 0, none⟩) 0 0)) (w.alloc (.cells #[] e)) := by
  unfold execOp
  simp only [ho, Sem.run_bind, List.map_toArray, List.map_nil, hr ev w, Result.andThen_ok, Sem.run_pure]
theorem bs0_mod (ev : Operand → Value) (w : World) : (Instr.buildSlice 22 0 #[]).run Tryd.prog w = .ok (.slice (some ⟨w.heap.size, 0, none⟩) 0 0) (w.alloc (.cells #[] 44)) := by kernel_rfl
theorem run_allocT {o : Oper} (ho : o.op = .alloc 36) (ev : Operand → Value) (w : World) : (execOp ev o).run Tryd.prog w = .ok (.value (.pointer (some ⟨w.heap.size, 0, none⟩))) (w.alloc (.cells zeroRow 36)) := by
  obtain ⟨dst, op, tt, ps, af, gd⟩ := o
  simp only at ho
  subst ho
  show (execOp ev _).run Tryd.prog w = _
  kernel_rfl
theorem run_extractL {P : Program} {o : Oper} {w : World} (ev : Operand → Value) (x : Operand) (k : Nat) (ho : o.op = .extract x k) (vs : Array Value) {v : Value} (hx : ev x = .tuple vs) (hv : vs[k]? = some v) : (execOp ev o).run P w = .ok (.value v) w := by
  unfold execOp
  simp only [ho, hx, Sem.run_bind]
  simp [Instr.extract, hv, go_sem]
/-- region 5: the joined word is run, the track is boxed -/
def J5 (W : World) (A : Option Addr) (c : Nat) (vs : List Mod) (B : Option Addr) (cb : Nat) (ws : List Mod) (t : Tur) (b : Trop) (z : Trk) (g : Int) : Nat → (Nat → Prop) → (Nat → Value) → World → Prop
  | 0, X, s, w => Own pMod 44 W.heap.size (Old W) w (s 0) [] ∧ ∀ k, (s 0).ownBlock = some k → X k
  | 1, X, s, w => s 1 = .slice A vs.length c
  | 2, X, s, w => ∃ A' c', s 2 = .slice A' vs.length c' ∧ Own pMod 44 W.heap.size (Old W) w (s 2) ([] ++ vs) ∧ ∀ k, (s 2).ownBlock = some k → X k
  | 3, X, s, w => s 3 = .slice B ws.length cb
  | 4, X, s, w => ∃ A' c', s 4 = .slice A' (vs ++ ws).length c' ∧ Own pMod 44 W.heap.size (Old W) w (s 4) ([] ++ vs ++ ws) ∧ ∀ k, (s 4).ownBlock = some k → X k
  | 5, X, s, w => s 5 = .agg #[.int .u8 t.1.1, .int .i64 t.1.2.1, .int .i64 t.1.2.2.1, .int .i64 t.1.2.2.2, .int .i64 t.2]
  | 6, X, s, w => s 6 = .agg #[.int .u8 b.1, .int .i64 b.2]
  | 7, X, s, w => ∃ A' c' B' q', s 7 = .tuple #[.agg (rowTk A' c' B' q' z), .int .i64 g] ∧ SlAt pLn X w A' c' z.lines ∧ SlAt pMk X w B' q' z.marks
  | 8, X, s, w => ∃ A' c' B' q', s 8 = .tuple #[.agg (rowTk A' c' B' q' z), .int .i64 g] ∧ SlAt pLn X w A' c' z.lines ∧ SlAt pMk X w B' q' z.marks
  | 9, X, s, w => ∃ A' c' B' q', s 8 = .tuple #[.agg (rowTk A' c' B' q' z), .int .i64 g] ∧ s 9 = .agg (rowTk A' c' B' q' z)
  | 10, X, s, w => s 10 = .int .i64 g
  | 11, X, s, w => ∃ k, s 11 = .pointer (some ⟨k, 0, none⟩) ∧ Blk w k 36 zeroRow ∧ X k
  | 12, X, s, w => ∃ k A' c' B' q', s 11 = .pointer (some ⟨k, 0, none⟩) ∧ s 9 = .agg (rowTk A' c' B' q' z) ∧ Blk w k 36 (rowTk A' c' B' q' z) ∧ X k
  | 13, X, s, w => s 13 = .int .i64 g
  | _, _, _, _ => True
def c5 : List (Option Nat) := [some 2, none, some 4, none, some 7, none, none, some 8, none, none, none, some 12, none, none]
def D5 : List (List Nat) := [[], [], [0, 1], [], [2, 3], [], [], [4, 5, 6], [7], [8], [8], [], [11, 9], [10]]
theorem own_neq {α : Type} {E : Rp α} {e : TypeId} {W w : World} {G : Nat → Prop} {v : Value} {xs : List α} (h : Own E e W.heap.size G w v xs) (hs : W.heap.size ≤ w.heap.size) : ∀ k, Old W k → Old W k ∧ k < w.heap.size ∧ some k ≠ v.ownBlock := fun k hk => by
  have h1 : k < W.heap.size := hk
  exact ⟨hk, by omega, fun e => by have := (h.lt k e.symm).1; omega⟩
theorem J5_stab (W : World) (A : Option Addr) (c : Nat) (vs : List Mod) (B : Option Addr) (cb : Nat) (ws : List Mod) (t : Tur) (b : Trop) (z : Trk) (g : Int) (i : Nat) (X : Nat → Prop) (s s' : Nat → Value) (w w' : World) (h : J5 W A c vs B cb ws t b z g i X s w) (hi : s' i = s i) (hd : ∀ k, k ∈ D5.getD i [] → s' k = s k) (hb : RowKit.Below W.heap.size W w) (hb' : RowKit.Below W.heap.size W w') (hs : w.heap.size ≤ w'.heap.size) (hX : ∀ k, X k → k < w.heap.size) (hk : ∀ k, X k → w'.heap[k]? = w.heap[k]?) : J5 W A c vs B cb ws t b z g i X s' w' := by
  have hG : ∀ k, Old W k → w'.heap[k]? = w.heap[k]? := fun k hk => (hb'.block k hk).trans (hb.block k hk).symm
  match i, h, hi, hd with
  | 0, ⟨h1, h2⟩, hi, _ => exact ⟨by rw [hi]; exact own_keepL h1 h2 hs hG hk, by rw [hi]; exact h2⟩
  | 1, h, hi, _ => exact hi.trans h
  | 2, ⟨A', c', h1, h2, h3⟩, hi, _ => exact ⟨A', c', hi.trans h1, by rw [hi]; exact own_keepL h2 h3 hs hG hk, by rw [hi]; exact h3⟩
  | 3, h, hi, _ => exact hi.trans h
  | 4, ⟨A', c', h1, h2, h3⟩, hi, _ => exact ⟨A', c', hi.trans h1, by rw [hi]; exact own_keepL h2 h3 hs hG hk, by rw [hi]; exact h3⟩
  | 5, h, hi, _ => exact hi.trans h
  | 6, h, hi, _ => exact hi.trans h
  | 7, ⟨A', c', B', q', h1, h2, h3⟩, hi, _ => exact ⟨A', c', B', q', hi.trans h1, h2.keep hk, h3.keep hk⟩
  | 8, ⟨A', c', B', q', h1, h2, h3⟩, hi, _ => exact ⟨A', c', B', q', hi.trans h1, h2.keep hk, h3.keep hk⟩
  | 9, ⟨A', c', B', q', h1, h2⟩, hi, hd => exact ⟨A', c', B', q', (hd 8 (by decide)).trans h1, hi.trans h2⟩
  | 10, h, hi, _ => exact hi.trans h
  | 11, ⟨k, h1, h2, h3⟩, hi, _ => exact ⟨k, hi.trans h1, h2.same (hk k h3), h3⟩
  | 12, ⟨k, A', c', B', q', h1, h2, h3, h4⟩, hi, hd => exact ⟨k, A', c', B', q', (hd 11 (by decide)).trans h1, (hd 9 (by decide)).trans h2, h3.same (hk k h4), h4⟩
  | 13, h, hi, _ => exact hi.trans h
  | n + 14, _, _, _ => exact trivial

theorem bs0_ln (ev : Operand → Value) (w : World) : (Instr.buildSlice 33 0 #[]).run Tryd.prog w = .ok (.slice (some ⟨w.heap.size, 0, none⟩) 0 0) (w.alloc (.cells #[] 46)) := by kernel_rfl
theorem bs0_mk (ev : Operand → Value) (w : World) : (Instr.buildSlice 34 0 #[]).run Tryd.prog w = .ok (.slice (some ⟨w.heap.size, 0, none⟩) 0 0) (w.alloc (.cells #[] 65)) := by kernel_rfl
theorem info_lnL : (Tryd.prog.info? 46).map (fun i => (i.zero, i.size, i.bytes)) = some (some (.agg #[.int .i64 0, .int .i64 0, .int .i64 0, .int .i64 0, .int .i64 0, .int .i64 0, .int .i64 0]), 7, 56) := by kernel_rfl
theorem info_mkL : (Tryd.prog.info? 65).map (fun i => (i.zero, i.size, i.bytes)) = some (some (.agg #[.int .u8 0, .int .u8 0, .int .i64 0, .int .i64 0, .int .i64 0]), 5, 40) := by kernel_rfl
theorem run_fieldL {o : Oper} {w : World} (ev : Operand → Value) (x : Operand) (f g k : Nat) (ho : o.op = .fieldAddr 36 x f) (hx : ev x = .pointer (some ⟨g, 0, none⟩)) (hk : (Instr.fieldAt 36 (.pointer (some ⟨g, 0, none⟩)) f).run Tryd.prog w = .ok (.pointer (some ⟨g, k, none⟩)) w) : (execOp ev o).run Tryd.prog w = .ok (.value (.pointer (some ⟨g, k, none⟩))) w := by
  unfold execOp
  simp only [ho, hx, Sem.run_bind, hk, Result.andThen_ok, Sem.run_pure]
theorem run_cellL {P : Program} {o : Oper} {w : World} (ev : Operand → Value) (ty e : TypeId) (x : Operand) (ho : o.op = .load ty x) (g k : Nat) (hx : ev x = .pointer (some ⟨g, k, none⟩)) (hu : P.underlying ty = some (.slice e)) {v : Value} (hc : w.cell? ⟨g, k, none⟩ = some v) : (execOp ev o).run P w = .ok (.value v) w := by
  unfold execOp
  simp only [ho, hx]
  simp [Instr.loadAt, Instr.sureAddr, loadVar, isAgg, Sem.run_bind, run_underlying hu, hc, go_sem]
theorem run_buildTk {o : Oper} {w : World} (ev : Operand → Value) (x y z : Operand) (ho : o.op = .build 36 #[(0, x), (1, y), (2, z)]) {A B : Option Addr} {n c m q : Nat} {f0 f1 f2 f3 f4 : Int} (hx : ev x = .slice A n c) (hy : ev y = .slice B m q) (hz : ev z = .agg #[.int .u8 f0, .int .i64 f1, .int .i64 f2, .int .i64 f3, .int .i64 f4]) :
    (execOp ev o).run Tryd.prog w = .ok (.value (.agg #[.slice A n c, .slice B m q, .int .u8 f0, .int .i64 f1, .int .i64 f2, .int .i64 f3, .int .i64 f4])) w := by
  unfold execOp
  simp only [ho, List.map_toArray, List.map_cons, List.map_nil, hx, hy, hz]
  kernel_rfl
theorem run_lens {v : List Mod} {t : Tur} {b : Trop} (hv : checkF v = 0) (ht0 : 0 ≤ t.1.1) (hb0 : 0 ≤ b.1) {x : Trk} {e : Int} (h1 : runT v t b = (x, e)) (hl : v.length ≤ 300) : x.lines.length ≤ 300 ∧ x.marks.length ≤ 300 := by
  unfold runT at h1
  rw [if_pos hv] at h1
  split at h1
  · split at h1
    · split at h1
      · rename_i s hs
        obtain ⟨c1, c2⟩ := runF_counts (letters_of hv) hs
        have n1 := nF_le v
        have n2 := nM_le v
        injection h1 with h1 _
        subst h1
        simp only [trkOf, c1, c2, beginF, List.length_nil]
        omega
      · injection h1 with h1 _; subst h1; simp [zeroTr]
    · injection h1 with h1 _; subst h1; simp [zeroTr]
  · injection h1 with h1 _; subst h1; simp [zeroTr]
/-- region 11: the two tracks, one behind the other -/
def J11 (W : World) (g10 g14 : Nat) (x y : Trk) (A4 : Option Addr) (c4 : Nat) (B4 : Option Addr) (p4 : Nat) (A9 : Option Addr) (c9 : Nat) (B9 : Option Addr) (p9 : Nat) : Nat → (Nat → Prop) → (Nat → Value) → World → Prop
  | 0, X, s, w => Own pLn 46 W.heap.size (Old W) w (s 0) [] ∧ ∀ k, (s 0).ownBlock = some k → X k
  | 1, X, s, w => s 1 = .pointer (some ⟨g10, 0, none⟩)
  | 2, X, s, w => s 2 = .slice A4 x.lines.length c4
  | 3, X, s, w => ∃ A' c', s 3 = .slice A' x.lines.length c' ∧ Own pLn 46 W.heap.size (Old W) w (s 3) ([] ++ x.lines) ∧ ∀ k, (s 3).ownBlock = some k → X k
  | 4, X, s, w => s 4 = .pointer (some ⟨g14, 0, none⟩)
  | 5, X, s, w => s 5 = .slice A9 y.lines.length c9
  | 6, X, s, w => ∃ A' c', s 6 = .slice A' (x.lines ++ y.lines).length c' ∧ Own pLn 46 W.heap.size (Old W) w (s 6) ([] ++ x.lines ++ y.lines) ∧ ∀ k, (s 6).ownBlock = some k → X k
  | 7, X, s, w => Own pMk 65 W.heap.size (Old W) w (s 7) [] ∧ ∀ k, (s 7).ownBlock = some k → X k
  | 8, X, s, w => s 8 = .pointer (some ⟨g10, 1, none⟩)
  | 9, X, s, w => s 9 = .slice B4 x.marks.length p4
  | 10, X, s, w => ∃ A' c', s 10 = .slice A' x.marks.length c' ∧ Own pMk 65 W.heap.size (Old W) w (s 10) ([] ++ x.marks) ∧ ∀ k, (s 10).ownBlock = some k → X k
  | 11, X, s, w => s 11 = .pointer (some ⟨g14, 1, none⟩)
  | 12, X, s, w => s 12 = .slice B9 y.marks.length p9
  | 13, X, s, w => ∃ A' c', s 13 = .slice A' (x.marks ++ y.marks).length c' ∧ Own pMk 65 W.heap.size (Old W) w (s 13) ([] ++ x.marks ++ y.marks) ∧ ∀ k, (s 13).ownBlock = some k → X k
  | 14, X, s, w => s 14 = .pointer (some ⟨g14, 2, none⟩)
  | 15, X, s, w => s 15 = .agg #[.int .u8 y.fr.1, .int .i64 y.fr.2.1, .int .i64 y.fr.2.2.1, .int .i64 y.fr.2.2.2, .int .i64 y.drawn]
  | 16, X, s, w => ∃ A' c' B' q', s 6 = .slice A' (x.lines ++ y.lines).length c' ∧ s 13 = .slice B' (x.marks ++ y.marks).length q' ∧ s 16 = .agg #[.slice A' (x.lines ++ y.lines).length c', .slice B' (x.marks ++ y.marks).length q', .int .u8 y.fr.1, .int .i64 y.fr.2.1, .int .i64 y.fr.2.2.1, .int .i64 y.fr.2.2.2, .int .i64 y.drawn]
  | 17, X, s, w => ∃ k, s 17 = .pointer (some ⟨k, 0, none⟩) ∧ Blk w k 36 zeroRow ∧ X k
  | 18, X, s, w => ∃ k A' c' B' q', s 17 = .pointer (some ⟨k, 0, none⟩) ∧ s 16 = .agg #[.slice A' (x.lines ++ y.lines).length c', .slice B' (x.marks ++ y.marks).length q', .int .u8 y.fr.1, .int .i64 y.fr.2.1, .int .i64 y.fr.2.2.1, .int .i64 y.fr.2.2.2, .int .i64 y.drawn] ∧ Blk w k 36 #[.slice A' (x.lines ++ y.lines).length c', .slice B' (x.marks ++ y.marks).length q', .int .u8 y.fr.1, .int .i64 y.fr.2.1, .int .i64 y.fr.2.2.1, .int .i64 y.fr.2.2.2, .int .i64 y.drawn] ∧ X k
  | _, _, _, _ => True
def c11 : List (Option Nat) := [some 3, none, none, some 6, none, none, none, some 10, none, none, some 13, none, none, none, none, none, none, some 18, none]
def D11 : List (List Nat) := [[], [], [1], [0, 2], [], [4], [3, 5], [], [], [8], [7, 9], [], [11], [10, 12], [], [14], [6, 13, 15], [], [17, 16]]
theorem J11_stab (W : World) (g10 g14 : Nat) (x y : Trk) (A4 : Option Addr) (c4 : Nat) (B4 : Option Addr) (p4 : Nat) (A9 : Option Addr) (c9 : Nat) (B9 : Option Addr) (p9 : Nat) (i : Nat) (X : Nat → Prop) (s s' : Nat → Value) (w w' : World) (h : J11 W g10 g14 x y A4 c4 B4 p4 A9 c9 B9 p9 i X s w) (hi : s' i = s i) (hd : ∀ k, k ∈ D11.getD i [] → s' k = s k) (hb : RowKit.Below W.heap.size W w) (hb' : RowKit.Below W.heap.size W w') (hs : w.heap.size ≤ w'.heap.size) (hX : ∀ k, X k → k < w.heap.size) (hk : ∀ k, X k → w'.heap[k]? = w.heap[k]?) : J11 W g10 g14 x y A4 c4 B4 p4 A9 c9 B9 p9 i X s' w' := by
  have hG : ∀ k, Old W k → w'.heap[k]? = w.heap[k]? := fun k hk => (hb'.block k hk).trans (hb.block k hk).symm
  match i, h, hi, hd with
  | 0, ⟨h1, h2⟩, hi, _ => exact ⟨by rw [hi]; exact own_keepL h1 h2 hs hG hk, by rw [hi]; exact h2⟩
  | 1, h, hi, _ => exact hi.trans h
  | 2, h, hi, _ => exact hi.trans h
  | 3, ⟨A', c', h1, h2, h3⟩, hi, _ => exact ⟨A', c', hi.trans h1, by rw [hi]; exact own_keepL h2 h3 hs hG hk, by rw [hi]; exact h3⟩
  | 4, h, hi, _ => exact hi.trans h
  | 5, h, hi, _ => exact hi.trans h
  | 6, ⟨A', c', h1, h2, h3⟩, hi, _ => exact ⟨A', c', hi.trans h1, by rw [hi]; exact own_keepL h2 h3 hs hG hk, by rw [hi]; exact h3⟩
  | 7, ⟨h1, h2⟩, hi, _ => exact ⟨by rw [hi]; exact own_keepL h1 h2 hs hG hk, by rw [hi]; exact h2⟩
  | 8, h, hi, _ => exact hi.trans h
  | 9, h, hi, _ => exact hi.trans h
  | 10, ⟨A', c', h1, h2, h3⟩, hi, _ => exact ⟨A', c', hi.trans h1, by rw [hi]; exact own_keepL h2 h3 hs hG hk, by rw [hi]; exact h3⟩
  | 11, h, hi, _ => exact hi.trans h
  | 12, h, hi, _ => exact hi.trans h
  | 13, ⟨A', c', h1, h2, h3⟩, hi, _ => exact ⟨A', c', hi.trans h1, by rw [hi]; exact own_keepL h2 h3 hs hG hk, by rw [hi]; exact h3⟩
  | 14, h, hi, _ => exact hi.trans h
  | 15, h, hi, _ => exact hi.trans h
  | 16, ⟨A', c', B', q', h1, h2, h3⟩, hi, hd => exact ⟨A', c', B', q', (hd 6 (by decide)).trans h1, (hd 13 (by decide)).trans h2, hi.trans h3⟩
  | 17, ⟨k, h1, h2, h3⟩, hi, _ => exact ⟨k, hi.trans h1, h2.same (hk k h3), h3⟩
  | 18, ⟨k, A', c', B', q', h1, h2, h3, h4⟩, hi, hd => exact ⟨k, A', c', B', q', (hd 17 (by decide)).trans h1, (hd 16 (by decide)).trans h2, h3.same (hk k h4), h4⟩
  | n + 19, _, _, _ => exact trivial
set_option maxRecDepth 100000 in
set_option maxHeartbeats 8000000 in
theorem turtleJoins_walk (A : Option Addr) (c : Nat) (vs : List Mod) (B : Option Addr) (cb : Nat) (ws : List Mod) (t : Tur) (b : Trop) (w : World) (h : SlAt pMod (Old w) w A c vs) (h1 : SlAt pMod (Old w) w B cb ws) (ht0 : Fits .u8 t.1.1) (hb0 : 0 ≤ b.1) (hL : LibAt w) : Calls Tryd.prog 3 #[.slice A vs.length c, .slice B ws.length cb, .agg #[.int .u8 t.1.1, .int .i64 t.1.2.1, .int .i64 t.1.2.2.1, .int .i64 t.1.2.2.2, .int .i64 t.2], .agg #[.int .u8 b.1, .int .i64 b.2]] w (OkPost w) := by
  have q1 := h.lenle
  have q2 := h1.lenle
  obtain ⟨W, hW⟩ : ∃ W, W = (w.alloc (.cells #[.int .u8 t.1.1, .int .i64 t.1.2.1, .int .i64 t.1.2.2.1, .int .i64 t.1.2.2.2, .int .i64 t.2] 28)).alloc (.cells #[.int .u8 b.1, .int .i64 b.2] 30) := ⟨_, rfl⟩
  have b0 : Blk W w.heap.size 28 #[.int .u8 t.1.1, .int .i64 t.1.2.1, .int .i64 t.1.2.2.1, .int .i64 t.1.2.2.2, .int .i64 t.2] := by rw [hW]; exact (Blk.new w _ _).alloc _
  have b1 : Blk W (w.heap.size + 1) 30 #[.int .u8 b.1, .int .i64 b.2] := by
    rw [hW]
    have := Blk.new (w.alloc (.cells #[.int .u8 t.1.1, .int .i64 t.1.2.1, .int .i64 t.1.2.2.1, .int .i64 t.1.2.2.2, .int .i64 t.2] 28)) 30 #[.int .u8 b.1, .int .i64 b.2]
    simpa using this
  have t0 : RowKit.Below w.heap.size w W := by rw [hW]; exact al2
  have al := alive_calls W (hL.later t0)
  have B0 := Lib.hid b0; clear b0
  have B1 := Lib.hid b1; clear b1
  have T0 := Lib.hid t0; clear t0
  have H := Lib.hid h; clear h
  have H1 := Lib.hid h1; clear h1
  have Al := Lib.hid al; clear al
  have HL := Lib.hid hL; clear hL
  go_enter Tryd.func3, Tryd.ntmps3
  go_wp2_with fail
  (try rw [← hW])
  clear hW
  refine Al.out.mono ?_
  rintro e w1 ⟨rfl, d1⟩

  have k0 := B0.out.same (d1.block _ B0.out.lt)
  have k1 := B1.out.same (d1.block _ B1.out.lt)
  have tB := T0.out.trans (d1.mono T0.out.size)
  clear d1
  have y0 := k0.cell 0
  have y1 := k0.cell 1
  have y2 := k0.cell 2
  have y3 := k0.cell 3
  have y4 := k0.cell 4
  have x0 := k1.cell 0
  have x1 := k1.cell 1
  have cf := fit_calls A c vs t b w1 (H.out.later tB)
  obtain ⟨f1, hf1⟩ : ∃ z, fitB vs t b = z := ⟨_, rfl⟩
  rw [hf1] at cf
  have K0 := Lib.hid k0; clear k0
  have K1 := Lib.hid k1; clear k1
  have TB := Lib.hid tB; clear tB
  have Cf := Lib.hid cf; clear cf
  have Hf1 := Lib.hid hf1; clear hf1
  go_wp2_with fail
  refine Cf.out.mono ?_
  rintro e w2 ⟨rfl, d1⟩
  have k0 := K0.out.same (d1.block _ K0.out.lt)
  have k1 := K1.out.same (d1.block _ K1.out.lt)
  have tB := TB.out.trans (d1.mono TB.out.size)
  clear d1
  clear y0 y1 y2 y3 y4 x0 x1
  cases f1
  case false =>
    have TB := Lib.hid tB; clear tB
    go_wp2
    go_ret
    exact ⟨rfl, TB.out⟩
  case true =>
  have y0 := k0.cell 0
  have y1 := k0.cell 1
  have y2 := k0.cell 2
  have y3 := k0.cell 3
  have y4 := k0.cell 4
  have x0 := k1.cell 0
  have x1 := k1.cell 1
  have cf := fit_calls B cb ws t b w2 (H1.out.later tB)
  obtain ⟨f2, hf2⟩ : ∃ z, fitB ws t b = z := ⟨_, rfl⟩
  rw [hf2] at cf
  have K0 := Lib.hid k0; clear k0
  have K1 := Lib.hid k1; clear k1
  have TB := Lib.hid tB; clear tB
  have Cf := Lib.hid cf; clear cf
  have Hf2 := Lib.hid hf2; clear hf2
  go_wp2_with fail
  refine Cf.out.mono ?_
  rintro e w3 ⟨rfl, d1⟩
  have k0 := K0.out.same (d1.block _ K0.out.lt)
  have k1 := K1.out.same (d1.block _ K1.out.lt)
  have tB := TB.out.trans (d1.mono TB.out.size)
  clear d1
  clear y0 y1 y2 y3 y4 x0 x1
  cases f2
  case false =>
    have TB := Lib.hid tB; clear tB
    go_wp2
    go_ret
    exact ⟨rfl, TB.out⟩
  case true =>
  obtain ⟨lv, cv, fv⟩ := fitB_yes Hf1.out
  obtain ⟨lw, cw, _⟩ := fitB_yes Hf2.out
  obtain ⟨⟨x, e1⟩, hx⟩ : ∃ r, runT vs t b = r := ⟨_, rfl⟩
  obtain ⟨⟨y, e2⟩, hy⟩ : ∃ r, runT ws (x.fr, x.drawn) b = r := ⟨_, rfl⟩
  obtain ⟨⟨z, e3⟩, hz⟩ : ∃ r, runT (vs ++ ws) t b = r := ⟨_, rfl⟩
  have law := join_cases cv cw (by omega) fv ht0.u8.1 hb0 hx hy hz
  have y0 := k0.cell 0
  have y1 := k0.cell 1
  have y2 := k0.cell 2
  have y3 := k0.cell 3
  have y4 := k0.cell 4
  have x0 := k1.cell 0
  have x1 := k1.cell 1
  have cr := run_fresh A c vs t b w3 (H.out.later tB) ht0 hb0
  unfold FreshPost at cr
  rw [hx] at cr
  simp only at cr
  have K0 := Lib.hid k0; clear k0
  have K1 := Lib.hid k1; clear k1
  have TB := Lib.hid tB; clear tB
  have Cr := Lib.hid cr; clear cr
  have Hx := Lib.hid hx; clear hx
  have Hy := Lib.hid hy; clear hy
  have Hz := Lib.hid hz; clear hz
  have Law := Lib.hid law; clear law
  have Cv := Lib.hid cv; clear cv
  have Cw := Lib.hid cw; clear cw
  have Fv := Lib.hid fv; clear fv
  go_wp2_with fail
  refine Cr.out.mono ?_
  rintro e w4 ⟨A4, c4, B4, p4, rfl, sl, sm, dd⟩
  obtain ⟨w5, hw⟩ : ∃ W, W = w4.alloc (.cells (rowTk A4 c4 B4 p4 x) 36) := ⟨_, rfl⟩
  obtain ⟨g10, hg⟩ : ∃ k, k = w4.heap.size := ⟨_, rfl⟩
  have n10 : Blk w5 g10 36 (rowTk A4 c4 B4 p4 x) := by rw [hw, hg]; exact Blk.new w4 _ _
  have d2 : RowKit.Below w4.heap.size w4 w5 := by rw [hw]; exact al1
  have d3 := dd.trans (d2.mono dd.size)
  have k0 := K0.out.same (d3.block _ K0.out.lt)
  have k1 := K1.out.same (d3.block _ K1.out.lt)
  have tB := TB.out.trans (d3.mono TB.out.size)
  have slx := (sl.wide (F' := Old w4) fun k hk => hk.2).later d2
  have smx := (sm.wide (F' := Old w4) fun k hk => hk.2).later d2
  clear y0 y1 y2 y3 y4 x0 x1 sl sm dd d2 d3
  have y0 := k0.cell 0
  have y1 := k0.cell 1
  have y2 := k0.cell 2
  have y3 := k0.cell 3
  have y4 := k0.cell 4
  have x0 := k1.cell 0
  have x1 := k1.cell 1
  have N10 := Lib.hid n10; clear n10
  have Slx := Lib.hid slx; clear slx
  have Smx := Lib.hid smx; clear smx
  have K0 := Lib.hid k0; clear k0
  have K1 := Lib.hid k1; clear k1
  have TB := Lib.hid tB; clear tB
  go_upto_region 5 with fail
  (try rw [← hw, ← hg])
  clear hw hg y0 y1 y2 y3 y4 x0 x1
  refine wp_region_led (J5 w5 A c vs B cb ws t b z e3) c5 D5 (by kernel_rfl) (by kernel_rfl) (J5_stab w5 A c vs B cb ws t b z e3) ?step ?fin

  case step =>
    intro i o ho a w' X hA
    have hbw := TB.out.trans (hA.bel.mono TB.out.size)
    match i, ho with
    | 0, ho =>
      obtain rfl := Option.some.inj ho
      exact led_new hA _ _ (run_bs0 bs0_mod rfl _ w') (fun e => by cases e) fun s hs _ => ⟨by rw [hs]; exact Own.empty hA.bel.size, fun k hk => by rw [hs] at hk; injection hk with hk; exact hk.symm⟩
    | 1, ho =>
      obtain rfl := Option.some.inj ho
      exact led_quiet hA (.slice A vs.length c) (run_moveL _ (.tmp 0) _ (.inl rfl) (hA.old (d := 0) (by kernel_rfl) rfl)) (fun e => by cases e) fun s hs _ => hs
    | 2, ho =>
      obtain rfl := Option.some.inj ho
      obtain ⟨o1, x1⟩ := hA.get 0 (by decide) (.inr rfl)
      exact led_cat hA 0 rfl 22 44 (.agg #[.int .u8 0, .slice none 0 0]) 32 (.tmp 43) (.tmp 44) rfl Tryd.underlying22 info_modL rfl (by decide) (hA.val rfl) o1 x1 A c vs ((hA.val rfl).trans (hA.get 1 (by decide) (.inl rfl))) (Old w5) ((H.out.later TB.out).below hA.bel) (own_neq o1 hA.bel.size) vs.length rfl (room_of (by omega)) (by decide) (fun e => by cases e) (fun _ => False) (fun b hb => hb.elim)
        fun A' c' w'' h1 h2 s hs hk => ⟨A', c', hs, by rw [hs]; exact h1, fun k hk => .inl (by rw [hs] at hk; exact hk)⟩
    | 3, ho =>
      obtain rfl := Option.some.inj ho
      exact led_quiet hA (.slice B ws.length cb) (run_moveL _ (.tmp 1) _ (.inl rfl) (hA.old (d := 1) (by kernel_rfl) rfl)) (fun e => by cases e) fun s hs _ => hs
    | 4, ho =>
      obtain rfl := Option.some.inj ho
      obtain ⟨A1, c1, e1, o1, x1⟩ := hA.get 2 (by decide) (.inr rfl)
      exact led_cat hA 2 rfl 22 44 (.agg #[.int .u8 0, .slice none 0 0]) 32 (.tmp 45) (.tmp 46) rfl Tryd.underlying22 info_modL rfl (by decide) (hA.val rfl) o1 x1 B cb ws ((hA.val rfl).trans (hA.get 3 (by decide) (.inl rfl))) (Old w5) ((H1.out.later TB.out).below hA.bel) (own_neq o1 hA.bel.size) (vs ++ ws).length rfl (room_of (by rw [List.length_append]; omega)) (by decide) (fun e => by cases e) (fun _ => False) (fun b hb => hb.elim)
        fun A' c' w'' h1 h2 s hs hk => ⟨A', c', hs, by rw [hs]; exact h1, fun k hk => .inl (by rw [hs] at hk; exact hk)⟩
    | 5, ho =>
      obtain rfl := Option.some.inj ho
      exact led_quiet hA (.agg #[.int .u8 t.1.1, .int .i64 t.1.2.1, .int .i64 t.1.2.2.1, .int .i64 t.1.2.2.2, .int .i64 t.2]) (run_loadL _ 28 (.tmp 6) rfl w.heap.size 0 (hA.old (d := 6) (by kernel_rfl) rfl) [.int .u8 t.1.1, .int .i64 t.1.2.1, .int .i64 t.1.2.2.1, .int .i64 t.1.2.2.2, .int .i64 t.2] _ (range_blk (K0.out.same (hA.bel.block _ K0.out.lt)) 0 _ (fun j v hj => by rw [Nat.zero_add]; simpa using hj)) Tryd.underlying28 rfl (by kernel_rfl)) (fun e => by cases e) fun s hs _ => hs
    | 6, ho =>
      obtain rfl := Option.some.inj ho
      exact led_quiet hA (.agg #[.int .u8 b.1, .int .i64 b.2]) (run_loadL _ 30 (.tmp 7) rfl (w.heap.size + 1) 0 (hA.old (d := 7) (by kernel_rfl) rfl) [.int .u8 b.1, .int .i64 b.2] _ (range_blk (K1.out.same (hA.bel.block _ K1.out.lt)) 0 _ (fun j v hj => by rw [Nat.zero_add]; simpa using hj)) Tryd.underlying30 rfl (by kernel_rfl)) (fun e => by cases e) fun s hs _ => hs
    | 7, ho =>
      obtain rfl := Option.some.inj ho
      obtain ⟨A1, c1, e1, o1, x1⟩ := hA.get 4 (by decide) (.inr rfl)
      have e2 := hA.get 5 (by decide) (.inl rfl)
      have e4 := hA.get 6 (by decide) (.inl rfl)
      rw [e1] at o1
      have sl := o1.sl'.2.wide (F' := Old w') fun k hk => hk.2
      have key := run_fresh A1 c1 (vs ++ ws) t b w' sl ht0 hb0
      rw [Hz.out] at key
      refine led_call hA 11 _ (fun v w'' => FreshPost (z, e3) w' (.returned v) w'') (Eq.trans (b := .ok (.enter 11 #[a.eval (.tmp 47), a.eval (.tmp 48), a.eval (.tmp 49)]) w') (by kernel_rfl) (by rw [(hA.val rfl).trans e1, (hA.val rfl).trans e2, (hA.val rfl).trans e4])) (fun e => by cases e) (key.mono fun e w'' hh => ?_) fun v w'' hR hb s hs _ => ?_
      · obtain ⟨A2, c2, B2, q2, he, h2, h3, h4⟩ := hh
        exact ⟨_, he, ⟨A2, c2, B2, q2, rfl, h2, h3, h4⟩, h4⟩
      · obtain ⟨A2, c2, B2, q2, he, h2, h3, h4⟩ := hR
        injection he with he
        exact ⟨A2, c2, B2, q2, hs.trans he, h2, h3⟩
    | 8, ho =>
      obtain rfl := Option.some.inj ho
      obtain ⟨A2, c2, B2, q2, e1, h2, h3⟩ := hA.get 7 (by decide) (.inr rfl)
      exact led_pass hA 7 rfl _ (run_moveL _ (.tmp 50) _ (.inl rfl) ((hA.val rfl).trans e1)) (fun e => by cases e) fun s hs _ => ⟨A2, c2, B2, q2, hs, h2, h3⟩
    | 9, ho =>
      obtain rfl := Option.some.inj ho
      obtain ⟨A2, c2, B2, q2, e1, h2, h3⟩ := hA.get 8 (by decide) (.inl rfl)
      exact led_quiet hA (.agg (rowTk A2 c2 B2 q2 z)) (run_extractL _ (.tmp 42) 0 rfl _ ((hA.val rfl).trans e1) rfl) (fun e => by cases e) fun s hs hk => ⟨A2, c2, B2, q2, (hk 8 (by decide)).trans e1, hs⟩
    | 10, ho =>
      obtain rfl := Option.some.inj ho
      obtain ⟨A2, c2, B2, q2, e1, h2, h3⟩ := hA.get 8 (by decide) (.inl rfl)
      exact led_quiet hA (.int .i64 e3) (run_extractL _ (.tmp 42) 1 rfl _ ((hA.val rfl).trans e1) rfl) (fun e => by cases e) fun s hs hk => hs
    | 11, ho =>
      obtain rfl := Option.some.inj ho
      exact led_new hA _ _ (run_allocT rfl _ w') (fun e => by cases e) fun s hs _ => ⟨_, hs, Blk.new _ _ _, rfl⟩
    | 12, ho =>
      obtain rfl := Option.some.inj ho
      obtain ⟨k, e1, n1, x1⟩ := hA.get 11 (by decide) (.inr rfl)
      obtain ⟨A2, c2, B2, q2, e8, e2⟩ := hA.get 9 (by decide) (.inl rfl)
      exact led_store hA 11 rfl 36 (.tmp 12) (.tmp 51) 0 zeroRow (rowTk A2 c2 B2 q2 z) (rowTk A2 c2 B2 q2 z) rfl ((hA.val rfl).trans e1) ((hA.val rfl).trans e2) n1 x1 (by kernel_rfl) (Nat.le_refl _) (by simp [Value.oneCell']) rfl rfl (fun s hk hb => ⟨k, A2, c2, B2, q2, (hk 11 (by decide)).trans e1, (hk 9 (by decide)).trans e2, hb, x1⟩) (by decide)
    | 13, ho =>
      obtain rfl := Option.some.inj ho
      exact led_quiet hA (.int .i64 e3) (run_moveL _ (.tmp 52) _ (.inr rfl) ((hA.val rfl).trans (hA.get 10 (by decide) (.inl rfl)))) (fun e => by cases e) fun s hs _ => hs
    | n + 14, ho =>
      have : (none : Option Oper) = some o := ho
      cases this

  case fin =>
    intro v X w6 hb6 hv
    obtain ⟨⟨A6, c6, B6, q6, v8, sl, sm⟩, x8⟩ := hv 8 (by simp) rfl
    obtain ⟨⟨A7, c7, B7, q7, v8', v9⟩, _⟩ := hv 9 (by simp) rfl
    obtain ⟨⟨g12, A8, c8, B8, q8, v11, v9', n12, _⟩, _⟩ := hv 12 (by simp) rfl
    have v13 : v 13 = .int .i64 e3 := (hv 13 (by simp) rfl).1
    have r1 := v8.symm.trans v8'
    have r2 := v9.symm.trans v9'
    simp only [Value.tuple.injEq, Value.agg.injEq, Array.mk.injEq, List.cons.injEq, Value.slice.injEq, and_true, true_and] at r1 r2
    obtain ⟨⟨rfl, rfl⟩, rfl, rfl⟩ := r1
    obtain ⟨⟨rfl, rfl⟩, rfl, rfl⟩ := r2
    have n10 := N10.out.same (hb6.block _ N10.out.lt)
    have sz := sl.wide (F' := Old w6) (fun k hk => (x8 k hk).2)
    have mz := sm.wide (F' := Old w6) (fun k hk => (x8 k hk).2)
    have slx := Slx.out.later hb6
    have smx := Smx.out.later hb6
    have k0 := K0.out.same (hb6.block _ K0.out.lt)
    have k1 := K1.out.same (hb6.block _ K1.out.lt)
    have tB := TB.out.trans (hb6.mono TB.out.size)
    simp only [putsV]
    rw [v11, v13]
    clear hv v8 v8' v9 v9' v11 v13 hb6 x8 sl sm
    rcases Law.out with ⟨rfl, rfl⟩ | ⟨rfl, rfl, rfl, hfx⟩ | ⟨rfl, rfl, rfl, hfx, hzz⟩
    · have TB := Lib.hid tB; clear tB
      go_wp2
      go_ret
      exact ⟨rfl, TB.out⟩
    all_goals
      have y0 := k0.cell 0
      have y1 := k0.cell 1
      have y2 := k0.cell 2
      have y3 := k0.cell 3
      have y4 := k0.cell 4
      have x0 := k1.cell 0
      have x1 := k1.cell 1
      have u2 := n10.cell 2
      have u3 := n10.cell 3
      have u4 := n10.cell 4
      have u5 := n10.cell 5
      have u6 := n10.cell 6
      have cr := run_fresh B cb ws (x.fr, x.drawn) b w6 (H1.out.later tB) hfx hb0
      unfold FreshPost at cr
      rw [Hy.out] at cr
      simp only at cr
      have N10 := Lib.hid n10; clear n10
      have Sz := Lib.hid sz; clear sz
      have Mz := Lib.hid mz; clear mz
      have Slx := Lib.hid slx; clear slx
      have Smx := Lib.hid smx; clear smx
      have K0 := Lib.hid k0; clear k0
      have K1 := Lib.hid k1; clear k1
      have TB := Lib.hid tB; clear tB
      have N12 := Lib.hid n12; clear n12
      have Cr := Lib.hid cr; clear cr
      go_wp2_with fail
      refine Cr.out.mono ?_
      rintro e w7 ⟨A9, c9, B9, p9, rfl, sl, sm, dd⟩
      obtain ⟨w8, hw⟩ : ∃ W, W = w7.alloc (.cells #[.slice A9 y.lines.length c9, .slice B9 y.marks.length p9, .int .u8 y.fr.1, .int .i64 y.fr.2.1, .int .i64 y.fr.2.2.1, .int .i64 y.fr.2.2.2, .int .i64 y.drawn] 36) := ⟨_, rfl⟩
      obtain ⟨g14, hg⟩ : ∃ k, k = w7.heap.size := ⟨_, rfl⟩
      have n14 : Blk w8 g14 36 #[.slice A9 y.lines.length c9, .slice B9 y.marks.length p9, .int .u8 y.fr.1, .int .i64 y.fr.2.1, .int .i64 y.fr.2.2.1, .int .i64 y.fr.2.2.2, .int .i64 y.drawn] := by rw [hw, hg]; exact Blk.new w7 _ _
      have d2 : RowKit.Below w7.heap.size w7 w8 := by rw [hw]; exact al1
      have d3 := dd.trans (d2.mono dd.size)
      have tB := TB.out.trans (d3.mono TB.out.size)
      have sly := (sl.wide (F' := Old w7) fun k hk => hk.2).later d2
      have smy := (sm.wide (F' := Old w7) fun k hk => hk.2).later d2
      have slx := Slx.out.later d3
      have smx := Smx.out.later d3
      have sz := Sz.out.later d3
      have mz := Mz.out.later d3
      have n10 := N10.out.same (d3.block _ N10.out.lt)
      have n12 := N12.out.same (d3.block _ N12.out.lt)
      clear y0 y1 y2 y3 y4 x0 x1 u2 u3 u4 u5 u6 sl sm dd d2 d3
      have N10 := Lib.hid n10; clear n10
      have N12 := Lib.hid n12; clear n12
      have N14 := Lib.hid n14; clear n14
      have Slx := Lib.hid slx; clear slx
      have Smx := Lib.hid smx; clear smx
      have Sly := Lib.hid sly; clear sly
      have Smy := Lib.hid smy; clear smy
      have Sz := Lib.hid sz; clear sz
      have Mz := Lib.hid mz; clear mz
      have TB := Lib.hid tB; clear tB
      go_upto_region 9 with fail
      (try rw [← hw, ← hg])
      clear hw hg
    · go_wp2
      go_ret
      exact ⟨rfl, TB.out⟩
    · go_upto_region 11 with fail
      have l1 := run_lens Cv.out ht0.u8.1 hb0 Hx.out lv
      have l2 := run_lens Cw.out hfx.u8.1 hb0 Hy.out lw
      have L1 := Lib.hid l1; clear l1
      have L2 := Lib.hid l2; clear l2
      refine wp_region_led (J11 w8 g10 g14 x y A4 c4 B4 p4 A9 c9 B9 p9) c11 D11 (by kernel_rfl) (by kernel_rfl) (J11_stab w8 g10 g14 x y A4 c4 B4 p4 A9 c9 B9 p9) ?step ?fin
      case step =>
        intro i o ho a w' X hA
        match i, ho with
        | 0, ho =>
          obtain rfl := Option.some.inj ho
          exact led_new hA _ _ (run_bs0 bs0_ln rfl _ w') (fun e => by cases e) fun s hs _ => ⟨by rw [hs]; exact Own.empty hA.bel.size, fun k hk => by rw [hs] at hk; injection hk with hk; exact hk.symm⟩
        | 1, ho =>
          obtain rfl := Option.some.inj ho
          exact led_quiet hA (.pointer (some ⟨g10, 0, none⟩)) (run_fieldL _ (.tmp 10) 0 g10 0 rfl (hA.old (d := 10) (by kernel_rfl) rfl) (by kernel_rfl)) (fun e => by cases e) fun s hs _ => hs
        | 2, ho =>
          obtain rfl := Option.some.inj ho
          exact led_quiet hA (.slice A4 x.lines.length c4) (run_cellL _ 33 _ (.tmp 84) rfl _ 0 ((hA.val rfl).trans (hA.get 1 (by decide) (.inl rfl))) Tryd.underlying33 (((N10.out.same (hA.bel.block _ N10.out.lt)).cell 0))) (fun e => by cases e) fun s hs _ => hs
        | 3, ho =>
          obtain rfl := Option.some.inj ho
          obtain ⟨o1, x1⟩ := hA.get 0 (by decide) (.inr rfl)
          exact led_cat hA 0 rfl 33 46 (.agg #[.int .i64 0, .int .i64 0, .int .i64 0, .int .i64 0, .int .i64 0, .int .i64 0, .int .i64 0]) 56 (.tmp 83) (.tmp 85) rfl Tryd.underlying33 info_lnL rfl (by decide) (hA.val rfl) o1 x1 A4 c4 x.lines ((hA.val rfl).trans (hA.get 2 (by decide) (.inl rfl))) (Old w8) (Slx.out.below hA.bel) (own_neq o1 hA.bel.size) x.lines.length rfl (room_of (by have := L1.out; omega)) (by decide) (fun e => by cases e) (fun _ => False) (fun b hb => hb.elim)
            fun A' c' w'' h1 h2 s hs hk => ⟨A', c', hs, by rw [hs]; exact h1, fun k hk => .inl (by rw [hs] at hk; exact hk)⟩
        | 4, ho =>
          obtain rfl := Option.some.inj ho
          exact led_quiet hA (.pointer (some ⟨g14, 0, none⟩)) (run_fieldL _ (.tmp 14) 0 g14 0 rfl (hA.old (d := 14) (by kernel_rfl) rfl) (by kernel_rfl)) (fun e => by cases e) fun s hs _ => hs
        | 5, ho =>
          obtain rfl := Option.some.inj ho
          exact led_quiet hA (.slice A9 y.lines.length c9) (run_cellL _ 33 _ (.tmp 87) rfl _ 0 ((hA.val rfl).trans (hA.get 4 (by decide) (.inl rfl))) Tryd.underlying33 (((N14.out.same (hA.bel.block _ N14.out.lt)).cell 0))) (fun e => by cases e) fun s hs _ => hs
        | 6, ho =>
          obtain rfl := Option.some.inj ho
          obtain ⟨A1, c1, e1, o1, x1⟩ := hA.get 3 (by decide) (.inr rfl)
          exact led_cat hA 3 rfl 33 46 (.agg #[.int .i64 0, .int .i64 0, .int .i64 0, .int .i64 0, .int .i64 0, .int .i64 0, .int .i64 0]) 56 (.tmp 86) (.tmp 88) rfl Tryd.underlying33 info_lnL rfl (by decide) (hA.val rfl) o1 x1 A9 c9 y.lines ((hA.val rfl).trans (hA.get 5 (by decide) (.inl rfl))) (Old w8) (Sly.out.below hA.bel) (own_neq o1 hA.bel.size) (x.lines ++ y.lines).length rfl (room_of (by have := L1.out; have := L2.out; rw [List.length_append]; omega)) (by decide) (fun e => by cases e) (fun _ => False) (fun b hb => hb.elim)
            fun A' c' w'' h1 h2 s hs hk => ⟨A', c', hs, by rw [hs]; exact h1, fun k hk => .inl (by rw [hs] at hk; exact hk)⟩
        | 7, ho =>
          obtain rfl := Option.some.inj ho
          exact led_new hA _ _ (run_bs0 bs0_mk rfl _ w') (fun e => by cases e) fun s hs _ => ⟨by rw [hs]; exact Own.empty hA.bel.size, fun k hk => by rw [hs] at hk; injection hk with hk; exact hk.symm⟩
        | 8, ho =>
          obtain rfl := Option.some.inj ho
          exact led_quiet hA (.pointer (some ⟨g10, 1, none⟩)) (run_fieldL _ (.tmp 10) 1 g10 1 rfl (hA.old (d := 10) (by kernel_rfl) rfl) (by kernel_rfl)) (fun e => by cases e) fun s hs _ => hs
        | 9, ho =>
          obtain rfl := Option.some.inj ho
          exact led_quiet hA (.slice B4 x.marks.length p4) (run_cellL _ 34 _ (.tmp 91) rfl _ 1 ((hA.val rfl).trans (hA.get 8 (by decide) (.inl rfl))) Tryd.underlying34 (((N10.out.same (hA.bel.block _ N10.out.lt)).cell 1))) (fun e => by cases e) fun s hs _ => hs
        | 10, ho =>
          obtain rfl := Option.some.inj ho
          obtain ⟨o1, x1⟩ := hA.get 7 (by decide) (.inr rfl)
          exact led_cat hA 7 rfl 34 65 (.agg #[.int .u8 0, .int .u8 0, .int .i64 0, .int .i64 0, .int .i64 0]) 40 (.tmp 90) (.tmp 92) rfl Tryd.underlying34 info_mkL rfl (by decide) (hA.val rfl) o1 x1 B4 p4 x.marks ((hA.val rfl).trans (hA.get 9 (by decide) (.inl rfl))) (Old w8) (Smx.out.below hA.bel) (own_neq o1 hA.bel.size) x.marks.length rfl (room_of (by have := L1.out; omega)) (by decide) (fun e => by cases e) (fun _ => False) (fun b hb => hb.elim)
            fun A' c' w'' h1 h2 s hs hk => ⟨A', c', hs, by rw [hs]; exact h1, fun k hk => .inl (by rw [hs] at hk; exact hk)⟩
        | 11, ho =>
          obtain rfl := Option.some.inj ho
          exact led_quiet hA (.pointer (some ⟨g14, 1, none⟩)) (run_fieldL _ (.tmp 14) 1 g14 1 rfl (hA.old (d := 14) (by kernel_rfl) rfl) (by kernel_rfl)) (fun e => by cases e) fun s hs _ => hs
        | 12, ho =>
          obtain rfl := Option.some.inj ho
          exact led_quiet hA (.slice B9 y.marks.length p9) (run_cellL _ 34 _ (.tmp 94) rfl _ 1 ((hA.val rfl).trans (hA.get 11 (by decide) (.inl rfl))) Tryd.underlying34 (((N14.out.same (hA.bel.block _ N14.out.lt)).cell 1))) (fun e => by cases e) fun s hs _ => hs
        | 13, ho =>
          obtain rfl := Option.some.inj ho
          obtain ⟨A1, c1, e1, o1, x1⟩ := hA.get 10 (by decide) (.inr rfl)
          exact led_cat hA 10 rfl 34 65 (.agg #[.int .u8 0, .int .u8 0, .int .i64 0, .int .i64 0, .int .i64 0]) 40 (.tmp 93) (.tmp 95) rfl Tryd.underlying34 info_mkL rfl (by decide) (hA.val rfl) o1 x1 B9 p9 y.marks ((hA.val rfl).trans (hA.get 12 (by decide) (.inl rfl))) (Old w8) (Smy.out.below hA.bel) (own_neq o1 hA.bel.size) (x.marks ++ y.marks).length rfl (room_of (by have := L1.out; have := L2.out; rw [List.length_append]; omega)) (by decide) (fun e => by cases e) (fun _ => False) (fun b hb => hb.elim)
            fun A' c' w'' h1 h2 s hs hk => ⟨A', c', hs, by rw [hs]; exact h1, fun k hk => .inl (by rw [hs] at hk; exact hk)⟩
        | 14, ho =>
          obtain rfl := Option.some.inj ho
          exact led_quiet hA (.pointer (some ⟨g14, 2, none⟩)) (run_fieldL _ (.tmp 14) 2 g14 2 rfl (hA.old (d := 14) (by kernel_rfl) rfl) (by kernel_rfl)) (fun e => by cases e) fun s hs _ => hs
        | 15, ho =>
          obtain rfl := Option.some.inj ho
          exact led_quiet hA (.agg #[.int .u8 y.fr.1, .int .i64 y.fr.2.1, .int .i64 y.fr.2.2.1, .int .i64 y.fr.2.2.2, .int .i64 y.drawn]) (run_loadL _ 28 (.tmp 97) rfl g14 2 ((hA.val rfl).trans (hA.get 14 (by decide) (.inl rfl))) [.int .u8 y.fr.1, .int .i64 y.fr.2.1, .int .i64 y.fr.2.2.1, .int .i64 y.fr.2.2.2, .int .i64 y.drawn] _ (range_blk (N14.out.same (hA.bel.block _ N14.out.lt)) 2 _ (fun j v hj => by rw [Nat.add_comm]; simpa using hj)) Tryd.underlying28 rfl (by kernel_rfl)) (fun e => by cases e) fun s hs _ => hs
        | 16, ho =>
          obtain rfl := Option.some.inj ho
          obtain ⟨A1, c1, e1, _, _⟩ := hA.get 6 (by decide) (.inl rfl)
          obtain ⟨B1, d1, e2, _, _⟩ := hA.get 13 (by decide) (.inl rfl)
          exact led_quiet hA (.agg #[.slice A1 (x.lines ++ y.lines).length c1, .slice B1 (x.marks ++ y.marks).length d1, .int .u8 y.fr.1, .int .i64 y.fr.2.1, .int .i64 y.fr.2.2.1, .int .i64 y.fr.2.2.2, .int .i64 y.drawn]) (run_buildTk _ (.tmp 89) (.tmp 96) (.tmp 98) rfl ((hA.val rfl).trans e1) ((hA.val rfl).trans e2) ((hA.val rfl).trans (hA.get 15 (by decide) (.inl rfl)))) (fun e => by cases e) fun s hs hk => ⟨A1, c1, B1, d1, (hk 6 (by decide)).trans e1, (hk 13 (by decide)).trans e2, hs⟩
        | 17, ho =>
          obtain rfl := Option.some.inj ho
          exact led_new hA _ _ (run_allocT rfl _ w') (fun e => by cases e) fun s hs _ => ⟨_, hs, Blk.new _ _ _, rfl⟩
        | 18, ho =>
          obtain rfl := Option.some.inj ho
          obtain ⟨k, e1, n1, x1⟩ := hA.get 17 (by decide) (.inr rfl)
          obtain ⟨A2, c2, B2, q2, e6, e13, e2⟩ := hA.get 16 (by decide) (.inl rfl)
          exact led_store hA 17 rfl 36 (.tmp 16) (.tmp 99) 0 zeroRow #[.slice A2 (x.lines ++ y.lines).length c2, .slice B2 (x.marks ++ y.marks).length q2, .int .u8 y.fr.1, .int .i64 y.fr.2.1, .int .i64 y.fr.2.2.1, .int .i64 y.fr.2.2.2, .int .i64 y.drawn] #[.slice A2 (x.lines ++ y.lines).length c2, .slice B2 (x.marks ++ y.marks).length q2, .int .u8 y.fr.1, .int .i64 y.fr.2.1, .int .i64 y.fr.2.2.1, .int .i64 y.fr.2.2.2, .int .i64 y.drawn] rfl ((hA.val rfl).trans e1) ((hA.val rfl).trans e2) n1 x1 (by kernel_rfl) (Nat.le_refl _) (by simp [Value.oneCell']) rfl rfl (fun s hk hb => ⟨k, A2, c2, B2, q2, (hk 17 (by decide)).trans e1, (hk 16 (by decide)).trans e2, hb, x1⟩) (by decide)
        | n + 19, ho =>
          have : (none : Option Oper) = some o := ho
          cases this
      case fin =>
        intro v X w9 hb9 hv
        obtain ⟨⟨A1, c1, B1, d1, v6, v13, v16⟩, _⟩ := hv 16 (by simp) rfl
        obtain ⟨⟨A2, c2, v6', o6, _⟩, _⟩ := hv 6 (by simp) rfl
        obtain ⟨⟨B2, q2, v13', o13, _⟩, _⟩ := hv 13 (by simp) rfl
        obtain ⟨⟨g16, A3, c3, B3, q3, v17, v16', n16, _⟩, _⟩ := hv 18 (by simp) rfl
        have r1 := v6.symm.trans v6'
        have r2 := v13.symm.trans v13'
        have r3 := v16.symm.trans v16'
        simp only [Value.agg.injEq, Array.mk.injEq, List.cons.injEq, Value.slice.injEq, and_true, true_and] at r1 r2 r3
        obtain ⟨rfl, rfl⟩ := r1
        obtain ⟨rfl, rfl⟩ := r2
        obtain ⟨⟨rfl, rfl⟩, rfl, rfl⟩ := r3
        rw [v6] at o6
        rw [v13] at o13
        have sb := o6.sl'.2.wide (F' := Old w9) fun k hk => hk.2
        have mb := o13.sl'.2.wide (F' := Old w9) fun k hk => hk.2
        have n12 := N12.out.same (hb9.block _ N12.out.lt)
        have sz := Sz.out.later hb9
        have mz := Mz.out.later hb9
        have tB := TB.out.trans (hb9.mono TB.out.size)
        simp only [putsV]
        rw [v17]
        have e1 : x.lines ++ y.lines = z.lines := by rw [hzz.out]
        have e2 : x.marks ++ y.marks = z.marks := by rw [hzz.out]
        have e3 : y.fr = z.fr := by rw [hzz.out]
        have e4 : y.drawn = z.drawn := by rw [hzz.out]
        rw [e1, e2, e3, e4] at n16
        rw [List.nil_append, e1] at sb
        rw [List.nil_append, e2] at mb
        clear e1 e2 e3 e4
        clear hv v6 v6' v13 v13' v16 v16' v17 o6 o13 hb9
        have cs := rTSame_calls A6 c6 B6 q6 z A1 c1 B1 d1 z w9 sz mz sb mb
        rw [decide_eq_true rfl] at cs
        have a0 := n12.cell 0
        have a1 := n12.cell 1
        have a2 := n12.cell 2
        have a3 := n12.cell 3
        have a4 := n12.cell 4
        have a5 := n12.cell 5
        have a6 := n12.cell 6
        have b0 := n16.cell 0
        have b1 := n16.cell 1
        have b2 := n16.cell 2
        have b3 := n16.cell 3
        have b4 := n16.cell 4
        have b5 := n16.cell 5
        have b6 := n16.cell 6
        have Cs := Lib.hid cs; clear cs
        have TB := Lib.hid tB; clear tB
        have Sz := Lib.hid sz; clear sz
        have Mz := Lib.hid mz; clear mz
        have Sb := Lib.hid sb; clear sb
        have Mb := Lib.hid mb; clear mb
        have N12 := Lib.hid n12; clear n12
        have N16 := Lib.hid n16; clear n16
        go_wp2_with fail
        refine Cs.out.mono ?_
        rintro e w10 ⟨rfl, d7⟩
        have tB := TB.out.trans (d7.mono TB.out.size)
        clear a0 a1 a2 a3 a4 a5 a6 b0 b1 b2 b3 b4 b5 b6 d7
        have TB := Lib.hid tB; clear tB
        go_wp2
        go_ret
        exact ⟨rfl, TB.out⟩
end Go.Proofs.YtldccpmnboebmaaDoor
