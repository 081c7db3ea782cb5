/-
  TurtleBends, the walk of the law: it returns true.
-/
import Derived.Test.YtldccpmnboebmaaDoorBc
import Derived.Test.YtldccpmnboebmaaDoorAe
import Derived.Test.YtldccpmnboebmaaDoorAm
namespace Go.Proofs.YtldccpmnboebmaaDoor
open Go.RowKit Go.Sort
set_option linter.unusedVariables false

/-- the law, told of the values -/
theorem bend_cases {ms : List Mod} {t : Tur} {d : Int} (hw : checkF ms = 0) (hl : ms.length ≤ 300) (h : FitT t (d, 0)) (ht0 : 0 ≤ t.1.1) (hd0 : 0 ≤ d) {z : Trk} {e : Int} (h1 : runT (ms ++ [(⟨70, [0]⟩ : Mod)]) t (d, 1) = (z, e)) :
    e = 16 ∨ (e = 0 ∧ ∃ n : Nat, n < 24 ∧ z.fr.1 = n ∧ Hid (dotV (axT n).1 (dirV d.toNat) ≠ 0)) := by
  have hf : FitT t (d, 1) := ⟨h.1, h.2.1, h.2.2.1, h.2.2.2.1, by show (0 : Int) ≤ 1; decide, by show (1 : Int) ≤ 1000000; decide⟩
  obtain ⟨hc, hb⟩ := bend_end hw (by omega) hf ht0 hd0
  have he := runT_err hc hf
  rw [h1] at he hb
  by_cases h0 : e = 0
  · obtain ⟨⟨b1, b2⟩, b3⟩ := hb h0
    obtain ⟨n, hn⟩ := Int.eq_ofNat_of_zero_le b1
    simp only at hn b2 b3
    rw [hn] at b3
    exact .inr ⟨h0, n, by omega, hn, b3⟩
  · exact .inl (he.resolve_left h0)
theorem run_bs1F {o : Oper} (ho : o.op = .buildSlice 42 1 #[(0, .const (.int .i64 0))]) (a : Act) (w : World) : (execOp a.eval o).run Tryd.prog w = .ok (.value (.slice (some ⟨w.heap.size, 0, none⟩) 1 1)) (w.alloc (.cells #[.int .i64 0] 3)) := by
  unfold execOp
  simp only [ho, List.map_toArray, List.map_cons, List.map_nil]
  kernel_rfl
theorem run_bs1M {o : Oper} {x : Operand} (ho : o.op = .buildSlice 22 1 #[(0, x)]) (a : Act) (w : World) {k : Nat} (hx : a.eval x = .agg #[.int .u8 70, .slice (some ⟨k, 0, none⟩) 1 1]) : (execOp a.eval o).run Tryd.prog w = .ok (.value (.slice (some ⟨w.heap.size, 0, none⟩) 1 1)) (w.alloc (.cells #[.int .u8 70, .slice (some ⟨k, 0, none⟩) 1 1] 44)) := by
  unfold execOp
  simp only [ho, List.map_toArray, List.map_cons, List.map_nil, hx]
  kernel_rfl
theorem run_bldM {o : Oper} {x : Operand} (ho : o.op = .build 44 #[(0, .const (.int .u8 70)), (1, x)]) (a : Act) (w : World) {k : Nat} (hx : a.eval x = .slice (some ⟨k, 0, none⟩) 1 1) : (execOp a.eval o).run Tryd.prog w = .ok (.value (.agg #[.int .u8 70, .slice (some ⟨k, 0, none⟩) 1 1])) w := by
  unfold execOp
  simp only [ho, List.map_toArray, List.map_cons, List.map_nil, hx]
  kernel_rfl
theorem run_bldT {o : Oper} {x : Operand} (ho : o.op = .build 30 #[(0, x), (1, .const (.int .i64 1))]) (a : Act) (w : World) {d : Int} (hx : a.eval x = .int .u8 d) : (execOp a.eval o).run Tryd.prog w = .ok (.value (.agg #[.int .u8 d, .int .i64 1])) w := by
  unfold execOp
  simp only [ho, List.map_toArray, List.map_cons, List.map_nil, hx]
  kernel_rfl
theorem dirV_unitB : ∀ d : Fin 6, unitV (dirV d.val) = true := by decide +kernel
/-- region 8: a step of no length is put behind the word; it is run -/
def J8 (W : World) (A : Option Addr) (c : Nat) (ms : List Mod) (t : Tur) (d : Int) (z : Trk) (g : Int) : Nat → (Nat → Prop) → (Nat → Value) → World → Prop
  | 0, X, s, w => Own pMod 44 W.heap.size (Old W) w (s 0) [] ∧ (∀ k, (s 0).ownBlock = some k → X k)
  | 1, X, s, w => s 1 = .slice A ms.length c
  | 2, X, s, w => ∃ A' c', s 2 = .slice A' ms.length c' ∧ Own pMod 44 W.heap.size (Old W) w (s 2) ([] ++ ms) ∧ ∀ k, (s 2).ownBlock = some k → X k
  | 3, X, s, w => ∃ k, s 3 = .slice (some ⟨k, 0, none⟩) 1 1 ∧ Blk w k 3 #[.int .i64 0] ∧ X k
  | 4, X, s, w => ∃ k, s 4 = .agg #[.int .u8 70, .slice (some ⟨k, 0, none⟩) 1 1] ∧ Blk w k 3 #[.int .i64 0] ∧ X k
  | 5, X, s, w => ∃ k j, s 5 = .slice (some ⟨j, 0, none⟩) 1 1 ∧ Blk w j 44 #[.int .u8 70, .slice (some ⟨k, 0, none⟩) 1 1] ∧ Blk w k 3 #[.int .i64 0] ∧ X k ∧ X j
  | 6, X, s, w => ∃ A' c' k j, s 6 = .slice A' (ms.length + 1) c' ∧ Own pMod 44 W.heap.size (fun q => Old W q ∨ q = k ∨ q = j) w (s 6) ([] ++ ms ++ [(⟨70, [0]⟩ : Mod)]) ∧ X k ∧ X j ∧ ∀ q, (s 6).ownBlock = some q → X q
  | 7, X, s, w => s 7 = .agg #[.int .u8 t.1.1, .int .i64 t.1.2.1, .int .i64 t.1.2.2.1, .int .i64 t.1.2.2.2, .int .i64 t.2]
  | 8, X, s, w => s 8 = .int .u8 d
  | 9, X, s, w => s 9 = .agg #[.int .u8 d, .int .i64 1]
  | 10, X, s, w => ∃ A' c' B' q', s 10 = .tuple #[.agg (rowTk A' c' B' q' z), .int .i64 g]
  | 11, X, s, w => ∃ A' c' B' q', s 11 = .tuple #[.agg (rowTk A' c' B' q' z), .int .i64 g]
  | 12, X, s, w => ∃ A' c' B' q', s 12 = .agg (rowTk A' c' B' q' z)
  | 13, X, s, w => s 13 = .int .i64 g
  | 14, X, s, w => ∃ k, s 14 = .pointer (some ⟨k, 0, none⟩) ∧ Blk w k 36 zeroRow ∧ X k
  | 15, X, s, w => ∃ k A' c' B' q', s 14 = .pointer (some ⟨k, 0, none⟩) ∧ Blk w k 36 (rowTk A' c' B' q' z) ∧ X k
  | 16, X, s, w => s 16 = .int .i64 g
  | _, _, _, _ => True

def c8 : List (Option Nat) := [some 2, none, some 6, some 4, some 5, some 6, none, none, none, none, none, none, none, none, some 15, none, none]
def D8 : List (List Nat) := [[], [], [0, 1], [], [3], [4], [2, 5], [], [], [8], [6, 7, 9], [10], [11], [11], [], [14, 12], [13]]
theorem J8_stab (W : World) (A : Option Addr) (c : Nat) (ms : List Mod) (t : Tur) (d : Int) (z : Trk) (g : Int) (i : Nat) (X : Nat → Prop) (s s' : Nat → Value) (w w' : World) (h : J8 W A c ms t d z g i X s w) (hi : s' i = s i) (hd : ∀ k, k ∈ D8.getD i [] → s' k = s k) (hb : RowKit.Below W.heap.size W w) (hb' : RowKit.Below W.heap.size W w') (hs : w.heap.size ≤ w'.heap.size) (hX : ∀ k, X k → k < w.heap.size) (hk : ∀ k, X k → w'.heap[k]? = w.heap[k]?) : J8 W A c ms t d z g i X s' w' := by
  have hG : ∀ k, Old W k → w'.heap[k]? = w.heap[k]? := fun k hk => (hb'.block k hk).trans (hb.block k hk).symm
  match i, h, hi, hd with
  | 0, ⟨h1, h2⟩, hi, _ => exact ⟨by rw [hi]; exact own_keepL h1 h2 hs hG hk, by rw [hi]; exact h2⟩
  | 1, h, hi, _ => exact hi.trans h
  | 2, ⟨A', c', h1, h2, h3⟩, hi, _ => exact ⟨A', c', hi.trans h1, by rw [hi]; exact own_keepL h2 h3 hs hG hk, by rw [hi]; exact h3⟩
  | 3, ⟨k, h1, h2, h3⟩, hi, _ => exact ⟨k, hi.trans h1, h2.same (hk k h3), h3⟩
  | 4, ⟨k, h1, h2, h3⟩, hi, _ => exact ⟨k, hi.trans h1, h2.same (hk k h3), h3⟩
  | 5, ⟨k, j, h1, h2, h3, h4, h5⟩, hi, _ => exact ⟨k, j, hi.trans h1, h2.same (hk j h5), h3.same (hk k h4), h4, h5⟩
  | 6, ⟨A', c', k, j, h1, h2, h3, h4, h5⟩, hi, _ => exact ⟨A', c', k, j, hi.trans h1, by rw [hi]; exact own_keepL h2 h5 hs (fun (b : Nat) (hb : Old W b ∨ b = k ∨ b = j) => hb.elim (hG b) fun hb => hb.elim (fun e => by rw [e]; exact hk _ h3) (fun e => by rw [e]; exact hk _ h4)) hk, h3, h4, by rw [hi]; exact h5⟩
  | 7, h, hi, _ => exact hi.trans h
  | 8, h, hi, _ => exact hi.trans h
  | 9, h, hi, _ => exact hi.trans h
  | 10, ⟨A', c', B', q', h1⟩, hi, _ => exact ⟨A', c', B', q', hi.trans h1⟩
  | 11, ⟨A', c', B', q', h1⟩, hi, _ => exact ⟨A', c', B', q', hi.trans h1⟩
  | 12, ⟨A', c', B', q', h1⟩, hi, _ => exact ⟨A', c', B', q', hi.trans h1⟩
  | 13, h, hi, _ => exact hi.trans h
  | 14, ⟨k, h1, h2, h3⟩, hi, _ => exact ⟨k, hi.trans h1, h2.same (hk k h3), h3⟩
  | 15, ⟨k, A', c', B', q', h1, h3, h4⟩, hi, hd => exact ⟨k, A', c', B', q', (hd 14 (by decide)).trans h1, h3.same (hk k h4), h4⟩
  | 16, h, hi, _ => exact hi.trans h
  | n + 17, _, _, _ => exact trivial
theorem stepF_sl {w : World} {j k : Nat} {t1 t2 : TypeId} (h1 : Blk w j t1 #[.int .u8 70, .slice (some ⟨k, 0, none⟩) 1 1]) (h2 : Blk w k t2 #[.int .i64 0]) : SlAt pMod (fun q => q = k ∨ q = j) w (some ⟨j, 0, none⟩) 1 [(⟨70, [0]⟩ : Mod)] := by
  have hi : SlAt (pI .i64) (fun q => q = k ∨ q = j) w (some ⟨k, 0, none⟩) 1 [0] := sl_lit h2 (CellsAre.one (E := pI .i64) (x := (0 : Int)) ⟨rfl, fits_i64 (by decide)⟩) (.inl rfl) (by unfold maxLen; simp) rfl
  exact sl_lit h1 (CellsAre.one (E := pMod) (x := (⟨70, [0]⟩ : Mod)) ⟨some ⟨k, 0, none⟩, 1, rfl, fits_u8 (by decide), hi⟩) (.inr rfl) (by unfold maxLen; simp) rfl
set_option maxRecDepth 100000 in
set_option maxHeartbeats 8000000 in
theorem turtleBends_walk (A : Option Addr) (c : Nat) (ms : List Mod) (t : Tur) (d : Int) (w : World) (h : SlAt pMod (Old w) w A c ms) (ht0 : Fits .u8 t.1.1) (hd : Fits .u8 d) (hL : LibAt w) : Calls Tryd.prog 5 #[.slice A ms.length c, .agg #[.int .u8 t.1.1, .int .i64 t.1.2.1, .int .i64 t.1.2.2.1, .int .i64 t.1.2.2.2, .int .i64 t.2], .int .u8 d] w (OkPost w) := by
  have q1 := h.lenle
  have hd0 := hd.u8.1
  obtain ⟨W, hW⟩ : ∃ W, W = w.alloc (.cells #[.int .u8 t.1.1, .int .i64 t.1.2.1, .int .i64 t.1.2.2.1, .int .i64 t.1.2.2.2, .int .i64 t.2] 28) := ⟨_, rfl⟩
  have b0 : Blk W w.heap.size 28 #[.int .u8 t.1.1, .int .i64 t.1.2.1, .int .i64 t.1.2.2.1, .int .i64 t.1.2.2.2, .int .i64 t.2] := by rw [hW]; exact Blk.new w _ _
  have t0 : RowKit.Below w.heap.size w W := by rw [hW]; exact al1
  have al := alive_calls W (hL.later t0)
  have B0 := Lib.hid b0; clear b0
  have T0 := Lib.hid t0; clear t0
  have H := Lib.hid h; clear h
  have Al := Lib.hid al; clear al
  have HL := Lib.hid hL; clear hL
  go_enter Tryd.func5, Tryd.ntmps5
  go_wp2_with fail
  (try rw [← hW])
  clear hW
  refine Al.out.mono ?_
  rintro e w1 ⟨rfl, d1⟩
  have k0 := B0.out.same (d1.block _ B0.out.lt)
  have tB := T0.out.trans (d1.mono T0.out.size)
  clear d1
  have y0 := k0.cell 0
  have y1 := k0.cell 1
  have y2 := k0.cell 2
  have y3 := k0.cell 3
  have y4 := k0.cell 4

  have cf := fit_calls A c ms t (d, 0) w1 (H.out.later tB)
  obtain ⟨z1, hz1⟩ : ∃ z, fitB ms t (d, 0) = z := ⟨_, rfl⟩
  rw [hz1] at cf
  have K0 := Lib.hid k0; clear k0
  have TB := Lib.hid tB; clear tB
  have Cf := Lib.hid cf; clear cf
  have Hz1 := Lib.hid hz1; clear hz1
  go_wp2_with fail
  refine Cf.out.mono ?_
  rintro e w2 ⟨rfl, d1⟩
  have k0 := K0.out.same (d1.block _ K0.out.lt)
  have tB := TB.out.trans (d1.mono TB.out.size)
  clear d1 y0 y1 y2 y3 y4
  cases z1
  case false =>
    have TB := Lib.hid tB; clear tB
    go_wp2
    go_ret
    exact ⟨rfl, TB.out⟩
  case true =>
  have y0 := k0.cell 0
  have y1 := k0.cell 1
  have y2 := k0.cell 2
  have y3 := k0.cell 3
  have y4 := k0.cell 4

  obtain ⟨lv, cv, fv⟩ := fitB_yes Hz1.out
  obtain ⟨⟨x, e1⟩, hx⟩ : ∃ r, runT ms t (0, 0) = r := ⟨_, rfl⟩
  obtain ⟨⟨y, e2⟩, hy⟩ : ∃ r, runT ms t (d, 1000000) = r := ⟨_, rfl⟩
  obtain ⟨⟨z, e3⟩, hz⟩ : ∃ r, runT (ms ++ [(⟨70, [0]⟩ : Mod)]) t (d, 1) = r := ⟨_, rfl⟩
  have law := bend_cases cv lv fv ht0.u8.1 hd0 hz
  have nev : t.2 + ms.length < 1000000 → (x, e1) = (y, e2) := fun hlt => by rw [← hx, ← hy]; exact never_law cv fv hlt
  have hd5 : d ≤ 5 := fv.2.2.2.1
  have td0 : 0 ≤ t.2 := fv.2.1
  have td1 : t.2 ≤ 1000000 := fv.2.2.1
  have Hx := Lib.hid hx; clear hx
  have Hy := Lib.hid hy; clear hy
  have Hz := Lib.hid hz; clear hz
  have Law := Lib.hid law; clear law
  have Nev := Lib.hid nev; clear nev
  have Cv := Lib.hid cv; clear cv
  have Fv := Lib.hid fv; clear fv
  have cr := run_fresh A c ms t (0, 0) w2 (H.out.later tB) ht0 (by decide)
  unfold FreshPost at cr
  rw [Hx.out] at cr
  simp only at cr
  have K0 := Lib.hid k0; clear k0
  have TB := Lib.hid tB; clear tB
  have Cr := Lib.hid cr; clear cr
  go_wp2_with fail
  refine Cr.out.mono ?_
  rintro e w3 ⟨A2, c2, B2, p2, rfl, sl, sm, dd⟩
  obtain ⟨w4, hw⟩ : ∃ W, W = w3.alloc (.cells #[.slice A2 x.lines.length c2, .slice B2 x.marks.length p2, .int .u8 x.fr.1, .int .i64 x.fr.2.1, .int .i64 x.fr.2.2.1, .int .i64 x.fr.2.2.2, .int .i64 x.drawn] 36) := ⟨_, rfl⟩
  obtain ⟨g8, hg⟩ : ∃ k, k = w3.heap.size := ⟨_, rfl⟩
  have ng8 : Blk w4 g8 36 #[.slice A2 x.lines.length c2, .slice B2 x.marks.length p2, .int .u8 x.fr.1, .int .i64 x.fr.2.1, .int .i64 x.fr.2.2.1, .int .i64 x.fr.2.2.2, .int .i64 x.drawn] := by rw [hw, hg]; exact Blk.new w3 _ _
  have d2 : RowKit.Below w3.heap.size w3 w4 := by rw [hw]; exact al1
  have d3 := dd.trans (d2.mono dd.size)
  have k0 := K0.out.same (d3.block _ K0.out.lt)
  have tB := TB.out.trans (d3.mono TB.out.size)
  have slg8 := (sl.wide (F' := Old w3) fun k hk => hk.2).later d2
  have smg8 := (sm.wide (F' := Old w3) fun k hk => hk.2).later d2
  clear y0 y1 y2 y3 y4 sl sm dd d2 d3
  have Ng8 := Lib.hid ng8; clear ng8
  have Slg8 := Lib.hid slg8; clear slg8
  have Smg8 := Lib.hid smg8; clear smg8
  have y0 := k0.cell 0
  have y1 := k0.cell 1
  have y2 := k0.cell 2
  have y3 := k0.cell 3
  have y4 := k0.cell 4
  have K0 := Lib.hid k0; clear k0
  have TB := Lib.hid tB; clear tB

  go_upto_region 5 with fail
  (try rw [← hw, ← hg])
  clear hw hg
  have tB := TB.out
  have cr := run_fresh A c ms t (d, 1000000) w4 (H.out.later tB) ht0 hd0
  unfold FreshPost at cr
  rw [Hy.out] at cr
  simp only at cr
  have k0 := K0.out
  have K0 := Lib.hid k0; clear k0
  have TB := Lib.hid tB; clear tB
  have Cr := Lib.hid cr; clear cr
  go_wp2_with fail
  refine Cr.out.mono ?_
  rintro e w5 ⟨A4, c4, B4, p4, rfl, sl, sm, dd⟩
  obtain ⟨w6, hw⟩ : ∃ W, W = w5.alloc (.cells #[.slice A4 y.lines.length c4, .slice B4 y.marks.length p4, .int .u8 y.fr.1, .int .i64 y.fr.2.1, .int .i64 y.fr.2.2.1, .int .i64 y.fr.2.2.2, .int .i64 y.drawn] 36) := ⟨_, rfl⟩
  obtain ⟨g10, hg⟩ : ∃ k, k = w5.heap.size := ⟨_, rfl⟩
  have ng10 : Blk w6 g10 36 #[.slice A4 y.lines.length c4, .slice B4 y.marks.length p4, .int .u8 y.fr.1, .int .i64 y.fr.2.1, .int .i64 y.fr.2.2.1, .int .i64 y.fr.2.2.2, .int .i64 y.drawn] := by rw [hw, hg]; exact Blk.new w5 _ _
  have d2 : RowKit.Below w5.heap.size w5 w6 := by rw [hw]; exact al1
  have d3 := dd.trans (d2.mono dd.size)
  have k0 := K0.out.same (d3.block _ K0.out.lt)
  have tB := TB.out.trans (d3.mono TB.out.size)
  have slg10 := (sl.wide (F' := Old w5) fun k hk => hk.2).later d2
  have smg10 := (sm.wide (F' := Old w5) fun k hk => hk.2).later d2
  have ng8 := Ng8.out.same (d3.block _ Ng8.out.lt)
  have slg8 := Slg8.out.later d3
  have smg8 := Smg8.out.later d3
  clear y0 y1 y2 y3 y4 sl sm dd d2 d3
  have Ng10 := Lib.hid ng10; clear ng10
  have Slg10 := Lib.hid slg10; clear slg10
  have Smg10 := Lib.hid smg10; clear smg10
  have Ng8 := Lib.hid ng8; clear ng8
  have Slg8 := Lib.hid slg8; clear slg8
  have Smg8 := Lib.hid smg8; clear smg8
  have y0 := k0.cell 0
  have y1 := k0.cell 1
  have y2 := k0.cell 2
  have y3 := k0.cell 3
  have y4 := k0.cell 4
  have K0 := Lib.hid k0; clear k0
  have TB := Lib.hid tB; clear tB

  go_upto_region 6 with fail
  (try rw [← hw, ← hg])
  clear hw hg
  have iw : IntKind.i64.wrap (t.2 + (ms.length : Int)) = t.2 + (ms.length : Int) := IntWalk.i64_in _ (by omega)
  have out : ∀ wq : World, RowKit.Below w.heap.size w wq → True := fun _ _ => trivial
  by_cases hlt : t.2 + (ms.length : Int) < 1000000
  case' pos =>
    have hnv := Nev.out hlt
    injection hnv with hn1 hn2
    subst hn1 hn2
    have a0 := Ng8.out.cell 0
    have a1 := Ng8.out.cell 1
    have a2 := Ng8.out.cell 2
    have a3 := Ng8.out.cell 3
    have a4 := Ng8.out.cell 4
    have a5 := Ng8.out.cell 5
    have a6 := Ng8.out.cell 6
    have b0 := Ng10.out.cell 0
    have b1 := Ng10.out.cell 1
    have b2 := Ng10.out.cell 2
    have b3 := Ng10.out.cell 3
    have b4 := Ng10.out.cell 4
    have b5 := Ng10.out.cell 5
    have b6 := Ng10.out.cell 6
    have e11 : (e1 != e1) = false := by simp
    have cs := rTSame_calls A2 c2 B2 p2 x A4 c4 B4 p4 x w6 Slg8.out Smg8.out Slg10.out Smg10.out
    rw [decide_eq_true rfl] at cs
    have Cs := Lib.hid cs; clear cs
    go_wp2_with fail
    refine Cs.out.mono ?_
    rintro e w7 ⟨rfl, d7⟩
    clear a0 a1 a2 a3 a4 a5 a6 b0 b1 b2 b3 b4 b5 b6 e11 y0 y1 y2 y3 y4
    have k0 := K0.out.same (d7.block _ K0.out.lt)
    have tB := TB.out.trans (d7.mono TB.out.size)
    clear d7 hlt iw
    have K0 := Lib.hid k0; clear k0
    have TB := Lib.hid tB; clear tB
    go_upto_region 8 with fail
  case' neg =>
    obtain ⟨w7, hw7⟩ : ∃ W, W = w6 := ⟨_, rfl⟩
    subst hw7
    clear iw
    go_upto_region 8 with fail
    clear y0 y1 y2 y3 y4 hlt
  all_goals
    clear out
    refine wp_region_led (J8 w7 A c ms t d z e3) c8 D8 (by kernel_rfl) (by kernel_rfl) (J8_stab w7 A c ms t d z e3) ?step ?fin
    case step =>
      intro i o ho a w' X hA
      match i, ho with
      | 0, ho =>
        obtain rfl := Option.some.inj ho
        exact led_new hA _ _ (run_bs0 bs0_mod rfl _ w') (fun e => by cases e) fun s hs _ => ⟨by rw [hs]; exact Own.empty hA.bel.size, fun k hk => by rw [hs] at hk; injection hk with hk; exact hk.symm⟩
      | 1, ho =>
        obtain rfl := Option.some.inj ho
        exact led_quiet hA (.slice A ms.length c) (run_moveL _ (.tmp 0) _ (.inl rfl) (hA.old (d := 0) (by kernel_rfl) rfl)) (fun e => by cases e) fun s hs _ => hs
      | 2, ho =>
        obtain rfl := Option.some.inj ho
        obtain ⟨o1, x1⟩ := hA.get 0 (by decide) (.inr rfl)
        exact led_cat hA 0 rfl 22 44 (.agg #[.int .u8 0, .slice none 0 0]) 32 (.tmp 61) (.tmp 62) rfl Tryd.underlying22 info_modL rfl (by decide) (hA.val rfl) o1 x1 A c ms ((hA.val rfl).trans (hA.get 1 (by decide) (.inl rfl))) (Old w7) ((H.out.later TB.out).below hA.bel) (own_neq o1 hA.bel.size) ms.length rfl (room_of (by omega)) (by decide) (fun e => by cases e) (fun _ => False) (fun b hb => hb.elim)
          fun A' c' w'' h1 h2 s hs hk => ⟨A', c', hs, by rw [hs]; exact h1, fun k hk => .inl (by rw [hs] at hk; exact hk)⟩
      | 3, ho =>
        obtain rfl := Option.some.inj ho
        exact led_new hA _ _ (run_bs1F rfl a w') (fun e => by cases e) fun s hs _ => ⟨_, hs, Blk.new _ _ _, rfl⟩
      | 4, ho =>
        obtain rfl := Option.some.inj ho
        obtain ⟨k, e1, n1, x1⟩ := hA.get 3 (by decide) (.inr rfl)
        exact led_pass hA 3 rfl _ (run_bldM rfl a w' ((hA.val rfl).trans e1)) (fun e => by cases e) fun s hs _ => ⟨k, hs, n1, x1⟩
      | 5, ho =>
        obtain rfl := Option.some.inj ho
        obtain ⟨k, e1, n1, x1⟩ := hA.get 4 (by decide) (.inr rfl)
        exact led_new2 hA 4 rfl _ _ (run_bs1M rfl a w' ((hA.val rfl).trans e1)) (fun e => by cases e) fun s hs _ => ⟨k, _, hs, Blk.new _ _ _, n1.alloc _, .inr x1, .inl rfl⟩
      | 6, ho =>
        obtain rfl := Option.some.inj ho
        obtain ⟨A1, c1, e1, o1, x1⟩ := hA.get 2 (by decide) (.inr rfl)
        obtain ⟨k, j, e2, n1, n2, xk, xj⟩ := hA.get 5 (by decide) (.inr rfl)
        have o2 := o1.wideG (G' := fun q => Old w7 q ∨ q = k ∨ q = j) fun q _ hq => .inl hq
        exact led_cat hA 2 rfl 22 44 (.agg #[.int .u8 0, .slice none 0 0]) 32 (.tmp 63) (.tmp 66) rfl Tryd.underlying22 info_modL rfl (by decide) (hA.val rfl) o2 x1 (some ⟨j, 0, none⟩) 1 [(⟨70, [0]⟩ : Mod)] ((hA.val rfl).trans e2) (fun q => q = k ∨ q = j) (stepF_sl n1 n2) (fun q hq => ⟨.inr hq, by
            rcases hq with rfl | rfl
            · exact (hA.own 5 _ (by decide) (.inr rfl) xk).2
            · exact (hA.own 5 _ (by decide) (.inr rfl) xj).2, fun e => by
            have h2 := x1 q e.symm
            refine hA.apart 2 5 q (by decide) (.inr rfl) (by decide) (.inr rfl) (by decide) h2 ?_
            rcases hq with rfl | rfl
            · exact xk
            · exact xj⟩) (ms.length + 1) (by simp) (room_of (by omega)) (by decide) (fun e => by cases e) (X 5) (fun b hb => ⟨5, rfl, hb⟩)
          fun A' c' w'' h1 h2 s hs hk => ⟨A', c', k, j, hs, by rw [hs]; exact h1, .inr xk, .inr xj, fun k hk => .inl (by rw [hs] at hk; exact hk)⟩
      | 7, ho =>
        obtain rfl := Option.some.inj ho
        exact led_quiet hA (.agg #[.int .u8 t.1.1, .int .i64 t.1.2.1, .int .i64 t.1.2.2.1, .int .i64 t.1.2.2.2, .int .i64 t.2]) (run_loadL _ 28 (.tmp 4) rfl w.heap.size 0 (hA.old (d := 4) (by kernel_rfl) rfl) [.int .u8 t.1.1, .int .i64 t.1.2.1, .int .i64 t.1.2.2.1, .int .i64 t.1.2.2.2, .int .i64 t.2] _ (range_blk (K0.out.same (hA.bel.block _ K0.out.lt)) 0 _ (fun j v hj => by rw [Nat.zero_add]; simpa using hj)) Tryd.underlying28 rfl (by kernel_rfl)) (fun e => by cases e) fun s hs _ => hs
      | 8, ho =>
        obtain rfl := Option.some.inj ho
        exact led_quiet hA (.int .u8 d) (run_moveL _ (.tmp 2) _ (.inl rfl) (hA.old (d := 2) (by kernel_rfl) rfl)) (fun e => by cases e) fun s hs _ => hs
      | 9, ho =>
        obtain rfl := Option.some.inj ho
        exact led_quiet hA _ (run_bldT rfl a w' ((hA.val rfl).trans (hA.get 8 (by decide) (.inl rfl)))) (fun e => by cases e) fun s hs _ => hs
      | 10, ho =>
        obtain rfl := Option.some.inj ho
        obtain ⟨A1, c1, k, j, e1, o1, _, _, x1⟩ := hA.get 6 (by decide) (.inl rfl)
        have e2 := hA.get 7 (by decide) (.inl rfl)
        have e4 := hA.get 9 (by decide) (.inl rfl)
        rw [e1] at o1
        have sl := o1.sl'.2.wide (F' := Old w') fun k hk => hk.2
        have key := run_fresh A1 c1 (ms ++ [(⟨70, [0]⟩ : Mod)]) t (d, 1) w' sl ht0 hd0
        rw [Hz.out, show (ms ++ [(⟨70, [0]⟩ : Mod)]).length = ms.length + 1 from by simp] at key
        refine led_call hA 11 _ (fun v w'' => FreshPost (z, e3) w' (.returned v) w'') (Eq.trans (b := .ok (.enter 11 #[a.eval (.tmp 67), a.eval (.tmp 68), a.eval (.tmp 70)]) w') (by kernel_rfl) (by rw [(hA.val rfl).trans e1, (hA.val rfl).trans e2, (hA.val rfl).trans e4])) (fun e => by cases e) (key.mono fun e w'' hh => ?_) fun v w'' hR hb s hs _ => ?_
        · obtain ⟨A2, c2, B2, q2, he, h2, h3, h4⟩ := hh
          exact ⟨_, he, ⟨A2, c2, B2, q2, rfl, h2, h3, h4⟩, h4⟩
        · obtain ⟨A2, c2, B2, q2, he, h2, h3, h4⟩ := hR
          injection he with he
          exact ⟨A2, c2, B2, q2, hs.trans he⟩
      | 11, ho =>
        obtain rfl := Option.some.inj ho
        obtain ⟨A2, c2, B2, q2, e1⟩ := hA.get 10 (by decide) (.inl rfl)
        exact led_quiet hA _ (run_moveL _ (.tmp 71) _ (.inl rfl) ((hA.val rfl).trans e1)) (fun e => by cases e) fun s hs _ => ⟨A2, c2, B2, q2, hs⟩
      | 12, ho =>
        obtain rfl := Option.some.inj ho
        obtain ⟨A2, c2, B2, q2, e1⟩ := hA.get 11 (by decide) (.inl rfl)
        exact led_quiet hA (.agg (rowTk A2 c2 B2 q2 z)) (run_extractL _ (.tmp 60) 0 rfl _ ((hA.val rfl).trans e1) rfl) (fun e => by cases e) fun s hs hk => ⟨A2, c2, B2, q2, hs⟩
      | 13, ho =>
        obtain rfl := Option.some.inj ho
        obtain ⟨A2, c2, B2, q2, e1⟩ := hA.get 11 (by decide) (.inl rfl)
        exact led_quiet hA (.int .i64 e3) (run_extractL _ (.tmp 60) 1 rfl _ ((hA.val rfl).trans e1) rfl) (fun e => by cases e) fun s hs hk => hs
      | 14, ho =>
        obtain rfl := Option.some.inj ho
        exact led_new hA _ _ (run_allocT rfl _ w') (fun e => by cases e) fun s hs _ => ⟨_, hs, Blk.new _ _ _, rfl⟩
      | 15, ho =>
        obtain rfl := Option.some.inj ho
        obtain ⟨k, e1, n1, x1⟩ := hA.get 14 (by decide) (.inr rfl)
        obtain ⟨A2, c2, B2, q2, e2⟩ := hA.get 12 (by decide) (.inl rfl)
        exact led_store hA 14 rfl 36 (.tmp 12) (.tmp 72) 0 zeroRow (rowTk A2 c2 B2 q2 z) (rowTk A2 c2 B2 q2 z) rfl ((hA.val rfl).trans e1) ((hA.val rfl).trans e2) n1 x1 (by kernel_rfl) (Nat.le_refl _) (by simp [Value.oneCell']) rfl rfl (fun s hk hb => ⟨k, A2, c2, B2, q2, (hk 14 (by decide)).trans e1, hb, x1⟩) (by decide)
      | 16, ho =>
        obtain rfl := Option.some.inj ho
        exact led_quiet hA (.int .i64 e3) (run_moveL _ (.tmp 73) _ (.inr rfl) ((hA.val rfl).trans (hA.get 13 (by decide) (.inl rfl)))) (fun e => by cases e) fun s hs _ => hs
      | n + 17, ho =>
        have : (none : Option Oper) = some o := ho
        cases this
    case fin =>
      intro v X w8 hb8 hv
      obtain ⟨⟨g12, A8, c8, B8, q8, v14, n12, _⟩, _⟩ := hv 15 (by simp) rfl
      have v16 : v 16 = .int .i64 e3 := (hv 16 (by simp) rfl).1
      have tB := TB.out.trans (hb8.mono TB.out.size)
      simp only [putsV]
      rw [v14, v16]
      clear hv v14 v16 hb8
      have TB := Lib.hid tB; clear tB
      have N12 := Lib.hid n12; clear n12
      rcases Law.out with rfl | ⟨rfl, n, hn, hzn, hdot⟩
      · go_wp2
        go_ret
        exact ⟨rfl, TB.out⟩
      have u2 := N12.out.cell 2
      simp only [rowTk] at u2
      rw [hzn] at u2
      have ca := axesE_calls n hn w8
      obtain ⟨M, hM⟩ : ∃ m, axT n = m := ⟨_, rfl⟩
      have hMu : unitM M = true := by rw [← hM]; exact axT_unit ⟨n, hn⟩
      rw [hM] at ca hdot
      obtain ⟨dd, hdd⟩ := Int.eq_ofNat_of_zero_le hd0
      have hd6 : dd < 6 := by omega
      have Ca := Lib.hid ca; clear ca
      have HM := Lib.hid hM; clear hM
      have Hzn := Lib.hid hzn; clear hzn
      have HMu := Lib.hid hMu; clear hMu
      have Hdd := Lib.hid hdd; clear hdd
      go_wp2_with fail
      refine Ca.out.mono ?_
      rintro e w9 ⟨rfl, d9⟩
      obtain ⟨w10, hw⟩ : ∃ W, W = w9.alloc (.cells #[.int .i64 M.1.1, .int .i64 M.1.2.1, .int .i64 M.1.2.2, .int .i64 M.2.1.1, .int .i64 M.2.1.2.1, .int .i64 M.2.1.2.2, .int .i64 M.2.2.1, .int .i64 M.2.2.2.1, .int .i64 M.2.2.2.2] 47) := ⟨_, rfl⟩
      obtain ⟨g14, hg⟩ : ∃ k, k = w9.heap.size := ⟨_, rfl⟩
      have n14 : Blk w10 g14 47 #[.int .i64 M.1.1, .int .i64 M.1.2.1, .int .i64 M.1.2.2, .int .i64 M.2.1.1, .int .i64 M.2.1.2.1, .int .i64 M.2.1.2.2, .int .i64 M.2.2.1, .int .i64 M.2.2.2.1, .int .i64 M.2.2.2.2] := by rw [hw, hg]; exact Blk.new w9 _ _
      have tB := TB.out.trans ((d9.trans ((by rw [hw]; exact al1 : RowKit.Below w9.heap.size w9 w10).mono d9.size)).mono TB.out.size)
      clear d9 u2
      have N14 := Lib.hid n14; clear n14
      have TB := Lib.hid tB; clear tB
      go_upto_region 12 with fail
      (try rw [← hw, ← hg])
      clear hw hg
      have cdir := fun W' => refDirection_calls ⟨dd, hd6⟩ W'
      have hdv : dirV d.toNat = dirV dd := by rw [Hdd.out]; rfl
      have cdot := fun W' => dot_calls M.1 (dirV dd) W' (by have := HMu.out; unfold unitM at this; simp only [Bool.and_eq_true] at this; exact this.1.1) (dirV_unitB ⟨dd, hd6⟩)
      rw [hdv] at hdot
      obtain ⟨r, hr⟩ : ∃ r, dotV M.1 (dirV dd) = r := ⟨_, rfl⟩
      obtain ⟨V, hV⟩ : ∃ V, dirV dd = V := ⟨_, rfl⟩
      rw [hr] at cdot hdot
      simp only [hV] at cdir cdot
      have er : (r != 0) = true := by simpa using hdot.out
      have iwd : IntKind.i64.wrap d = d := IntWalk.i64_in _ (by omega)
      have sd : ∀ q os, Calls Tryd.prog 15 #[.int .i64 d] (grow (redrawn w10 q) os) fun e w'' => e = .returned (.agg #[.int .i64 V.1, .int .i64 V.2.1, .int .i64 V.2.2]) ∧ ∃ p : Regrown, w'' = grow (redrawn w10 p.d) p.os := fun q os => by rw [Hdd.out]; exact Calls.regrown_of (cdir _)
      have so : ∀ q os, Calls Tryd.prog 14 #[.agg #[.int .i64 M.1.1, .int .i64 M.1.2.1, .int .i64 M.1.2.2], .agg #[.int .i64 V.1, .int .i64 V.2.1, .int .i64 V.2.2]] (grow (redrawn w10 q) os) fun e w'' => e = .returned (.int .i64 r) ∧ ∃ p : Regrown, w'' = grow (redrawn w10 p.d) p.os := fun q os => Calls.regrown_of (cdot _)
      have z0 := cell_regrown (N14.out.cell 0)
      have z1 := cell_regrown (N14.out.cell 1)
      have z2 := cell_regrown (N14.out.cell 2)
      clear cdir cdot hdot hdv
      have Sd := Lib.hid sd; clear sd
      have So := Lib.hid so; clear so
      have Hr := Lib.hid hr; clear hr
      have HV := Lib.hid hV; clear hV
      have Hd6 := Lib.hid hd6; clear hd6
      refine wp_region_quiet_below (by kernel_rfl) (by kernel_rfl) ?_
      iterate 10 (go_big_quiet_step (fail))
      go_big_quiet_step (exact (Sd.out _ _).mono fun e w'' h => h)
      go_big_quiet_step (exact (So.out _ _).mono fun e w'' h => h)
      iterate 3 (go_big_quiet_step (fail))
      refine wpQuiet_nil ?_
      rintro w' ⟨⟨dq, osq⟩, rfl⟩
      have hbr := below_regrown w10 dq osq
      generalize grow (redrawn w10 dq) osq = w11 at hbr ⊢
      have tB := TB.out.trans (hbr.mono TB.out.size)
      clear hbr z0 z1 z2
      have TB := Lib.hid tB; clear tB
      go_wp2
      go_ret
      exact ⟨rfl, TB.out⟩
end Go.Proofs.YtldccpmnboebmaaDoor
