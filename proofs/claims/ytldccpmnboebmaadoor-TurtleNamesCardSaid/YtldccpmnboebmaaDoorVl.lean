/-
  Layer 16: the walk of frame.within.
-/
import Derived.Test.YtldccpmnboebmaaDoorVk
import Derived.Test.YtldccpmnboebmaaDoorLz
namespace Go.Proofs.YtldccpmnboebmaaDoor
open Go.RowKit Go.Sort
set_option linter.unusedVariables false

section
variable {P : Program}
theorem wp_storeAtG {o : Oper} {a : Act} {K : Act → World → Prop} {Q : Exit → Act → World → Prop} {w : World} {g : Nat} {t : TypeId} (ty : TypeId) (p x : Operand) (off : Nat) (old cells row : Array Value) (ho : o.op = .store ty p x) (hp : a.eval p = .pointer (some ⟨g, off, none⟩)) (hx : a.eval x = .agg cells)
    (hg : Blk w g t old) (hi : (P.info? ty).map (·.size) = some cells.size) (hs : off + cells.size ≤ old.size) (h1 : cells.all (·.oneCell') = true) (hrow : (old.toList.take off ++ cells.toList ++ old.toList.drop (off + cells.size)).toArray = row) (hd : o.dst = none) (h : K a (w.setRow g row)) : o.wp P a w K Q := by
  have hr : (storeVar ty ⟨g, off, none⟩ (.agg cells)).run P w = .ok () (w.setRow g row) := by
    have := run_storeCells_at P g off t cells.toList 0 old w hg (by simpa using hs) (fun v hv => (Array.all_eq_true_iff_forall_mem.1 h1) v (by simpa using hv))
    rw [← hrow]
    cases hq : P.info? ty with
    | none => simp [hq] at hi
    | some i =>
      have hs : cells.size = i.size := by simp [hq] at hi; omega
      simp only [Nat.add_zero, Array.length_toList] at this
      simp [storeVar, sizeOf, typeInfo, hq, Value.cells, ← hs, this]
  unfold Oper.wp
  obtain ⟨dst, op, tt, ps, af, gd⟩ := o
  simp only at ho hd
  subst ho hd
  simp [execOp, Instr.storeAt, Instr.sureAddr, hp, hx, hr, Oper.upon]
  exact h
end
theorem alloc_mat : FltRun Tryd.prog [⟨6, 5, 47, #[.int .i64 0, .int .i64 0, .int .i64 0, .int .i64 0, .int .i64 0, .int .i64 0, .int .i64 0, .int .i64 0, .int .i64 0]⟩, ⟨7, 6, 47, #[.int .i64 0, .int .i64 0, .int .i64 0, .int .i64 0, .int .i64 0, .int .i64 0, .int .i64 0, .int .i64 0, .int .i64 0]⟩] := by
  intro x hx ev o ho w
  have hx' : x.ty = 47 ∧ x.cs = #[.int .i64 0, .int .i64 0, .int .i64 0, .int .i64 0, .int .i64 0, .int .i64 0, .int .i64 0, .int .i64 0, .int .i64 0] := by
    simp at hx
    rcases hx with rfl | rfl <;> exact ⟨rfl, rfl⟩
  obtain ⟨h1, h2⟩ := hx'
  rw [h1] at ho ⊢
  rw [h2]
  obtain ⟨dst, op, tt, ps, af, gd⟩ := o
  simp only at ho
  subst ho
  show (execOp ev _).run Tryd.prog w = _
  kernel_rfl

def matC (m : M3) : Array Value := #[.int .i64 m.1.1, .int .i64 m.1.2.1, .int .i64 m.1.2.2, .int .i64 m.2.1.1, .int .i64 m.2.1.2.1, .int .i64 m.2.1.2.2, .int .i64 m.2.2.1, .int .i64 m.2.2.2.1, .int .i64 m.2.2.2.2]
def stepX (M : M3) (c1 c2 c3 : V3) : Nat → M3
  | 0 => M
  | 1 => (c1, M.2.1, M.2.2)
  | 2 => (c1, c2, M.2.2)
  | _ => (c1, c2, c3)
def FrPost (f : Fr) (w : World) (e : Ending) (w' : World) : Prop := e = .returned (.agg #[.int .u8 f.1, .int .i64 f.2.1, .int .i64 f.2.2.1, .int .i64 f.2.2.2]) ∧ RowKit.Below w.heap.size w w'
theorem unit_small {v : V3} (h : unitV v = true) : smallV 1000000 v := by
  obtain ⟨h1, h2, h3⟩ := unitV_at h
  have : ∀ x : Int, one3 x = true → -1000000 ≤ x ∧ x ≤ 1000000 := fun x hx => by
    unfold one3 at hx
    simp only [Bool.or_eq_true, beq_iff_eq] at hx
    omega
  exact ⟨this _ h1, this _ h2, this _ h3⟩
set_option maxRecDepth 100000 in
set_option maxHeartbeats 8000000 in
theorem within_calls (s t : Nat) (hs : s < 24) (ht : t < 24) (a b : V3) (w : World) (ha : smallV 1000000 a) (hb : smallV 1000000 b) : Calls Tryd.prog 32 #[.agg #[.int .u8 (s : Int), .int .i64 a.1, .int .i64 a.2.1, .int .i64 a.2.2], .agg #[.int .u8 (t : Int), .int .i64 b.1, .int .i64 b.2.1, .int .i64 b.2.2]] w (FrPost (composeF ((s : Int), a) ((t : Int), b)) w) := by
  have hr : composeF ((s : Int), a) ((t : Int), b) = ((namedF (compT s t) : Int), imageF ((t : Int), b) a) := by unfold composeF; simp
  have hcm : compT s t = (sumV (axT t) (axT s).1, sumV (axT t) (axT s).2.1, sumV (axT t) (axT s).2.2) := rfl
  have hu := axT_unit ⟨s, hs⟩
  have hv := axT_unit ⟨t, ht⟩
  simp only at hu hv
  have xa := fun W => axes_calls s hs W
  have xb := fun W => axes_calls t ht W
  obtain ⟨M, hM⟩ : ∃ m, axT s = m := ⟨_, rfl⟩
  obtain ⟨N, hN⟩ : ∃ m, axT t = m := ⟨_, rfl⟩
  rw [hM] at hcm hu xa
  rw [hN] at hcm hv xb
  obtain ⟨u1, u2, u3⟩ := unitM_at hu
  have y1 := fun W => sum_calls N M.1 W hv (unit_small u1)
  have y2 := fun W => sum_calls N M.2.1 W hv (unit_small u2)
  have y3 := fun W => sum_calls N M.2.2 W hv (unit_small u3)
  obtain ⟨c1, hc1⟩ : ∃ c, sumV N M.1 = c := ⟨_, rfl⟩
  obtain ⟨c2, hc2⟩ : ∃ c, sumV N M.2.1 = c := ⟨_, rfl⟩
  obtain ⟨c3, hc3⟩ : ∃ c, sumV N M.2.2 = c := ⟨_, rfl⟩
  rw [hc1] at hcm y1
  rw [hc2] at hcm y2
  rw [hc3] at hcm y3
  rw [hcm] at hr
  have nx := fun W => named_calls (c1, c2, c3) W
  simp only at nx
  have im := fun W => image_calls t ht b a W hb ha
  obtain ⟨r1, hr1⟩ : ∃ x : Nat, namedF (c1, c2, c3) = x := ⟨_, rfl⟩
  obtain ⟨r2, hr2⟩ : ∃ x, imageF ((t : Int), b) a = x := ⟨_, rfl⟩
  rw [hr1] at hr nx
  rw [hr2] at hr im
  obtain ⟨W, hW⟩ : ∃ W, W = ((w.alloc (.cells #[.int .u8 (s : Int), .int .i64 a.1, .int .i64 a.2.1, .int .i64 a.2.2] 26)).alloc (.cells #[.int .u8 (t : Int), .int .i64 b.1, .int .i64 b.2.1, .int .i64 b.2.2] 26)).alloc (.cells #[.int .u8 0, .int .i64 0, .int .i64 0, .int .i64 0] 26) := ⟨_, rfl⟩
  have b0 : Blk W w.heap.size 26 #[.int .u8 (s : Int), .int .i64 a.1, .int .i64 a.2.1, .int .i64 a.2.2] := by rw [hW]; exact ((Blk.new w _ _).alloc _).alloc _
  have b1 : Blk W (w.heap.size + 1) 26 #[.int .u8 (t : Int), .int .i64 b.1, .int .i64 b.2.1, .int .i64 b.2.2] := by
    rw [hW]
    have := (Blk.new (w.alloc (.cells #[.int .u8 (s : Int), .int .i64 a.1, .int .i64 a.2.1, .int .i64 a.2.2] 26)) 26 #[.int .u8 (t : Int), .int .i64 b.1, .int .i64 b.2.1, .int .i64 b.2.2]).alloc (.cells #[.int .u8 0, .int .i64 0, .int .i64 0, .int .i64 0] 26)
    simpa using this
  have b2 : Blk W (w.heap.size + 1 + 1) 26 #[.int .u8 0, .int .i64 0, .int .i64 0, .int .i64 0] := by
    rw [hW]
    have := Blk.new ((w.alloc (.cells #[.int .u8 (s : Int), .int .i64 a.1, .int .i64 a.2.1, .int .i64 a.2.2] 26)).alloc (.cells #[.int .u8 (t : Int), .int .i64 b.1, .int .i64 b.2.1, .int .i64 b.2.2] 26)) 26 #[.int .u8 0, .int .i64 0, .int .i64 0, .int .i64 0]
    simpa using this
  have tW : RowKit.Below w.heap.size w W := by rw [hW]; exact al3
  have zW : W.heap.size = w.heap.size + 3 := by rw [hW]; simp
  have d0 := b0.cell 0
  have d1 := b1.cell 0
  have B0 := Lib.hid b0; clear b0
  have B1 := Lib.hid b1; clear b1
  have B2 := Lib.hid b2; clear b2
  have TW := Lib.hid tW; clear tW
  have Hr := Lib.hid hr; clear hr
  have Hcm := Lib.hid hcm; clear hcm
  have HM := Lib.hid hM; clear hM
  have HN := Lib.hid hN; clear hN
  have Hc1 := Lib.hid hc1; clear hc1
  have Hc2 := Lib.hid hc2; clear hc2
  have Hc3 := Lib.hid hc3; clear hc3
  have Hr1 := Lib.hid hr1; clear hr1
  have Hr2 := Lib.hid hr2; clear hr2
  have Xa := Lib.hid xa; clear xa
  have Xb := Lib.hid xb; clear xb
  have Y1 := Lib.hid y1; clear y1
  have Y2 := Lib.hid y2; clear y2
  have Y3 := Lib.hid y3; clear y3
  have Nx := Lib.hid nx; clear nx
  have Im := Lib.hid im; clear im
  have Hu := Lib.hid hu; clear hu
  have Hv := Lib.hid hv; clear hv
  have U1 := Lib.hid u1; clear u1
  have U2 := Lib.hid u2; clear u2
  have U3 := Lib.hid u3; clear u3
  have Ha := Lib.hid ha; clear ha
  have Hb := Lib.hid hb; clear hb
  go_enter Tryd.func32, Tryd.ntmps32
  go_upto_region 1 with fail
  rw [← hW]
  have HW := Lib.hid hW; clear hW
  refine wp_region_floatE 8 [⟨6, 5, 47, #[.int .i64 0, .int .i64 0, .int .i64 0, .int .i64 0, .int .i64 0, .int .i64 0, .int .i64 0, .int .i64 0, .int .i64 0]⟩, ⟨7, 6, 47, #[.int .i64 0, .int .i64 0, .int .i64 0, .int .i64 0, .int .i64 0, .int .i64 0, .int .i64 0, .int .i64 0, .int .i64 0]⟩] (by kernel_rfl) (by kernel_rfl) alloc_mat ?_
  apply Exists.intro
  refine And.intro ?walk ?tail
  case walk =>
    intro W' hW'
    have e0 := cell_regrown ((cell_keep (hW'.block w.heap.size (by omega))).trans d0)
    have e1 := cell_regrown ((cell_keep (hW'.block (w.heap.size + 1) (by omega))).trans d1)
    have x1 : ∀ q os, Calls Tryd.prog 28 #[.int .u8 (s : Int)] (grow (redrawn W' q) os) fun e w'' => e = .returned (.agg #[.int .i64 M.1.1, .int .i64 M.1.2.1, .int .i64 M.1.2.2, .int .i64 M.2.1.1, .int .i64 M.2.1.2.1, .int .i64 M.2.1.2.2, .int .i64 M.2.2.1, .int .i64 M.2.2.2.1, .int .i64 M.2.2.2.2]) ∧ ∃ p : Regrown, w'' = grow (redrawn W' p.d) p.os := fun q os => Calls.regrown_of (Xa.out _)
    have x2 : ∀ q os, Calls Tryd.prog 28 #[.int .u8 (t : Int)] (grow (redrawn W' q) os) fun e w'' => e = .returned (.agg #[.int .i64 N.1.1, .int .i64 N.1.2.1, .int .i64 N.1.2.2, .int .i64 N.2.1.1, .int .i64 N.2.1.2.1, .int .i64 N.2.1.2.2, .int .i64 N.2.2.1, .int .i64 N.2.2.2.1, .int .i64 N.2.2.2.2]) ∧ ∃ p : Regrown, w'' = grow (redrawn W' p.d) p.os := fun q os => Calls.regrown_of (Xb.out _)
    have X1 := Lib.hid x1; clear x1
    have X2 := Lib.hid x2; clear x2
    simp only [virtL, fltO, nopT, List.take_succ_cons, List.take_zero, List.drop_succ_cons, List.drop_zero, List.map_cons, List.map_nil, List.cons_append, List.nil_append]
    iterate 3 (go_big_quiet_step (exact (X1.out _ _).mono fun e w'' h => h))
    iterate 7 (go_big_quiet_step (exact (X2.out _ _).mono fun e w'' h => h))
    exact wpQuiet_nil rfl
  case tail =>
    intro p w' hbw hB hD
    have hB6 := hB _ (List.mem_cons_self)
    have hB7 := hB _ (List.mem_cons_of_mem _ (List.mem_cons_self))
    have hD67 := hD _ (List.mem_cons_self) _ (List.mem_cons_of_mem _ (List.mem_cons_self)) (by decide)
    simp only at hB6 hB7 hD67
    simp only [putsF, ptrV, List.drop_succ_cons, List.drop_zero]
    obtain ⟨g5, hg5⟩ : ∃ g, p 6 = g := ⟨_, rfl⟩
    obtain ⟨g6, hg6⟩ : ∃ g, p 7 = g := ⟨_, rfl⟩
    rw [hg5] at hB6 hD67 ⊢
    rw [hg6] at hB7 hD67 ⊢
    clear hB hD
    obtain ⟨k5, z5⟩ := hB6
    obtain ⟨k6, z6⟩ := hB7
    have f0 := B0.out.same (hbw.block _ (by omega))
    have f1 := B1.out.same (hbw.block _ (by omega))
    have f2 := B2.out.same (hbw.block _ (by omega))
    have tw := TW.out.trans (hbw.mono TW.out.size)
    have l6 := k6.same (setRow_other w' g5 g6 #[.int .i64 M.1.1, .int .i64 M.1.2.1, .int .i64 M.1.2.2, .int .i64 M.2.1.1, .int .i64 M.2.1.2.1, .int .i64 M.2.1.2.2, .int .i64 M.2.2.1, .int .i64 M.2.2.2.1, .int .i64 M.2.2.2.2] (fun e => hD67 e.symm))
    simp only [Act.put]
    refine wpList_storeG 47 (.tmp 5) (.tmp 10) _ #[.int .i64 M.1.1, .int .i64 M.1.2.1, .int .i64 M.1.2.2, .int .i64 M.2.1.1, .int .i64 M.2.1.2.1, .int .i64 M.2.1.2.2, .int .i64 M.2.2.1, .int .i64 M.2.2.2.1, .int .i64 M.2.2.2.2] rfl rfl rfl rfl k5 (by kernel_rfl) rfl (by simp [Value.oneCell']) rfl ?_
    refine wpList_storeG 47 (.tmp 6) (.tmp 13) _ #[.int .i64 N.1.1, .int .i64 N.1.2.1, .int .i64 N.1.2.2, .int .i64 N.2.1.1, .int .i64 N.2.1.2.1, .int .i64 N.2.1.2.2, .int .i64 N.2.2.1, .int .i64 N.2.2.2.1, .int .i64 N.2.2.2.2] rfl rfl rfl rfl l6 (by kernel_rfl) rfl (by simp [Value.oneCell']) rfl ?_
    have m5 := (blk_row (cs := #[.int .i64 M.1.1, .int .i64 M.1.2.1, .int .i64 M.1.2.2, .int .i64 M.2.1.1, .int .i64 M.2.1.2.1, .int .i64 M.2.1.2.2, .int .i64 M.2.2.1, .int .i64 M.2.2.2.1, .int .i64 M.2.2.2.2]) k5).same (setRow_other (w'.setRow g5 #[.int .i64 M.1.1, .int .i64 M.1.2.1, .int .i64 M.1.2.2, .int .i64 M.2.1.1, .int .i64 M.2.1.2.1, .int .i64 M.2.1.2.2, .int .i64 M.2.2.1, .int .i64 M.2.2.2.1, .int .i64 M.2.2.2.2]) g6 g5 #[.int .i64 N.1.1, .int .i64 N.1.2.1, .int .i64 N.1.2.2, .int .i64 N.2.1.1, .int .i64 N.2.1.2.1, .int .i64 N.2.1.2.2, .int .i64 N.2.2.1, .int .i64 N.2.2.2.1, .int .i64 N.2.2.2.2] hD67)
    have m6 := blk_row (cs := #[.int .i64 N.1.1, .int .i64 N.1.2.1, .int .i64 N.1.2.2, .int .i64 N.2.1.1, .int .i64 N.2.1.2.1, .int .i64 N.2.1.2.2, .int .i64 N.2.2.1, .int .i64 N.2.2.2.1, .int .i64 N.2.2.2.2]) l6
    have n0 := (f0.same (setRow_other w' g5 w.heap.size #[.int .i64 M.1.1, .int .i64 M.1.2.1, .int .i64 M.1.2.2, .int .i64 M.2.1.1, .int .i64 M.2.1.2.1, .int .i64 M.2.1.2.2, .int .i64 M.2.2.1, .int .i64 M.2.2.2.1, .int .i64 M.2.2.2.2] (by omega))).same (setRow_other (w'.setRow g5 #[.int .i64 M.1.1, .int .i64 M.1.2.1, .int .i64 M.1.2.2, .int .i64 M.2.1.1, .int .i64 M.2.1.2.1, .int .i64 M.2.1.2.2, .int .i64 M.2.2.1, .int .i64 M.2.2.2.1, .int .i64 M.2.2.2.2]) g6 w.heap.size #[.int .i64 N.1.1, .int .i64 N.1.2.1, .int .i64 N.1.2.2, .int .i64 N.2.1.1, .int .i64 N.2.1.2.1, .int .i64 N.2.1.2.2, .int .i64 N.2.2.1, .int .i64 N.2.2.2.1, .int .i64 N.2.2.2.2] (by omega))
    have n1 := (f1.same (setRow_other w' g5 (w.heap.size + 1) #[.int .i64 M.1.1, .int .i64 M.1.2.1, .int .i64 M.1.2.2, .int .i64 M.2.1.1, .int .i64 M.2.1.2.1, .int .i64 M.2.1.2.2, .int .i64 M.2.2.1, .int .i64 M.2.2.2.1, .int .i64 M.2.2.2.2] (by omega))).same (setRow_other (w'.setRow g5 #[.int .i64 M.1.1, .int .i64 M.1.2.1, .int .i64 M.1.2.2, .int .i64 M.2.1.1, .int .i64 M.2.1.2.1, .int .i64 M.2.1.2.2, .int .i64 M.2.2.1, .int .i64 M.2.2.2.1, .int .i64 M.2.2.2.2]) g6 (w.heap.size + 1) #[.int .i64 N.1.1, .int .i64 N.1.2.1, .int .i64 N.1.2.2, .int .i64 N.2.1.1, .int .i64 N.2.1.2.1, .int .i64 N.2.1.2.2, .int .i64 N.2.2.1, .int .i64 N.2.2.2.1, .int .i64 N.2.2.2.2] (by omega))
    have n2 := (f2.same (setRow_other w' g5 (w.heap.size + 1 + 1) #[.int .i64 M.1.1, .int .i64 M.1.2.1, .int .i64 M.1.2.2, .int .i64 M.2.1.1, .int .i64 M.2.1.2.1, .int .i64 M.2.1.2.2, .int .i64 M.2.2.1, .int .i64 M.2.2.2.1, .int .i64 M.2.2.2.2] (by omega))).same (setRow_other (w'.setRow g5 #[.int .i64 M.1.1, .int .i64 M.1.2.1, .int .i64 M.1.2.2, .int .i64 M.2.1.1, .int .i64 M.2.1.2.1, .int .i64 M.2.1.2.2, .int .i64 M.2.2.1, .int .i64 M.2.2.2.1, .int .i64 M.2.2.2.2]) g6 (w.heap.size + 1 + 1) #[.int .i64 N.1.1, .int .i64 N.1.2.1, .int .i64 N.1.2.2, .int .i64 N.2.1.1, .int .i64 N.2.1.2.1, .int .i64 N.2.1.2.2, .int .i64 N.2.2.1, .int .i64 N.2.2.2.1, .int .i64 N.2.2.2.2] (by omega))
    have nt := row_below (g := g6) (row_below (g := g5) tw (by omega) #[.int .i64 M.1.1, .int .i64 M.1.2.1, .int .i64 M.1.2.2, .int .i64 M.2.1.1, .int .i64 M.2.1.2.1, .int .i64 M.2.1.2.2, .int .i64 M.2.2.1, .int .i64 M.2.2.2.1, .int .i64 M.2.2.2.2]) (by omega) #[.int .i64 N.1.1, .int .i64 N.1.2.1, .int .i64 N.1.2.2, .int .i64 N.2.1.1, .int .i64 N.2.1.2.1, .int .i64 N.2.1.2.2, .int .i64 N.2.2.1, .int .i64 N.2.2.2.1, .int .i64 N.2.2.2.2]
    have hm5 : Blk ((w'.setRow g5 #[.int .i64 M.1.1, .int .i64 M.1.2.1, .int .i64 M.1.2.2, .int .i64 M.2.1.1, .int .i64 M.2.1.2.1, .int .i64 M.2.1.2.2, .int .i64 M.2.2.1, .int .i64 M.2.2.2.1, .int .i64 M.2.2.2.2]).setRow g6 #[.int .i64 N.1.1, .int .i64 N.1.2.1, .int .i64 N.1.2.2, .int .i64 N.2.1.1, .int .i64 N.2.1.2.1, .int .i64 N.2.1.2.2, .int .i64 N.2.2.1, .int .i64 N.2.2.2.1, .int .i64 N.2.2.2.2]) g5 47 (matC (stepX M c1 c2 c3 0)) := m5
    have g56 : g5 ≠ g6 := hD67
    have z5' : w.heap.size + 3 ≤ g5 := by omega
    have z6' : w.heap.size + 3 ≤ g6 := by omega
    generalize (w'.setRow g5 #[.int .i64 M.1.1, .int .i64 M.1.2.1, .int .i64 M.1.2.2, .int .i64 M.2.1.1, .int .i64 M.2.1.2.1, .int .i64 M.2.1.2.2, .int .i64 M.2.2.1, .int .i64 M.2.2.2.1, .int .i64 M.2.2.2.2]).setRow g6 #[.int .i64 N.1.1, .int .i64 N.1.2.1, .int .i64 N.1.2.2, .int .i64 N.2.1.1, .int .i64 N.2.1.2.1, .int .i64 N.2.1.2.2, .int .i64 N.2.2.1, .int .i64 N.2.2.2.1, .int .i64 N.2.2.2.2] = w6 at hm5 m6 n0 n1 n2 nt ⊢
    have Hm5 := Lib.hid hm5; clear hm5
    have M6 := Lib.hid m6; clear m6
    have N0 := Lib.hid n0; clear n0
    have N1 := Lib.hid n1; clear n1
    have N2 := Lib.hid n2; clear n2
    have Nt := Lib.hid nt; clear nt
    clear m5 l6 k5 k6 f0 f1 f2 tw hbw d0 d1
    go_wp2_with fail
    go_loopw [14] (fun i wr => ∃ (k : Nat), i = .int .i64 k ∧ k ≤ 3 ∧ Hid (RowKit.Below w.heap.size w wr) ∧ Hid (Blk wr w.heap.size 26 #[.int .u8 (s : Int), .int .i64 a.1, .int .i64 a.2.1, .int .i64 a.2.2]) ∧ Hid (Blk wr (w.heap.size + 1) 26 #[.int .u8 (t : Int), .int .i64 b.1, .int .i64 b.2.1, .int .i64 b.2.2]) ∧ Hid (Blk wr (w.heap.size + 1 + 1) 26 #[.int .u8 0, .int .i64 0, .int .i64 0, .int .i64 0]) ∧ Hid (Blk wr g5 47 (matC (stepX M c1 c2 c3 k))) ∧ Hid (Blk wr g6 47 #[.int .i64 N.1.1, .int .i64 N.1.2.1, .int .i64 N.1.2.2, .int .i64 N.2.1.1, .int .i64 N.2.1.2.1, .int .i64 N.2.1.2.2, .int .i64 N.2.2.1, .int .i64 N.2.2.2.1, .int .i64 N.2.2.2.2])) (fun i _ => 3 - (intOf i).toNat)
    case atStart => exact ⟨0, rfl, by omega, Nt, N0, N1, N2, Hm5, M6⟩
    case round =>
      obtain ⟨k, rfl, hk, hb0, q0, q1, q2, q5, q6⟩ := hrel
      obtain ⟨wo, rfl⟩ : ∃ wo : World, wo = wr := ⟨_, rfl⟩
      by_cases hlt : k < 3
      case neg =>
        obtain rfl : k = 3 := by omega
        have hq5 : Blk wo g5 47 #[.int .i64 c1.1, .int .i64 c1.2.1, .int .i64 c1.2.2, .int .i64 c2.1, .int .i64 c2.2.1, .int .i64 c2.2.2, .int .i64 c3.1, .int .i64 c3.2.1, .int .i64 c3.2.2] := q5.out
        have d := hq5.cell 0
        have n0' := cell_regrown d
        clear d
        have d := hq5.cell 1
        have n1' := cell_regrown d
        clear d
        have d := hq5.cell 2
        have n2' := cell_regrown d
        clear d
        have d := hq5.cell 3
        have n3' := cell_regrown d
        clear d
        have d := hq5.cell 4
        have n4' := cell_regrown d
        clear d
        have d := hq5.cell 5
        have n5' := cell_regrown d
        clear d
        have d := hq5.cell 6
        have n6' := cell_regrown d
        clear d
        have d := hq5.cell 7
        have n7' := cell_regrown d
        clear d
        have d := hq5.cell 8
        have n8' := cell_regrown d
        clear d
        have d := q1.out.cell 0
        have v0' := cell_regrown d
        clear d
        have d := q1.out.cell 1
        have v1' := cell_regrown d
        clear d
        have d := q1.out.cell 2
        have v2' := cell_regrown d
        clear d
        have d := q1.out.cell 3
        have v3' := cell_regrown d
        clear d
        have d := q0.out.cell 1
        have x1' := cell_regrown d
        clear d
        have d := q0.out.cell 2
        have x2' := cell_regrown d
        clear d
        have d := q0.out.cell 3
        have x3' := cell_regrown d
        clear d
        have sn : ∀ q os, Calls Tryd.prog 50 #[.agg #[.int .i64 c1.1, .int .i64 c1.2.1, .int .i64 c1.2.2, .int .i64 c2.1, .int .i64 c2.2.1, .int .i64 c2.2.2, .int .i64 c3.1, .int .i64 c3.2.1, .int .i64 c3.2.2]] (grow (redrawn wo q) os) fun e w'' => e = .returned (.int .u8 (r1 : Int)) ∧ ∃ p : Regrown, w'' = grow (redrawn wo p.d) p.os := fun q os => Calls.regrown_of (Nx.out _)
        have si : ∀ q os, Calls Tryd.prog 51 #[.agg #[.int .u8 (t : Int), .int .i64 b.1, .int .i64 b.2.1, .int .i64 b.2.2], .agg #[.int .i64 a.1, .int .i64 a.2.1, .int .i64 a.2.2]] (grow (redrawn wo q) os) fun e w'' => e = .returned (.agg #[.int .i64 r2.1, .int .i64 r2.2.1, .int .i64 r2.2.2]) ∧ ∃ p : Regrown, w'' = grow (redrawn wo p.d) p.os := fun q os => Calls.regrown_of (Im.out _)
        have Sn := Lib.hid sn; clear sn
        have Si := Lib.hid si; clear si
        have Hq5 := Lib.hid hq5; clear hq5
        go_upto_region 7 with fail
        refine wp_region_store 7 (by kernel_rfl) rfl rfl rfl (by kernel_rfl) (by kernel_rfl) (by kernel_rfl) ?_
        simp only [List.take_succ_cons, List.take_zero, List.cons_append, List.nil_append, nopT]
        iterate 2 (go_big_quiet_step (exact (Sn.out _ _).mono fun e w'' h => h))
        iterate 5 (go_big_quiet_step (exact (Si.out _ _).mono fun e w'' h => h))
        refine wpQuiet_nil ?_
        rintro w' ⟨⟨dq, osq⟩, rfl⟩
        have hbr := below_regrown wo dq osq
        generalize grow (redrawn wo dq) osq = w5 at hbr ⊢
        have r5 := q2.out.same (hbr.block _ q2.out.lt)
        refine wp_storeG 26 (.tmp 4) (.tmp 31) _ #[.int .u8 (r1 : Int), .int .i64 r2.1, .int .i64 r2.2.1, .int .i64 r2.2.2] rfl rfl rfl r5 (by kernel_rfl) rfl (by simp [Value.oneCell']) rfl ?_
        have hfin := blk_row (cs := #[.int .u8 (r1 : Int), .int .i64 r2.1, .int .i64 r2.2.1, .int .i64 r2.2.2]) r5
        have hbel := row_below (g := w.heap.size + 1 + 1) (hb0.out.trans (hbr.mono hb0.out.size)) (by omega) #[.int .u8 (r1 : Int), .int .i64 r2.1, .int .i64 r2.2.1, .int .i64 r2.2.2]
        have Hfin := Lib.hid hfin; clear hfin
        have Hbel := Lib.hid hbel; clear hbel
        clear n0' n1' n2' n3' n4' n5' n6' n7' n8' v0' v1' v2' v3' x1' x2' x3'
        go_wp2
        refine bodyPost_ret (results_cell_row rfl _ _ (w.heap.size + 1 + 1) 26 _ (0, 0) _ rfl Hfin.out Tryd.underlying26 rfl (by kernel_rfl)) rfl ?_
        exact ⟨by rw [Hr.out], Hbel.out⟩
      case pos =>
        rcases (show k = 0 ∨ k = 1 ∨ k = 2 from by omega) with rfl | rfl | rfl
        · have hq5 : Blk wo g5 47 #[.int .i64 M.1.1, .int .i64 M.1.2.1, .int .i64 M.1.2.2, .int .i64 M.2.1.1, .int .i64 M.2.1.2.1, .int .i64 M.2.1.2.2, .int .i64 M.2.2.1, .int .i64 M.2.2.2.1, .int .i64 M.2.2.2.2] := q5.out
          have y5 := q5.out.lt
          have d := q6.out.cell 0
          have n0' := cell_regrown d
          clear d
          have d := q6.out.cell 1
          have n1' := cell_regrown d
          clear d
          have d := q6.out.cell 2
          have n2' := cell_regrown d
          clear d
          have d := q6.out.cell 3
          have n3' := cell_regrown d
          clear d
          have d := q6.out.cell 4
          have n4' := cell_regrown d
          clear d
          have d := q6.out.cell 5
          have n5' := cell_regrown d
          clear d
          have d := q6.out.cell 6
          have n6' := cell_regrown d
          clear d
          have d := q6.out.cell 7
          have n7' := cell_regrown d
          clear d
          have d := q6.out.cell 8
          have n8' := cell_regrown d
          clear d
          have d := hq5.cell 0
          have v0' := cell_regrown d
          clear d
          have d := hq5.cell 1
          have v1' := cell_regrown d
          clear d
          have d := hq5.cell 2
          have v2' := cell_regrown d
          clear d
          have sc : ∀ q os, Calls Tryd.prog 49 #[.agg #[.int .i64 N.1.1, .int .i64 N.1.2.1, .int .i64 N.1.2.2, .int .i64 N.2.1.1, .int .i64 N.2.1.2.1, .int .i64 N.2.1.2.2, .int .i64 N.2.2.1, .int .i64 N.2.2.2.1, .int .i64 N.2.2.2.2], .agg #[.int .i64 M.1.1, .int .i64 M.1.2.1, .int .i64 M.1.2.2]] (grow (redrawn wo q) os) fun e w'' => e = .returned (.agg #[.int .i64 c1.1, .int .i64 c1.2.1, .int .i64 c1.2.2]) ∧ ∃ p : Regrown, w'' = grow (redrawn wo p.d) p.os := fun q os => Calls.regrown_of (Y1.out _)
          have Sc := Lib.hid sc; clear sc
          have Hq5 := Lib.hid hq5; clear hq5
          go_upto_region 5 with fail
          refine wp_region_store 7 (by kernel_rfl) rfl rfl rfl (by kernel_rfl) (by kernel_rfl) (by kernel_rfl) ?_
          simp only [List.take_succ_cons, List.take_zero, List.cons_append, List.nil_append, nopT]
          iterate 7 (go_big_quiet_step (exact (Sc.out _ _).mono fun e w'' h => h))
          refine wpQuiet_nil ?_
          rintro w' ⟨⟨dq, osq⟩, rfl⟩
          have hbr := below_regrown wo dq osq
          generalize grow (redrawn wo dq) osq = w5 at hbr ⊢
          have r5 := Hq5.out.same (hbr.block _ y5)
          refine wp_storeAtG 24 (.tmp 23) (.tmp 22) 0 _ #[.int .i64 c1.1, .int .i64 c1.2.1, .int .i64 c1.2.2] #[.int .i64 c1.1, .int .i64 c1.2.1, .int .i64 c1.2.2, .int .i64 M.2.1.1, .int .i64 M.2.1.2.1, .int .i64 M.2.1.2.2, .int .i64 M.2.2.1, .int .i64 M.2.2.2.1, .int .i64 M.2.2.2.2] rfl rfl rfl r5 (by kernel_rfl) (by simp) (by simp [Value.oneCell']) rfl rfl ?_
          have s0 := (q0.out.same (hbr.block _ q0.out.lt)).same (setRow_other w5 g5 w.heap.size #[.int .i64 c1.1, .int .i64 c1.2.1, .int .i64 c1.2.2, .int .i64 M.2.1.1, .int .i64 M.2.1.2.1, .int .i64 M.2.1.2.2, .int .i64 M.2.2.1, .int .i64 M.2.2.2.1, .int .i64 M.2.2.2.2] (by omega))
          have s1 := (q1.out.same (hbr.block _ q1.out.lt)).same (setRow_other w5 g5 (w.heap.size + 1) #[.int .i64 c1.1, .int .i64 c1.2.1, .int .i64 c1.2.2, .int .i64 M.2.1.1, .int .i64 M.2.1.2.1, .int .i64 M.2.1.2.2, .int .i64 M.2.2.1, .int .i64 M.2.2.2.1, .int .i64 M.2.2.2.2] (by omega))
          have s2 := (q2.out.same (hbr.block _ q2.out.lt)).same (setRow_other w5 g5 (w.heap.size + 1 + 1) #[.int .i64 c1.1, .int .i64 c1.2.1, .int .i64 c1.2.2, .int .i64 M.2.1.1, .int .i64 M.2.1.2.1, .int .i64 M.2.1.2.2, .int .i64 M.2.2.1, .int .i64 M.2.2.2.1, .int .i64 M.2.2.2.2] (by omega))
          have s6 := (q6.out.same (hbr.block _ q6.out.lt)).same (setRow_other w5 g5 g6 #[.int .i64 c1.1, .int .i64 c1.2.1, .int .i64 c1.2.2, .int .i64 M.2.1.1, .int .i64 M.2.1.2.1, .int .i64 M.2.1.2.2, .int .i64 M.2.2.1, .int .i64 M.2.2.2.1, .int .i64 M.2.2.2.2] (fun e => g56 e.symm))
          have s5 : Blk (w5.setRow g5 #[.int .i64 c1.1, .int .i64 c1.2.1, .int .i64 c1.2.2, .int .i64 M.2.1.1, .int .i64 M.2.1.2.1, .int .i64 M.2.1.2.2, .int .i64 M.2.2.1, .int .i64 M.2.2.2.1, .int .i64 M.2.2.2.2]) g5 47 (matC (stepX M c1 c2 c3 (0 + 1))) := blk_row r5
          have st := row_below (g := g5) (hb0.out.trans (hbr.mono hb0.out.size)) (by omega) #[.int .i64 c1.1, .int .i64 c1.2.1, .int .i64 c1.2.2, .int .i64 M.2.1.1, .int .i64 M.2.1.2.1, .int .i64 M.2.1.2.2, .int .i64 M.2.2.1, .int .i64 M.2.2.2.1, .int .i64 M.2.2.2.2]
          generalize w5.setRow g5 #[.int .i64 c1.1, .int .i64 c1.2.1, .int .i64 c1.2.2, .int .i64 M.2.1.1, .int .i64 M.2.1.2.1, .int .i64 M.2.1.2.2, .int .i64 M.2.2.1, .int .i64 M.2.2.2.1, .int .i64 M.2.2.2.2] = w7 at s0 s1 s2 s5 s6 st ⊢
          have S0 := Lib.hid s0; clear s0
          have S1 := Lib.hid s1; clear s1
          have S2 := Lib.hid s2; clear s2
          have S5 := Lib.hid s5; clear s5
          have S6 := Lib.hid s6; clear s6
          have St := Lib.hid st; clear st
          clear n0' n1' n2' n3' n4' n5' n6' n7' n8' v0' v1' v2'
          go_wp2
          go_roundw
          case rel => exact ⟨0 + 1, by go_num, by omega, St, S0, S1, S2, S5, S6⟩
          case measure => simp [intOf]
        · have hq5 : Blk wo g5 47 #[.int .i64 c1.1, .int .i64 c1.2.1, .int .i64 c1.2.2, .int .i64 M.2.1.1, .int .i64 M.2.1.2.1, .int .i64 M.2.1.2.2, .int .i64 M.2.2.1, .int .i64 M.2.2.2.1, .int .i64 M.2.2.2.2] := q5.out
          have y5 := q5.out.lt
          have d := q6.out.cell 0
          have n0' := cell_regrown d
          clear d
          have d := q6.out.cell 1
          have n1' := cell_regrown d
          clear d
          have d := q6.out.cell 2
          have n2' := cell_regrown d
          clear d
          have d := q6.out.cell 3
          have n3' := cell_regrown d
          clear d
          have d := q6.out.cell 4
          have n4' := cell_regrown d
          clear d
          have d := q6.out.cell 5
          have n5' := cell_regrown d
          clear d
          have d := q6.out.cell 6
          have n6' := cell_regrown d
          clear d
          have d := q6.out.cell 7
          have n7' := cell_regrown d
          clear d
          have d := q6.out.cell 8
          have n8' := cell_regrown d
          clear d
          have d := hq5.cell 3
          have v0' := cell_regrown d
          clear d
          have d := hq5.cell 4
          have v1' := cell_regrown d
          clear d
          have d := hq5.cell 5
          have v2' := cell_regrown d
          clear d
          have sc : ∀ q os, Calls Tryd.prog 49 #[.agg #[.int .i64 N.1.1, .int .i64 N.1.2.1, .int .i64 N.1.2.2, .int .i64 N.2.1.1, .int .i64 N.2.1.2.1, .int .i64 N.2.1.2.2, .int .i64 N.2.2.1, .int .i64 N.2.2.2.1, .int .i64 N.2.2.2.2], .agg #[.int .i64 M.2.1.1, .int .i64 M.2.1.2.1, .int .i64 M.2.1.2.2]] (grow (redrawn wo q) os) fun e w'' => e = .returned (.agg #[.int .i64 c2.1, .int .i64 c2.2.1, .int .i64 c2.2.2]) ∧ ∃ p : Regrown, w'' = grow (redrawn wo p.d) p.os := fun q os => Calls.regrown_of (Y2.out _)
          have Sc := Lib.hid sc; clear sc
          have Hq5 := Lib.hid hq5; clear hq5
          go_upto_region 5 with fail
          refine wp_region_store 7 (by kernel_rfl) rfl rfl rfl (by kernel_rfl) (by kernel_rfl) (by kernel_rfl) ?_
          simp only [List.take_succ_cons, List.take_zero, List.cons_append, List.nil_append, nopT]
          iterate 7 (go_big_quiet_step (exact (Sc.out _ _).mono fun e w'' h => h))
          refine wpQuiet_nil ?_
          rintro w' ⟨⟨dq, osq⟩, rfl⟩
          have hbr := below_regrown wo dq osq
          generalize grow (redrawn wo dq) osq = w5 at hbr ⊢
          have r5 := Hq5.out.same (hbr.block _ y5)
          refine wp_storeAtG 24 (.tmp 23) (.tmp 22) 3 _ #[.int .i64 c2.1, .int .i64 c2.2.1, .int .i64 c2.2.2] #[.int .i64 c1.1, .int .i64 c1.2.1, .int .i64 c1.2.2, .int .i64 c2.1, .int .i64 c2.2.1, .int .i64 c2.2.2, .int .i64 M.2.2.1, .int .i64 M.2.2.2.1, .int .i64 M.2.2.2.2] rfl rfl rfl r5 (by kernel_rfl) (by simp) (by simp [Value.oneCell']) rfl rfl ?_
          have s0 := (q0.out.same (hbr.block _ q0.out.lt)).same (setRow_other w5 g5 w.heap.size #[.int .i64 c1.1, .int .i64 c1.2.1, .int .i64 c1.2.2, .int .i64 c2.1, .int .i64 c2.2.1, .int .i64 c2.2.2, .int .i64 M.2.2.1, .int .i64 M.2.2.2.1, .int .i64 M.2.2.2.2] (by omega))
          have s1 := (q1.out.same (hbr.block _ q1.out.lt)).same (setRow_other w5 g5 (w.heap.size + 1) #[.int .i64 c1.1, .int .i64 c1.2.1, .int .i64 c1.2.2, .int .i64 c2.1, .int .i64 c2.2.1, .int .i64 c2.2.2, .int .i64 M.2.2.1, .int .i64 M.2.2.2.1, .int .i64 M.2.2.2.2] (by omega))
          have s2 := (q2.out.same (hbr.block _ q2.out.lt)).same (setRow_other w5 g5 (w.heap.size + 1 + 1) #[.int .i64 c1.1, .int .i64 c1.2.1, .int .i64 c1.2.2, .int .i64 c2.1, .int .i64 c2.2.1, .int .i64 c2.2.2, .int .i64 M.2.2.1, .int .i64 M.2.2.2.1, .int .i64 M.2.2.2.2] (by omega))
          have s6 := (q6.out.same (hbr.block _ q6.out.lt)).same (setRow_other w5 g5 g6 #[.int .i64 c1.1, .int .i64 c1.2.1, .int .i64 c1.2.2, .int .i64 c2.1, .int .i64 c2.2.1, .int .i64 c2.2.2, .int .i64 M.2.2.1, .int .i64 M.2.2.2.1, .int .i64 M.2.2.2.2] (fun e => g56 e.symm))
          have s5 : Blk (w5.setRow g5 #[.int .i64 c1.1, .int .i64 c1.2.1, .int .i64 c1.2.2, .int .i64 c2.1, .int .i64 c2.2.1, .int .i64 c2.2.2, .int .i64 M.2.2.1, .int .i64 M.2.2.2.1, .int .i64 M.2.2.2.2]) g5 47 (matC (stepX M c1 c2 c3 (1 + 1))) := blk_row r5
          have st := row_below (g := g5) (hb0.out.trans (hbr.mono hb0.out.size)) (by omega) #[.int .i64 c1.1, .int .i64 c1.2.1, .int .i64 c1.2.2, .int .i64 c2.1, .int .i64 c2.2.1, .int .i64 c2.2.2, .int .i64 M.2.2.1, .int .i64 M.2.2.2.1, .int .i64 M.2.2.2.2]
          generalize w5.setRow g5 #[.int .i64 c1.1, .int .i64 c1.2.1, .int .i64 c1.2.2, .int .i64 c2.1, .int .i64 c2.2.1, .int .i64 c2.2.2, .int .i64 M.2.2.1, .int .i64 M.2.2.2.1, .int .i64 M.2.2.2.2] = w7 at s0 s1 s2 s5 s6 st ⊢
          have S0 := Lib.hid s0; clear s0
          have S1 := Lib.hid s1; clear s1
          have S2 := Lib.hid s2; clear s2
          have S5 := Lib.hid s5; clear s5
          have S6 := Lib.hid s6; clear s6
          have St := Lib.hid st; clear st
          clear n0' n1' n2' n3' n4' n5' n6' n7' n8' v0' v1' v2'
          go_wp2
          go_roundw
          case rel => exact ⟨1 + 1, by go_num, by omega, St, S0, S1, S2, S5, S6⟩
          case measure => simp [intOf]
        · have hq5 : Blk wo g5 47 #[.int .i64 c1.1, .int .i64 c1.2.1, .int .i64 c1.2.2, .int .i64 c2.1, .int .i64 c2.2.1, .int .i64 c2.2.2, .int .i64 M.2.2.1, .int .i64 M.2.2.2.1, .int .i64 M.2.2.2.2] := q5.out
          have y5 := q5.out.lt
          have d := q6.out.cell 0
          have n0' := cell_regrown d
          clear d
          have d := q6.out.cell 1
          have n1' := cell_regrown d
          clear d
          have d := q6.out.cell 2
          have n2' := cell_regrown d
          clear d
          have d := q6.out.cell 3
          have n3' := cell_regrown d
          clear d
          have d := q6.out.cell 4
          have n4' := cell_regrown d
          clear d
          have d := q6.out.cell 5
          have n5' := cell_regrown d
          clear d
          have d := q6.out.cell 6
          have n6' := cell_regrown d
          clear d
          have d := q6.out.cell 7
          have n7' := cell_regrown d
          clear d
          have d := q6.out.cell 8
          have n8' := cell_regrown d
          clear d
          have d := hq5.cell 6
          have v0' := cell_regrown d
          clear d
          have d := hq5.cell 7
          have v1' := cell_regrown d
          clear d
          have d := hq5.cell 8
          have v2' := cell_regrown d
          clear d
          have sc : ∀ q os, Calls Tryd.prog 49 #[.agg #[.int .i64 N.1.1, .int .i64 N.1.2.1, .int .i64 N.1.2.2, .int .i64 N.2.1.1, .int .i64 N.2.1.2.1, .int .i64 N.2.1.2.2, .int .i64 N.2.2.1, .int .i64 N.2.2.2.1, .int .i64 N.2.2.2.2], .agg #[.int .i64 M.2.2.1, .int .i64 M.2.2.2.1, .int .i64 M.2.2.2.2]] (grow (redrawn wo q) os) fun e w'' => e = .returned (.agg #[.int .i64 c3.1, .int .i64 c3.2.1, .int .i64 c3.2.2]) ∧ ∃ p : Regrown, w'' = grow (redrawn wo p.d) p.os := fun q os => Calls.regrown_of (Y3.out _)
          have Sc := Lib.hid sc; clear sc
          have Hq5 := Lib.hid hq5; clear hq5
          go_upto_region 5 with fail
          refine wp_region_store 7 (by kernel_rfl) rfl rfl rfl (by kernel_rfl) (by kernel_rfl) (by kernel_rfl) ?_
          simp only [List.take_succ_cons, List.take_zero, List.cons_append, List.nil_append, nopT]
          iterate 7 (go_big_quiet_step (exact (Sc.out _ _).mono fun e w'' h => h))
          refine wpQuiet_nil ?_
          rintro w' ⟨⟨dq, osq⟩, rfl⟩
          have hbr := below_regrown wo dq osq
          generalize grow (redrawn wo dq) osq = w5 at hbr ⊢
          have r5 := Hq5.out.same (hbr.block _ y5)
          refine wp_storeAtG 24 (.tmp 23) (.tmp 22) 6 _ #[.int .i64 c3.1, .int .i64 c3.2.1, .int .i64 c3.2.2] #[.int .i64 c1.1, .int .i64 c1.2.1, .int .i64 c1.2.2, .int .i64 c2.1, .int .i64 c2.2.1, .int .i64 c2.2.2, .int .i64 c3.1, .int .i64 c3.2.1, .int .i64 c3.2.2] rfl rfl rfl r5 (by kernel_rfl) (by simp) (by simp [Value.oneCell']) rfl rfl ?_
          have s0 := (q0.out.same (hbr.block _ q0.out.lt)).same (setRow_other w5 g5 w.heap.size #[.int .i64 c1.1, .int .i64 c1.2.1, .int .i64 c1.2.2, .int .i64 c2.1, .int .i64 c2.2.1, .int .i64 c2.2.2, .int .i64 c3.1, .int .i64 c3.2.1, .int .i64 c3.2.2] (by omega))
          have s1 := (q1.out.same (hbr.block _ q1.out.lt)).same (setRow_other w5 g5 (w.heap.size + 1) #[.int .i64 c1.1, .int .i64 c1.2.1, .int .i64 c1.2.2, .int .i64 c2.1, .int .i64 c2.2.1, .int .i64 c2.2.2, .int .i64 c3.1, .int .i64 c3.2.1, .int .i64 c3.2.2] (by omega))
          have s2 := (q2.out.same (hbr.block _ q2.out.lt)).same (setRow_other w5 g5 (w.heap.size + 1 + 1) #[.int .i64 c1.1, .int .i64 c1.2.1, .int .i64 c1.2.2, .int .i64 c2.1, .int .i64 c2.2.1, .int .i64 c2.2.2, .int .i64 c3.1, .int .i64 c3.2.1, .int .i64 c3.2.2] (by omega))
          have s6 := (q6.out.same (hbr.block _ q6.out.lt)).same (setRow_other w5 g5 g6 #[.int .i64 c1.1, .int .i64 c1.2.1, .int .i64 c1.2.2, .int .i64 c2.1, .int .i64 c2.2.1, .int .i64 c2.2.2, .int .i64 c3.1, .int .i64 c3.2.1, .int .i64 c3.2.2] (fun e => g56 e.symm))
          have s5 : Blk (w5.setRow g5 #[.int .i64 c1.1, .int .i64 c1.2.1, .int .i64 c1.2.2, .int .i64 c2.1, .int .i64 c2.2.1, .int .i64 c2.2.2, .int .i64 c3.1, .int .i64 c3.2.1, .int .i64 c3.2.2]) g5 47 (matC (stepX M c1 c2 c3 (2 + 1))) := blk_row r5
          have st := row_below (g := g5) (hb0.out.trans (hbr.mono hb0.out.size)) (by omega) #[.int .i64 c1.1, .int .i64 c1.2.1, .int .i64 c1.2.2, .int .i64 c2.1, .int .i64 c2.2.1, .int .i64 c2.2.2, .int .i64 c3.1, .int .i64 c3.2.1, .int .i64 c3.2.2]
          generalize w5.setRow g5 #[.int .i64 c1.1, .int .i64 c1.2.1, .int .i64 c1.2.2, .int .i64 c2.1, .int .i64 c2.2.1, .int .i64 c2.2.2, .int .i64 c3.1, .int .i64 c3.2.1, .int .i64 c3.2.2] = w7 at s0 s1 s2 s5 s6 st ⊢
          have S0 := Lib.hid s0; clear s0
          have S1 := Lib.hid s1; clear s1
          have S2 := Lib.hid s2; clear s2
          have S5 := Lib.hid s5; clear s5
          have S6 := Lib.hid s6; clear s6
          have St := Lib.hid st; clear st
          clear n0' n1' n2' n3' n4' n5' n6' n7' n8' v0' v1' v2'
          go_wp2
          go_roundw
          case rel => exact ⟨2 + 1, by go_num, by omega, St, S0, S1, S2, S5, S6⟩
          case measure => simp [intOf]

end Go.Proofs.YtldccpmnboebmaaDoor
