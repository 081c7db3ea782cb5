/-
  Layer 16: the walks of axes and of the reference's Images.
-/
import Derived.Test.YtldccpmnboebmaaVd
import Derived.Test.YtldccpmnboebmaaOwn
import Derived.Test.YtldccpmnboebmaaLy
import Derived.Deep.DeepCutAuto
import Derived.Deep.RegionHeld3
namespace Go.Proofs.Ytldccpmnboebmaa
open Go.RowKit Go.Sort
set_option linter.unusedVariables false

section
variable {P : Program}
/-- a struct's or an array's store to a known block -/
theorem wp_storeG {o : Oper} {a : Act} {K : Act → World → Prop} {Q : Exit → Act → World → Prop} {w : World} {g : Nat} {t : TypeId} (ty : TypeId) (p x : Operand) (old cells : Array Value) (ho : o.op = .store ty p x) (hp : a.eval p = .pointer (some ⟨g, 0, none⟩)) (hx : a.eval x = .agg cells)
    (hg : Blk w g t old) (hi : (P.info? ty).map (·.size) = some cells.size) (hs : old.size = cells.size) (h1 : cells.all (·.oneCell') = true) (hd : o.dst = none) (h : K a (w.setRow g cells)) : o.wp P a w K Q := by
  have hr := run_storeVar_row (P := P) w g t ty old cells hg hi hs h1
  unfold Oper.wp
  obtain ⟨dst, op, tt, ps, af, gd⟩ := o
  simp only at ho hd
  subst ho hd
  simp [execOp, Instr.storeAt, Instr.sureAddr, hp, hx, hr, Oper.upon]
  exact h
theorem wpList_storeG {ops : Array Oper} {rest : List Oper} {o : Oper} {a : Act} {Q : Exit → Act → World → Prop} {w : World} {g : Nat} {t : TypeId} (ty : TypeId) (p x : Operand) (old cells : Array Value) (hgd : o.guard = none) (ho : o.op = .store ty p x) (hp : a.eval p = .pointer (some ⟨g, 0, none⟩)) (hx : a.eval x = .agg cells)
    (hg : Blk w g t old) (hi : (P.info? ty).map (·.size) = some cells.size) (hs : old.size = cells.size) (h1 : cells.all (·.oneCell') = true) (hd : o.dst = none) (h : wpList P ops Q rest a (w.setRow g cells)) : wpList P ops Q (o :: rest) a w := by
  unfold wpList
  rw [if_pos (by simp [Region.wanted, hgd])]
  exact .inl (wp_storeG ty p x old cells ho hp hx hg hi hs h1 hd h)
end
theorem blk_row {w : World} {g : Nat} {t : TypeId} {old cs : Array Value} (h : Blk w g t old) : Blk (w.setRow g cs) g t cs := setRow_heap w g old cs t (0, 0) h
theorem row_below {B g : Nat} {w0 w : World} (h : RowKit.Below B w0 w) (hg : B ≤ g) (cs : Array Value) : RowKit.Below B w0 (w.setRow g cs) :=
  ⟨h.os, h.tape, h.output, by simpa using h.size, fun k hk => (setRow_other w g k cs (by omega)).trans (h.block k hk)⟩

def MatPost (m : M3) (w : World) (e : Ending) (w' : World) : Prop :=
  e = .returned (.agg #[.int .i64 m.1.1, .int .i64 m.1.2.1, .int .i64 m.1.2.2, .int .i64 m.2.1.1, .int .i64 m.2.1.2.1, .int .i64 m.2.1.2.2, .int .i64 m.2.2.1, .int .i64 m.2.2.2.1, .int .i64 m.2.2.2.2]) ∧ RowKit.Below w.heap.size w w'
theorem dirV_unit : ∀ d : Fin 6, unitV (dirV d.val) = true := by decide +kernel
set_option maxRecDepth 100000 in
set_option maxHeartbeats 4000000 in
theorem axes_calls (t : Nat) (ht : t < 24) (w : World) : Calls Try.prog 63 #[.int .u8 (t : Int)] w (MatPost (axT t) w) := by
  have e1 : (t : Int) / 4 = ((t / 4 : Nat) : Int) := by omega
  have e2 : (t : Int) % 4 = ((t % 4 : Nat) : Int) := by omega
  obtain ⟨q, hq⟩ : ∃ q, t / 4 = q := ⟨_, rfl⟩
  obtain ⟨r, hr⟩ : ∃ r, t % 4 = r := ⟨_, rfl⟩
  rw [hq] at e1
  rw [hr] at e2
  have hq6 : q < 6 := by omega
  have hr4 : r < 4 := by omega
  have e3 : (q : Int) / 2 = ((q / 2 : Nat) : Int) := by omega
  obtain ⟨p, hp⟩ : ∃ p, q / 2 = p := ⟨_, rfl⟩
  rw [hp] at e3
  have hp3 : p ≤ 2 := by omega
  by_cases hb : p * 2 ≤ r
  · have hs : secN t = r + 2 := by unfold secN; rw [hq, hr, hp, if_pos hb]
    have hb' : (p : Int) * 2 ≤ (r : Int) := by omega
    have hax : axT t = (dirV q, dirV (r + 2), crossV (dirV q) (dirV (r + 2))) := by unfold axT; rw [hq, hs]
    have u1 := dirV_unit ⟨q, hq6⟩
    have u2 := dirV_unit ⟨r + 2, by omega⟩
    simp only at u1 u2
    have c1 := direction_calls ⟨q, hq6⟩
    have c2 := direction_calls ⟨r + 2, by omega⟩
    have hcast : ((r + 2 : Nat) : Int) = (r : Int) + 2 := by omega
    simp only [hcast] at c1 c2
    rw [hax]
    obtain ⟨v1, hv1⟩ : ∃ v, dirV q = v := ⟨_, rfl⟩
    obtain ⟨v2, hv2⟩ : ∃ v, dirV (r + 2) = v := ⟨_, rfl⟩
    rw [hv1] at u1 c1 ⊢
    rw [hv2] at u2 c2 ⊢
    have U1 := Lib.hid u1; clear u1
    have U2 := Lib.hid u2; clear u2
    have C1 := Lib.hid c1; clear c1
    have C2 := Lib.hid c2; clear c2
    have Hv1 := Lib.hid hv1; clear hv1
    have Hv2 := Lib.hid hv2; clear hv2
    have Hax := Lib.hid hax; clear hax
    have Hs := Lib.hid hs; clear hs
    have Hq := Lib.hid hq; clear hq
    have Hr := Lib.hid hr; clear hr
    have Hp := Lib.hid hp; clear hp
    clear hb
    go_enter Try.func63, Try.ntmps63
    go_wp2_with fail
    refine (C1.out _).mono ?_
    rintro e w1 ⟨rfl, b1⟩
    have h0 := Blk.new w 89 #[.int .i64 0, .int .i64 0, .int .i64 0, .int .i64 0, .int .i64 0, .int .i64 0, .int .i64 0, .int .i64 0, .int .i64 0]
    have h1 := h0.same (b1.block _ (by simp))
    have t1 := al1.trans (b1.mono al1.size)
    have g1 : w.heap.size < w1.heap.size := by have := b1.size; simp at this; omega
    have H1 := Lib.hid h1; clear h1
    have T1 := Lib.hid t1; clear t1
    clear b1 h0
    go_wp2_with fail
    refine (C2.out _).mono ?_
    rintro e w2 ⟨rfl, b2⟩
    have h2 := H1.out.same (b2.block _ g1)
    have t2 := T1.out.trans (b2.mono T1.out.size)
    have g2 := b2.size
    have H2 := Lib.hid h2; clear h2
    have T2 := Lib.hid t2; clear t2
    clear b2
    go_upto_region 6 with fail
    obtain ⟨wS, hwS⟩ : ∃ W, W = ((w2.alloc (.cells #[.int .i64 v1.1, .int .i64 v1.2.1, .int .i64 v1.2.2] 25)).alloc (.cells #[.int .i64 v2.1, .int .i64 v2.2.1, .int .i64 v2.2.2] 25)) := ⟨_, rfl⟩
    have kS : Blk wS w.heap.size 89 #[.int .i64 0, .int .i64 0, .int .i64 0, .int .i64 0, .int .i64 0, .int .i64 0, .int .i64 0, .int .i64 0, .int .i64 0] := by rw [hwS]; exact (H2.out.alloc _).alloc _
    have k1 : Blk wS w2.heap.size 25 #[.int .i64 v1.1, .int .i64 v1.2.1, .int .i64 v1.2.2] := by rw [hwS]; exact (Blk.new w2 _ _).alloc _
    have k2 : Blk wS (w2.heap.size + 1) 25 #[.int .i64 v2.1, .int .i64 v2.2.1, .int .i64 v2.2.2] := by
      rw [hwS]
      have := Blk.new (w2.alloc (.cells #[.int .i64 v1.1, .int .i64 v1.2.1, .int .i64 v1.2.2] 25)) 25 #[.int .i64 v2.1, .int .i64 v2.2.1, .int .i64 v2.2.2]
      simpa using this
    have tS : RowKit.Below w.heap.size w wS := by rw [hwS]; exact T2.out.trans (al2.mono T2.out.size)
    have zS : wS.heap.size = w2.heap.size + 2 := by rw [hwS]; simp
    rw [← hwS]
    have a0 := k1.cell 0
    have a1 := k1.cell 1
    have a2 := k1.cell 2
    have a3 := k2.cell 0
    have a4 := k2.cell 1
    have a5 := k2.cell 2
    have c0 := cell_regrown a0
    have c1' := cell_regrown a1
    have c2' := cell_regrown a2
    have c3 := cell_regrown a3
    have c4 := cell_regrown a4
    have c5 := cell_regrown a5
    clear a0 a1 a2 a3 a4 a5
    obtain ⟨cv, hcv⟩ : ∃ cv, crossV v1 v2 = cv := ⟨_, rfl⟩
    have hc : ∀ q os, Calls Try.prog 72 #[.agg #[.int .i64 v1.1, .int .i64 v1.2.1, .int .i64 v1.2.2], .agg #[.int .i64 v2.1, .int .i64 v2.2.1, .int .i64 v2.2.2]] (grow (redrawn wS q) os) fun e w'' => e = .returned (.agg #[.int .i64 cv.1, .int .i64 cv.2.1, .int .i64 cv.2.2]) ∧ ∃ p : Regrown, w'' = grow (redrawn wS p.d) p.os := fun q os => by rw [← hcv]; exact Calls.regrown_of (cross_calls v1 v2 _ U1.out U2.out)
    rw [hcv]
    have Hc := Lib.hid hc; clear hc
    have TS := Lib.hid tS; clear tS
    have Hcv := Lib.hid hcv; clear hcv
    have KS := Lib.hid kS; clear kS
    clear k1 k2 hwS
    refine wp_region_store 6 (by kernel_rfl) rfl rfl rfl (by kernel_rfl) (by kernel_rfl) (by kernel_rfl) ?_
    simp only [List.take_succ_cons, List.take_zero, List.cons_append, List.nil_append, nopT]
    iterate 6 (go_big_quiet_step (exact (Hc.out _ _).mono fun e w'' h => h))
    refine wpQuiet_nil ?_
    rintro w' ⟨⟨dq, osq⟩, rfl⟩
    have hbr := below_regrown wS dq osq
    generalize grow (redrawn wS dq) osq = w5 at hbr ⊢
    have k5 := KS.out.same (hbr.block _ (by omega))
    refine wp_storeG 89 (.tmp 2) (.tmp 27) _ #[.int .i64 v1.1, .int .i64 v1.2.1, .int .i64 v1.2.2, .int .i64 v2.1, .int .i64 v2.2.1, .int .i64 v2.2.2, .int .i64 cv.1, .int .i64 cv.2.1, .int .i64 cv.2.2] rfl rfl rfl k5 (by kernel_rfl) rfl (by simp [Value.oneCell']) rfl ?_
    have hfin := blk_row (cs := #[.int .i64 v1.1, .int .i64 v1.2.1, .int .i64 v1.2.2, .int .i64 v2.1, .int .i64 v2.2.1, .int .i64 v2.2.2, .int .i64 cv.1, .int .i64 cv.2.1, .int .i64 cv.2.2]) k5
    have hbel := row_below (g := w.heap.size) (TS.out.trans (hbr.mono TS.out.size)) (Nat.le_refl _) #[.int .i64 v1.1, .int .i64 v1.2.1, .int .i64 v1.2.2, .int .i64 v2.1, .int .i64 v2.2.1, .int .i64 v2.2.2, .int .i64 cv.1, .int .i64 cv.2.1, .int .i64 cv.2.2]
    go_wp2
    refine bodyPost_ret (results_cell_row rfl _ _ w.heap.size 89 _ (0, 0) _ rfl hfin Try.underlying89 rfl (by kernel_rfl)) rfl ?_
    exact ⟨by rw [Hcv.out], hbel⟩
  · have hs : secN t = r := by unfold secN; rw [hq, hr, hp, if_neg hb]
    have hb' : ¬ (p : Int) * 2 ≤ (r : Int) := by omega
    have hax : axT t = (dirV q, dirV r, crossV (dirV q) (dirV r)) := by unfold axT; rw [hq, hs]
    have u1 := dirV_unit ⟨q, hq6⟩
    have u2 := dirV_unit ⟨r, by omega⟩
    simp only at u1 u2
    have c1 := direction_calls ⟨q, hq6⟩
    have c2 := direction_calls ⟨r, by omega⟩
    simp only at c1 c2
    rw [hax]
    obtain ⟨v1, hv1⟩ : ∃ v, dirV q = v := ⟨_, rfl⟩
    obtain ⟨v2, hv2⟩ : ∃ v, dirV r = v := ⟨_, rfl⟩
    rw [hv1] at u1 c1 ⊢
    rw [hv2] at u2 c2 ⊢
    have U1 := Lib.hid u1; clear u1
    have U2 := Lib.hid u2; clear u2
    have C1 := Lib.hid c1; clear c1
    have C2 := Lib.hid c2; clear c2
    have Hv1 := Lib.hid hv1; clear hv1
    have Hv2 := Lib.hid hv2; clear hv2
    have Hax := Lib.hid hax; clear hax
    have Hs := Lib.hid hs; clear hs
    have Hq := Lib.hid hq; clear hq
    have Hr := Lib.hid hr; clear hr
    have Hp := Lib.hid hp; clear hp
    clear hb
    go_enter Try.func63, Try.ntmps63
    go_wp2_with fail
    refine (C1.out _).mono ?_
    rintro e w1 ⟨rfl, b1⟩
    have h0 := Blk.new w 89 #[.int .i64 0, .int .i64 0, .int .i64 0, .int .i64 0, .int .i64 0, .int .i64 0, .int .i64 0, .int .i64 0, .int .i64 0]
    have h1 := h0.same (b1.block _ (by simp))
    have t1 := al1.trans (b1.mono al1.size)
    have g1 : w.heap.size < w1.heap.size := by have := b1.size; simp at this; omega
    have H1 := Lib.hid h1; clear h1
    have T1 := Lib.hid t1; clear t1
    clear b1 h0
    go_wp2_with fail
    refine (C2.out _).mono ?_
    rintro e w2 ⟨rfl, b2⟩
    have h2 := H1.out.same (b2.block _ g1)
    have t2 := T1.out.trans (b2.mono T1.out.size)
    have g2 := b2.size
    have H2 := Lib.hid h2; clear h2
    have T2 := Lib.hid t2; clear t2
    clear b2
    go_upto_region 6 with fail
    obtain ⟨wS, hwS⟩ : ∃ W, W = ((w2.alloc (.cells #[.int .i64 v1.1, .int .i64 v1.2.1, .int .i64 v1.2.2] 25)).alloc (.cells #[.int .i64 v2.1, .int .i64 v2.2.1, .int .i64 v2.2.2] 25)) := ⟨_, rfl⟩
    have kS : Blk wS w.heap.size 89 #[.int .i64 0, .int .i64 0, .int .i64 0, .int .i64 0, .int .i64 0, .int .i64 0, .int .i64 0, .int .i64 0, .int .i64 0] := by rw [hwS]; exact (H2.out.alloc _).alloc _
    have k1 : Blk wS w2.heap.size 25 #[.int .i64 v1.1, .int .i64 v1.2.1, .int .i64 v1.2.2] := by rw [hwS]; exact (Blk.new w2 _ _).alloc _
    have k2 : Blk wS (w2.heap.size + 1) 25 #[.int .i64 v2.1, .int .i64 v2.2.1, .int .i64 v2.2.2] := by
      rw [hwS]
      have := Blk.new (w2.alloc (.cells #[.int .i64 v1.1, .int .i64 v1.2.1, .int .i64 v1.2.2] 25)) 25 #[.int .i64 v2.1, .int .i64 v2.2.1, .int .i64 v2.2.2]
      simpa using this
    have tS : RowKit.Below w.heap.size w wS := by rw [hwS]; exact T2.out.trans (al2.mono T2.out.size)
    have zS : wS.heap.size = w2.heap.size + 2 := by rw [hwS]; simp
    rw [← hwS]
    have a0 := k1.cell 0
    have a1 := k1.cell 1
    have a2 := k1.cell 2
    have a3 := k2.cell 0
    have a4 := k2.cell 1
    have a5 := k2.cell 2
    have c0 := cell_regrown a0
    have c1' := cell_regrown a1
    have c2' := cell_regrown a2
    have c3 := cell_regrown a3
    have c4 := cell_regrown a4
    have c5 := cell_regrown a5
    clear a0 a1 a2 a3 a4 a5
    obtain ⟨cv, hcv⟩ : ∃ cv, crossV v1 v2 = cv := ⟨_, rfl⟩
    have hc : ∀ q os, Calls Try.prog 72 #[.agg #[.int .i64 v1.1, .int .i64 v1.2.1, .int .i64 v1.2.2], .agg #[.int .i64 v2.1, .int .i64 v2.2.1, .int .i64 v2.2.2]] (grow (redrawn wS q) os) fun e w'' => e = .returned (.agg #[.int .i64 cv.1, .int .i64 cv.2.1, .int .i64 cv.2.2]) ∧ ∃ p : Regrown, w'' = grow (redrawn wS p.d) p.os := fun q os => by rw [← hcv]; exact Calls.regrown_of (cross_calls v1 v2 _ U1.out U2.out)
    rw [hcv]
    have Hc := Lib.hid hc; clear hc
    have TS := Lib.hid tS; clear tS
    have Hcv := Lib.hid hcv; clear hcv
    have KS := Lib.hid kS; clear kS
    clear k1 k2 hwS
    refine wp_region_store 6 (by kernel_rfl) rfl rfl rfl (by kernel_rfl) (by kernel_rfl) (by kernel_rfl) ?_
    simp only [List.take_succ_cons, List.take_zero, List.cons_append, List.nil_append, nopT]
    iterate 6 (go_big_quiet_step (exact (Hc.out _ _).mono fun e w'' h => h))
    refine wpQuiet_nil ?_
    rintro w' ⟨⟨dq, osq⟩, rfl⟩
    have hbr := below_regrown wS dq osq
    generalize grow (redrawn wS dq) osq = w5 at hbr ⊢
    have k5 := KS.out.same (hbr.block _ (by omega))
    refine wp_storeG 89 (.tmp 2) (.tmp 27) _ #[.int .i64 v1.1, .int .i64 v1.2.1, .int .i64 v1.2.2, .int .i64 v2.1, .int .i64 v2.2.1, .int .i64 v2.2.2, .int .i64 cv.1, .int .i64 cv.2.1, .int .i64 cv.2.2] rfl rfl rfl k5 (by kernel_rfl) rfl (by simp [Value.oneCell']) rfl ?_
    have hfin := blk_row (cs := #[.int .i64 v1.1, .int .i64 v1.2.1, .int .i64 v1.2.2, .int .i64 v2.1, .int .i64 v2.2.1, .int .i64 v2.2.2, .int .i64 cv.1, .int .i64 cv.2.1, .int .i64 cv.2.2]) k5
    have hbel := row_below (g := w.heap.size) (TS.out.trans (hbr.mono TS.out.size)) (Nat.le_refl _) #[.int .i64 v1.1, .int .i64 v1.2.1, .int .i64 v1.2.2, .int .i64 v2.1, .int .i64 v2.2.1, .int .i64 v2.2.2, .int .i64 cv.1, .int .i64 cv.2.1, .int .i64 cv.2.2]
    go_wp2
    refine bodyPost_ret (results_cell_row rfl _ _ w.heap.size 89 _ (0, 0) _ rfl hfin Try.underlying89 rfl (by kernel_rfl)) rfl ?_
    exact ⟨by rw [Hcv.out], hbel⟩
end Go.Proofs.Ytldccpmnboebmaa
