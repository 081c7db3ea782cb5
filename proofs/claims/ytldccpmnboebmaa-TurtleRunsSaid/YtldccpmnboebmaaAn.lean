/-
  Layer 17: the walks of the reference's turns by quarters.
-/
import Derived.Test.YtldccpmnboebmaaAm
namespace Go.Proofs.Ytldccpmnboebmaa
open Go.RowKit Go.Sort
set_option linter.unusedVariables false

theorem neg_mul1 (v : V3) : mulV (-1) v = negV v := by
  unfold mulV negV
  simp only [Prod.mk.injEq]
  omega
theorem unit_neg {v : V3} (h : unitV v = true) : unitV (negV v) = true := by
  obtain ⟨h1, h2, h3⟩ := unitV_at h
  have : ∀ x : Int, one3 x = true → one3 (-x) = true := fun x hx => by
    unfold one3 at hx ⊢
    simp only [Bool.or_eq_true, beq_iff_eq] at hx ⊢
    omega
  unfold unitV negV
  simp only [this _ h1, this _ h2, this _ h3, Bool.and_self]
theorem timesN_calls (v : V3) (w : World) (hu : unitV v = true) : Calls Try.prog 35 #[.int .i64 (-1), .agg #[.int .i64 v.1, .int .i64 v.2.1, .int .i64 v.2.2]] w (VecPost (negV v) w) := by
  have h := timesS_calls (-1) v w (by
    rw [neg_mul1]
    obtain ⟨h1, h2, h3⟩ := unitV_at (unit_neg hu)
    have k1 := one3_le h1
    have k2 := one3_le h2
    have k3 := one3_le h3
    exact ⟨⟨by omega, by omega⟩, ⟨by omega, by omega⟩, ⟨by omega, by omega⟩⟩)
  rw [neg_mul1] at h
  exact h
set_option maxRecDepth 100000 in
set_option maxHeartbeats 4000000 in
theorem quarter01_calls (g : Nat) (p : V3) (m : M3) (d : Int) (w : World) (hm : unitM m = true) (hB : Blk w g 91 (mRow p m d)) :
    Calls Try.prog 59 #[.pointer (some ⟨g, 0, none⟩), .int .i64 0, .int .i64 1] w (fun e w' => e = .returned (.tuple #[]) ∧ Upd g 91 (mRow p (quM 0 1 m) d) w w') := by
  obtain ⟨X0, X1, X2⟩ := m
  obtain ⟨u0, u1, u2⟩ := unitM_at hm
  simp only at u0 u1 u2
  have ht := fun W' => timesN_calls X0 W' u0
  have hres : mRow p (quM 0 1 (X0, X1, X2)) d = #[.int .i64 p.1, .int .i64 p.2.1, .int .i64 p.2.2, .int .i64 X1.1, .int .i64 X1.2.1, .int .i64 X1.2.2, .int .i64 (negV X0).1, .int .i64 (negV X0).2.1, .int .i64 (negV X0).2.2, .int .i64 X2.1, .int .i64 X2.2.1, .int .i64 X2.2.2, .int .i64 d] := rfl
  obtain ⟨NA, hNA⟩ : ∃ v, negV X0 = v := ⟨_, rfl⟩
  rw [hNA] at ht hres
  rw [hres]
  have hg := hB.lt
  unfold mRow at hB
  simp only at hB
  have y0 := hB.cell 3
  have y1 := hB.cell 4
  have y2 := hB.cell 5
  have y3 := hB.cell 6
  have y4 := hB.cell 7
  have y5 := hB.cell 8
  have sl : ∀ W', RowKit.Below w.heap.size w W' → ∀ q os, Calls Try.prog 35 #[.int .i64 (-1), .agg #[.int .i64 X0.1, .int .i64 X0.2.1, .int .i64 X0.2.2]] (grow (redrawn W' q) os) fun e w'' => e = .returned (.agg #[.int .i64 NA.1, .int .i64 NA.2.1, .int .i64 NA.2.2]) ∧ ∃ p : Regrown, w'' = grow (redrawn W' p.d) p.os := fun W' _ q os => Calls.regrown_of (ht _)
  have HB := Lib.hid hB; clear hB
  have Hres := Lib.hid hres; clear hres
  have HNA := Lib.hid hNA; clear hNA
  have U0 := Lib.hid u0; clear u0
  have U1 := Lib.hid u1; clear u1
  have U2 := Lib.hid u2; clear u2
  have Hm := Lib.hid hm; clear hm
  have Ht := Lib.hid ht; clear ht
  have Sl := Lib.hid sl; clear sl
  go_enter Try.func59, Try.ntmps59
  go_upto_region 0 with fail
  refine region_perm [2, 3, 21, 22, 0, 1, 4, 5, 6, 7, 8, 9, 10, 11, 12, 13, 14, 15, 16, 17, 18, 19, 20, 23, 24] [4, 5, 0, 1, 6, 7, 8, 9, 10, 11, 12, 13, 14, 15, 16, 17, 18, 19, 20, 21, 22, 2, 3, 23, 24] (by kernel_rfl) (by kernel_rfl) ?_
  refine any_start ?_
  refine any_takeK 0 8 (.pointer (some ⟨g, 0, none⟩)) (by decide) rfl (by kernel_rfl) (by kernel_rfl) (by kernel_rfl) (fun _ _ _ h => h) (fun _ => rfl) ?_
  simp only [List.setIfInBounds_toArray, List.set_cons_succ, List.set_cons_zero, Nat.reduceAdd]
  refine any_takeK 1 9 (.int .i64 1) (by decide) rfl (by kernel_rfl) (by kernel_rfl) (by kernel_rfl) (fun _ _ _ h => h) (fun _ => rfl) ?_
  simp only [List.setIfInBounds_toArray, List.set_cons_succ, List.set_cons_zero, Nat.reduceAdd]
  refine any_takeK 2 26 (.pointer (some ⟨g, 0, none⟩)) (by decide) rfl (by kernel_rfl) (by kernel_rfl) (by kernel_rfl) (fun _ _ _ h => h) (fun _ => by kernel_rfl) ?_
  simp only [List.setIfInBounds_toArray, List.set_cons_succ, List.set_cons_zero, Nat.reduceAdd]
  refine any_takeK 3 27 (.pointer (some ⟨g, 3, none⟩)) (by decide) rfl (by kernel_rfl) (by kernel_rfl) (by kernel_rfl) (fun _ _ _ h => h) (fun _ => by kernel_rfl) ?_
  simp only [List.setIfInBounds_toArray, List.set_cons_succ, List.set_cons_zero, Nat.reduceAdd]
  refine any_floatB 4 (w := w) (w1 := { w with drawn := w.drawn + 1 }) ⟨rfl, rfl, rfl, Nat.le_refl _, fun _ _ => rfl⟩ 22 [] (by kernel_rfl) rfl (fun x hx => absurd hx List.not_mem_nil) (fun x hx => absurd hx List.not_mem_nil) (fun x hx => absurd hx List.not_mem_nil) ?_
  apply Exists.intro
  refine And.intro ?walk (And.intro ?vals ?tail)
  case walk =>
    intro W' hW'
    have e0 := cell_regrown ((cell_keep (hW'.block g hg)).trans y0)
    have e1 := cell_regrown ((cell_keep (hW'.block g hg)).trans y1)
    have e2 := cell_regrown ((cell_keep (hW'.block g hg)).trans y2)
    have e3 := cell_regrown ((cell_keep (hW'.block g hg)).trans y3)
    have e4 := cell_regrown ((cell_keep (hW'.block g hg)).trans y4)
    have e5 := cell_regrown ((cell_keep (hW'.block g hg)).trans y5)
    have si := Sl.out W' hW'
    have Si := Lib.hid si; clear si
    simp only [permL, renO, virtQ, fltQ, nopT, List.getD_cons_succ, List.getD_cons_zero, List.take_succ_cons, List.take_zero, List.drop_succ_cons, List.drop_zero, List.map_cons, List.map_nil, List.cons_append, List.nil_append, Option.map_none]
    iterate 18 (go_big_quiet_step (exact (Si.out _ _).mono fun e w'' h => h))
    iterate 3 (go_big_quiet_step (fail))
    exact wpQuiet_nil rfl
  case vals => trivial
  case tail =>
    intro pf w2 hbw2 _ _
    simp only [permL, renO, putsB, List.getD_cons_succ, List.getD_cons_zero, List.drop_succ_cons, List.drop_zero, List.map_cons, List.map_nil, Option.map_none]
    have n0 := HB.out.same (hbw2.block _ hg)
    have v1 := Upd.after hbw2 ((Upd.refl n0).setRow #[.int .i64 p.1, .int .i64 p.2.1, .int .i64 p.2.2, .int .i64 X1.1, .int .i64 X1.2.1, .int .i64 X1.2.2, .int .i64 X1.1, .int .i64 X1.2.1, .int .i64 X1.2.2, .int .i64 X2.1, .int .i64 X2.2.1, .int .i64 X2.2.2, .int .i64 d])
    have v2 := v1.setRow #[.int .i64 p.1, .int .i64 p.2.1, .int .i64 p.2.2, .int .i64 X1.1, .int .i64 X1.2.1, .int .i64 X1.2.2, .int .i64 NA.1, .int .i64 NA.2.1, .int .i64 NA.2.2, .int .i64 X2.1, .int .i64 X2.2.1, .int .i64 X2.2.2, .int .i64 d]
    have n1 := v1.blk
    have V1 := Lib.hid v1; clear v1
    have V2 := Lib.hid v2; clear v2
    refine wpList_storeAtG 25 (.tmp 25) (.tmp 15) 3 _ #[.int .i64 X1.1, .int .i64 X1.2.1, .int .i64 X1.2.2] #[.int .i64 p.1, .int .i64 p.2.1, .int .i64 p.2.2, .int .i64 X1.1, .int .i64 X1.2.1, .int .i64 X1.2.2, .int .i64 X1.1, .int .i64 X1.2.1, .int .i64 X1.2.2, .int .i64 X2.1, .int .i64 X2.2.1, .int .i64 X2.2.2, .int .i64 d] rfl rfl rfl rfl n0 (by kernel_rfl) (by simp) (by simp [Value.oneCell']) rfl rfl ?_
    go_wp2_with ((with_reducible show wpList _ _ _ (Oper.mk none _ _ _ _ _ :: _) _ _); refine wpList_storeAtG 25 (.tmp 28) (.tmp 22) 6 _ #[.int .i64 NA.1, .int .i64 NA.2.1, .int .i64 NA.2.2] #[.int .i64 p.1, .int .i64 p.2.1, .int .i64 p.2.2, .int .i64 X1.1, .int .i64 X1.2.1, .int .i64 X1.2.2, .int .i64 NA.1, .int .i64 NA.2.1, .int .i64 NA.2.2, .int .i64 X2.1, .int .i64 X2.2.1, .int .i64 X2.2.2, .int .i64 d] rfl rfl rfl rfl n1 (by kernel_rfl) (by simp) (by simp [Value.oneCell']) rfl rfl ?_)
    go_end0
    exact ⟨rfl, V2.out⟩
set_option maxRecDepth 100000 in
set_option maxHeartbeats 4000000 in
theorem quarter10_calls (g : Nat) (p : V3) (m : M3) (d : Int) (w : World) (hm : unitM m = true) (hB : Blk w g 91 (mRow p m d)) :
    Calls Try.prog 59 #[.pointer (some ⟨g, 0, none⟩), .int .i64 1, .int .i64 0] w (fun e w' => e = .returned (.tuple #[]) ∧ Upd g 91 (mRow p (quM 1 0 m) d) w w') := by
  obtain ⟨X0, X1, X2⟩ := m
  obtain ⟨u0, u1, u2⟩ := unitM_at hm
  simp only at u0 u1 u2
  have ht := fun W' => timesN_calls X1 W' u1
  have hres : mRow p (quM 1 0 (X0, X1, X2)) d = #[.int .i64 p.1, .int .i64 p.2.1, .int .i64 p.2.2, .int .i64 (negV X1).1, .int .i64 (negV X1).2.1, .int .i64 (negV X1).2.2, .int .i64 X0.1, .int .i64 X0.2.1, .int .i64 X0.2.2, .int .i64 X2.1, .int .i64 X2.2.1, .int .i64 X2.2.2, .int .i64 d] := rfl
  obtain ⟨NA, hNA⟩ : ∃ v, negV X1 = v := ⟨_, rfl⟩
  rw [hNA] at ht hres
  rw [hres]
  have hg := hB.lt
  unfold mRow at hB
  simp only at hB
  have y0 := hB.cell 6
  have y1 := hB.cell 7
  have y2 := hB.cell 8
  have y3 := hB.cell 3
  have y4 := hB.cell 4
  have y5 := hB.cell 5
  have sl : ∀ W', RowKit.Below w.heap.size w W' → ∀ q os, Calls Try.prog 35 #[.int .i64 (-1), .agg #[.int .i64 X1.1, .int .i64 X1.2.1, .int .i64 X1.2.2]] (grow (redrawn W' q) os) fun e w'' => e = .returned (.agg #[.int .i64 NA.1, .int .i64 NA.2.1, .int .i64 NA.2.2]) ∧ ∃ p : Regrown, w'' = grow (redrawn W' p.d) p.os := fun W' _ q os => Calls.regrown_of (ht _)
  have HB := Lib.hid hB; clear hB
  have Hres := Lib.hid hres; clear hres
  have HNA := Lib.hid hNA; clear hNA
  have U0 := Lib.hid u0; clear u0
  have U1 := Lib.hid u1; clear u1
  have U2 := Lib.hid u2; clear u2
  have Hm := Lib.hid hm; clear hm
  have Ht := Lib.hid ht; clear ht
  have Sl := Lib.hid sl; clear sl
  go_enter Try.func59, Try.ntmps59
  go_upto_region 0 with fail
  refine region_perm [2, 3, 21, 22, 0, 1, 4, 5, 6, 7, 8, 9, 10, 11, 12, 13, 14, 15, 16, 17, 18, 19, 20, 23, 24] [4, 5, 0, 1, 6, 7, 8, 9, 10, 11, 12, 13, 14, 15, 16, 17, 18, 19, 20, 21, 22, 2, 3, 23, 24] (by kernel_rfl) (by kernel_rfl) ?_
  refine any_start ?_
  refine any_takeK 0 8 (.pointer (some ⟨g, 0, none⟩)) (by decide) rfl (by kernel_rfl) (by kernel_rfl) (by kernel_rfl) (fun _ _ _ h => h) (fun _ => rfl) ?_
  simp only [List.setIfInBounds_toArray, List.set_cons_succ, List.set_cons_zero, Nat.reduceAdd]
  refine any_takeK 1 9 (.int .i64 0) (by decide) rfl (by kernel_rfl) (by kernel_rfl) (by kernel_rfl) (fun _ _ _ h => h) (fun _ => rfl) ?_
  simp only [List.setIfInBounds_toArray, List.set_cons_succ, List.set_cons_zero, Nat.reduceAdd]
  refine any_takeK 2 26 (.pointer (some ⟨g, 0, none⟩)) (by decide) rfl (by kernel_rfl) (by kernel_rfl) (by kernel_rfl) (fun _ _ _ h => h) (fun _ => by kernel_rfl) ?_
  simp only [List.setIfInBounds_toArray, List.set_cons_succ, List.set_cons_zero, Nat.reduceAdd]
  refine any_takeK 3 27 (.pointer (some ⟨g, 3, none⟩)) (by decide) rfl (by kernel_rfl) (by kernel_rfl) (by kernel_rfl) (fun _ _ _ h => h) (fun _ => by kernel_rfl) ?_
  simp only [List.setIfInBounds_toArray, List.set_cons_succ, List.set_cons_zero, Nat.reduceAdd]
  refine any_floatB 4 (w := w) (w1 := { w with drawn := w.drawn + 1 }) ⟨rfl, rfl, rfl, Nat.le_refl _, fun _ _ => rfl⟩ 22 [] (by kernel_rfl) rfl (fun x hx => absurd hx List.not_mem_nil) (fun x hx => absurd hx List.not_mem_nil) (fun x hx => absurd hx List.not_mem_nil) ?_
  apply Exists.intro
  refine And.intro ?walk (And.intro ?vals ?tail)
  case walk =>
    intro W' hW'
    have e0 := cell_regrown ((cell_keep (hW'.block g hg)).trans y0)
    have e1 := cell_regrown ((cell_keep (hW'.block g hg)).trans y1)
    have e2 := cell_regrown ((cell_keep (hW'.block g hg)).trans y2)
    have e3 := cell_regrown ((cell_keep (hW'.block g hg)).trans y3)
    have e4 := cell_regrown ((cell_keep (hW'.block g hg)).trans y4)
    have e5 := cell_regrown ((cell_keep (hW'.block g hg)).trans y5)
    have si := Sl.out W' hW'
    have Si := Lib.hid si; clear si
    simp only [permL, renO, virtQ, fltQ, nopT, List.getD_cons_succ, List.getD_cons_zero, List.take_succ_cons, List.take_zero, List.drop_succ_cons, List.drop_zero, List.map_cons, List.map_nil, List.cons_append, List.nil_append, Option.map_none]
    iterate 18 (go_big_quiet_step (exact (Si.out _ _).mono fun e w'' h => h))
    iterate 3 (go_big_quiet_step (fail))
    exact wpQuiet_nil rfl
  case vals => trivial
  case tail =>
    intro pf w2 hbw2 _ _
    simp only [permL, renO, putsB, List.getD_cons_succ, List.getD_cons_zero, List.drop_succ_cons, List.drop_zero, List.map_cons, List.map_nil, Option.map_none]
    have n0 := HB.out.same (hbw2.block _ hg)
    have v1 := Upd.after hbw2 ((Upd.refl n0).setRow #[.int .i64 p.1, .int .i64 p.2.1, .int .i64 p.2.2, .int .i64 X0.1, .int .i64 X0.2.1, .int .i64 X0.2.2, .int .i64 X0.1, .int .i64 X0.2.1, .int .i64 X0.2.2, .int .i64 X2.1, .int .i64 X2.2.1, .int .i64 X2.2.2, .int .i64 d])
    have v2 := v1.setRow #[.int .i64 p.1, .int .i64 p.2.1, .int .i64 p.2.2, .int .i64 NA.1, .int .i64 NA.2.1, .int .i64 NA.2.2, .int .i64 X0.1, .int .i64 X0.2.1, .int .i64 X0.2.2, .int .i64 X2.1, .int .i64 X2.2.1, .int .i64 X2.2.2, .int .i64 d]
    have n1 := v1.blk
    have V1 := Lib.hid v1; clear v1
    have V2 := Lib.hid v2; clear v2
    refine wpList_storeAtG 25 (.tmp 25) (.tmp 15) 6 _ #[.int .i64 X0.1, .int .i64 X0.2.1, .int .i64 X0.2.2] #[.int .i64 p.1, .int .i64 p.2.1, .int .i64 p.2.2, .int .i64 X0.1, .int .i64 X0.2.1, .int .i64 X0.2.2, .int .i64 X0.1, .int .i64 X0.2.1, .int .i64 X0.2.2, .int .i64 X2.1, .int .i64 X2.2.1, .int .i64 X2.2.2, .int .i64 d] rfl rfl rfl rfl n0 (by kernel_rfl) (by simp) (by simp [Value.oneCell']) rfl rfl ?_
    go_wp2_with ((with_reducible show wpList _ _ _ (Oper.mk none _ _ _ _ _ :: _) _ _); refine wpList_storeAtG 25 (.tmp 28) (.tmp 22) 3 _ #[.int .i64 NA.1, .int .i64 NA.2.1, .int .i64 NA.2.2] #[.int .i64 p.1, .int .i64 p.2.1, .int .i64 p.2.2, .int .i64 NA.1, .int .i64 NA.2.1, .int .i64 NA.2.2, .int .i64 X0.1, .int .i64 X0.2.1, .int .i64 X0.2.2, .int .i64 X2.1, .int .i64 X2.2.1, .int .i64 X2.2.2, .int .i64 d] rfl rfl rfl rfl n1 (by kernel_rfl) (by simp) (by simp [Value.oneCell']) rfl rfl ?_)
    go_end0
    exact ⟨rfl, V2.out⟩
set_option maxRecDepth 100000 in
set_option maxHeartbeats 4000000 in
theorem quarter02_calls (g : Nat) (p : V3) (m : M3) (d : Int) (w : World) (hm : unitM m = true) (hB : Blk w g 91 (mRow p m d)) :
    Calls Try.prog 59 #[.pointer (some ⟨g, 0, none⟩), .int .i64 0, .int .i64 2] w (fun e w' => e = .returned (.tuple #[]) ∧ Upd g 91 (mRow p (quM 0 2 m) d) w w') := by
  obtain ⟨X0, X1, X2⟩ := m
  obtain ⟨u0, u1, u2⟩ := unitM_at hm
  simp only at u0 u1 u2
  have ht := fun W' => timesN_calls X0 W' u0
  have hres : mRow p (quM 0 2 (X0, X1, X2)) d = #[.int .i64 p.1, .int .i64 p.2.1, .int .i64 p.2.2, .int .i64 X2.1, .int .i64 X2.2.1, .int .i64 X2.2.2, .int .i64 X1.1, .int .i64 X1.2.1, .int .i64 X1.2.2, .int .i64 (negV X0).1, .int .i64 (negV X0).2.1, .int .i64 (negV X0).2.2, .int .i64 d] := rfl
  obtain ⟨NA, hNA⟩ : ∃ v, negV X0 = v := ⟨_, rfl⟩
  rw [hNA] at ht hres
  rw [hres]
  have hg := hB.lt
  unfold mRow at hB
  simp only at hB
  have y0 := hB.cell 3
  have y1 := hB.cell 4
  have y2 := hB.cell 5
  have y3 := hB.cell 9
  have y4 := hB.cell 10
  have y5 := hB.cell 11
  have sl : ∀ W', RowKit.Below w.heap.size w W' → ∀ q os, Calls Try.prog 35 #[.int .i64 (-1), .agg #[.int .i64 X0.1, .int .i64 X0.2.1, .int .i64 X0.2.2]] (grow (redrawn W' q) os) fun e w'' => e = .returned (.agg #[.int .i64 NA.1, .int .i64 NA.2.1, .int .i64 NA.2.2]) ∧ ∃ p : Regrown, w'' = grow (redrawn W' p.d) p.os := fun W' _ q os => Calls.regrown_of (ht _)
  have HB := Lib.hid hB; clear hB
  have Hres := Lib.hid hres; clear hres
  have HNA := Lib.hid hNA; clear hNA
  have U0 := Lib.hid u0; clear u0
  have U1 := Lib.hid u1; clear u1
  have U2 := Lib.hid u2; clear u2
  have Hm := Lib.hid hm; clear hm
  have Ht := Lib.hid ht; clear ht
  have Sl := Lib.hid sl; clear sl
  go_enter Try.func59, Try.ntmps59
  go_upto_region 0 with fail
  refine region_perm [2, 3, 21, 22, 0, 1, 4, 5, 6, 7, 8, 9, 10, 11, 12, 13, 14, 15, 16, 17, 18, 19, 20, 23, 24] [4, 5, 0, 1, 6, 7, 8, 9, 10, 11, 12, 13, 14, 15, 16, 17, 18, 19, 20, 21, 22, 2, 3, 23, 24] (by kernel_rfl) (by kernel_rfl) ?_
  refine any_start ?_
  refine any_takeK 0 8 (.pointer (some ⟨g, 0, none⟩)) (by decide) rfl (by kernel_rfl) (by kernel_rfl) (by kernel_rfl) (fun _ _ _ h => h) (fun _ => rfl) ?_
  simp only [List.setIfInBounds_toArray, List.set_cons_succ, List.set_cons_zero, Nat.reduceAdd]
  refine any_takeK 1 9 (.int .i64 2) (by decide) rfl (by kernel_rfl) (by kernel_rfl) (by kernel_rfl) (fun _ _ _ h => h) (fun _ => rfl) ?_
  simp only [List.setIfInBounds_toArray, List.set_cons_succ, List.set_cons_zero, Nat.reduceAdd]
  refine any_takeK 2 26 (.pointer (some ⟨g, 0, none⟩)) (by decide) rfl (by kernel_rfl) (by kernel_rfl) (by kernel_rfl) (fun _ _ _ h => h) (fun _ => by kernel_rfl) ?_
  simp only [List.setIfInBounds_toArray, List.set_cons_succ, List.set_cons_zero, Nat.reduceAdd]
  refine any_takeK 3 27 (.pointer (some ⟨g, 3, none⟩)) (by decide) rfl (by kernel_rfl) (by kernel_rfl) (by kernel_rfl) (fun _ _ _ h => h) (fun _ => by kernel_rfl) ?_
  simp only [List.setIfInBounds_toArray, List.set_cons_succ, List.set_cons_zero, Nat.reduceAdd]
  refine any_floatB 4 (w := w) (w1 := { w with drawn := w.drawn + 1 }) ⟨rfl, rfl, rfl, Nat.le_refl _, fun _ _ => rfl⟩ 22 [] (by kernel_rfl) rfl (fun x hx => absurd hx List.not_mem_nil) (fun x hx => absurd hx List.not_mem_nil) (fun x hx => absurd hx List.not_mem_nil) ?_
  apply Exists.intro
  refine And.intro ?walk (And.intro ?vals ?tail)
  case walk =>
    intro W' hW'
    have e0 := cell_regrown ((cell_keep (hW'.block g hg)).trans y0)
    have e1 := cell_regrown ((cell_keep (hW'.block g hg)).trans y1)
    have e2 := cell_regrown ((cell_keep (hW'.block g hg)).trans y2)
    have e3 := cell_regrown ((cell_keep (hW'.block g hg)).trans y3)
    have e4 := cell_regrown ((cell_keep (hW'.block g hg)).trans y4)
    have e5 := cell_regrown ((cell_keep (hW'.block g hg)).trans y5)
    have si := Sl.out W' hW'
    have Si := Lib.hid si; clear si
    simp only [permL, renO, virtQ, fltQ, nopT, List.getD_cons_succ, List.getD_cons_zero, List.take_succ_cons, List.take_zero, List.drop_succ_cons, List.drop_zero, List.map_cons, List.map_nil, List.cons_append, List.nil_append, Option.map_none]
    iterate 18 (go_big_quiet_step (exact (Si.out _ _).mono fun e w'' h => h))
    iterate 3 (go_big_quiet_step (fail))
    exact wpQuiet_nil rfl
  case vals => trivial
  case tail =>
    intro pf w2 hbw2 _ _
    simp only [permL, renO, putsB, List.getD_cons_succ, List.getD_cons_zero, List.drop_succ_cons, List.drop_zero, List.map_cons, List.map_nil, Option.map_none]
    have n0 := HB.out.same (hbw2.block _ hg)
    have v1 := Upd.after hbw2 ((Upd.refl n0).setRow #[.int .i64 p.1, .int .i64 p.2.1, .int .i64 p.2.2, .int .i64 X2.1, .int .i64 X2.2.1, .int .i64 X2.2.2, .int .i64 X1.1, .int .i64 X1.2.1, .int .i64 X1.2.2, .int .i64 X2.1, .int .i64 X2.2.1, .int .i64 X2.2.2, .int .i64 d])
    have v2 := v1.setRow #[.int .i64 p.1, .int .i64 p.2.1, .int .i64 p.2.2, .int .i64 X2.1, .int .i64 X2.2.1, .int .i64 X2.2.2, .int .i64 X1.1, .int .i64 X1.2.1, .int .i64 X1.2.2, .int .i64 NA.1, .int .i64 NA.2.1, .int .i64 NA.2.2, .int .i64 d]
    have n1 := v1.blk
    have V1 := Lib.hid v1; clear v1
    have V2 := Lib.hid v2; clear v2
    refine wpList_storeAtG 25 (.tmp 25) (.tmp 15) 3 _ #[.int .i64 X2.1, .int .i64 X2.2.1, .int .i64 X2.2.2] #[.int .i64 p.1, .int .i64 p.2.1, .int .i64 p.2.2, .int .i64 X2.1, .int .i64 X2.2.1, .int .i64 X2.2.2, .int .i64 X1.1, .int .i64 X1.2.1, .int .i64 X1.2.2, .int .i64 X2.1, .int .i64 X2.2.1, .int .i64 X2.2.2, .int .i64 d] rfl rfl rfl rfl n0 (by kernel_rfl) (by simp) (by simp [Value.oneCell']) rfl rfl ?_
    go_wp2_with ((with_reducible show wpList _ _ _ (Oper.mk none _ _ _ _ _ :: _) _ _); refine wpList_storeAtG 25 (.tmp 28) (.tmp 22) 9 _ #[.int .i64 NA.1, .int .i64 NA.2.1, .int .i64 NA.2.2] #[.int .i64 p.1, .int .i64 p.2.1, .int .i64 p.2.2, .int .i64 X2.1, .int .i64 X2.2.1, .int .i64 X2.2.2, .int .i64 X1.1, .int .i64 X1.2.1, .int .i64 X1.2.2, .int .i64 NA.1, .int .i64 NA.2.1, .int .i64 NA.2.2, .int .i64 d] rfl rfl rfl rfl n1 (by kernel_rfl) (by simp) (by simp [Value.oneCell']) rfl rfl ?_)
    go_end0
    exact ⟨rfl, V2.out⟩
set_option maxRecDepth 100000 in
set_option maxHeartbeats 4000000 in
theorem quarter20_calls (g : Nat) (p : V3) (m : M3) (d : Int) (w : World) (hm : unitM m = true) (hB : Blk w g 91 (mRow p m d)) :
    Calls Try.prog 59 #[.pointer (some ⟨g, 0, none⟩), .int .i64 2, .int .i64 0] w (fun e w' => e = .returned (.tuple #[]) ∧ Upd g 91 (mRow p (quM 2 0 m) d) w w') := by
  obtain ⟨X0, X1, X2⟩ := m
  obtain ⟨u0, u1, u2⟩ := unitM_at hm
  simp only at u0 u1 u2
  have ht := fun W' => timesN_calls X2 W' u2
  have hres : mRow p (quM 2 0 (X0, X1, X2)) d = #[.int .i64 p.1, .int .i64 p.2.1, .int .i64 p.2.2, .int .i64 (negV X2).1, .int .i64 (negV X2).2.1, .int .i64 (negV X2).2.2, .int .i64 X1.1, .int .i64 X1.2.1, .int .i64 X1.2.2, .int .i64 X0.1, .int .i64 X0.2.1, .int .i64 X0.2.2, .int .i64 d] := rfl
  obtain ⟨NA, hNA⟩ : ∃ v, negV X2 = v := ⟨_, rfl⟩
  rw [hNA] at ht hres
  rw [hres]
  have hg := hB.lt
  unfold mRow at hB
  simp only at hB
  have y0 := hB.cell 9
  have y1 := hB.cell 10
  have y2 := hB.cell 11
  have y3 := hB.cell 3
  have y4 := hB.cell 4
  have y5 := hB.cell 5
  have sl : ∀ W', RowKit.Below w.heap.size w W' → ∀ q os, Calls Try.prog 35 #[.int .i64 (-1), .agg #[.int .i64 X2.1, .int .i64 X2.2.1, .int .i64 X2.2.2]] (grow (redrawn W' q) os) fun e w'' => e = .returned (.agg #[.int .i64 NA.1, .int .i64 NA.2.1, .int .i64 NA.2.2]) ∧ ∃ p : Regrown, w'' = grow (redrawn W' p.d) p.os := fun W' _ q os => Calls.regrown_of (ht _)
  have HB := Lib.hid hB; clear hB
  have Hres := Lib.hid hres; clear hres
  have HNA := Lib.hid hNA; clear hNA
  have U0 := Lib.hid u0; clear u0
  have U1 := Lib.hid u1; clear u1
  have U2 := Lib.hid u2; clear u2
  have Hm := Lib.hid hm; clear hm
  have Ht := Lib.hid ht; clear ht
  have Sl := Lib.hid sl; clear sl
  go_enter Try.func59, Try.ntmps59
  go_upto_region 0 with fail
  refine region_perm [2, 3, 21, 22, 0, 1, 4, 5, 6, 7, 8, 9, 10, 11, 12, 13, 14, 15, 16, 17, 18, 19, 20, 23, 24] [4, 5, 0, 1, 6, 7, 8, 9, 10, 11, 12, 13, 14, 15, 16, 17, 18, 19, 20, 21, 22, 2, 3, 23, 24] (by kernel_rfl) (by kernel_rfl) ?_
  refine any_start ?_
  refine any_takeK 0 8 (.pointer (some ⟨g, 0, none⟩)) (by decide) rfl (by kernel_rfl) (by kernel_rfl) (by kernel_rfl) (fun _ _ _ h => h) (fun _ => rfl) ?_
  simp only [List.setIfInBounds_toArray, List.set_cons_succ, List.set_cons_zero, Nat.reduceAdd]
  refine any_takeK 1 9 (.int .i64 0) (by decide) rfl (by kernel_rfl) (by kernel_rfl) (by kernel_rfl) (fun _ _ _ h => h) (fun _ => rfl) ?_
  simp only [List.setIfInBounds_toArray, List.set_cons_succ, List.set_cons_zero, Nat.reduceAdd]
  refine any_takeK 2 26 (.pointer (some ⟨g, 0, none⟩)) (by decide) rfl (by kernel_rfl) (by kernel_rfl) (by kernel_rfl) (fun _ _ _ h => h) (fun _ => by kernel_rfl) ?_
  simp only [List.setIfInBounds_toArray, List.set_cons_succ, List.set_cons_zero, Nat.reduceAdd]
  refine any_takeK 3 27 (.pointer (some ⟨g, 3, none⟩)) (by decide) rfl (by kernel_rfl) (by kernel_rfl) (by kernel_rfl) (fun _ _ _ h => h) (fun _ => by kernel_rfl) ?_
  simp only [List.setIfInBounds_toArray, List.set_cons_succ, List.set_cons_zero, Nat.reduceAdd]
  refine any_floatB 4 (w := w) (w1 := { w with drawn := w.drawn + 1 }) ⟨rfl, rfl, rfl, Nat.le_refl _, fun _ _ => rfl⟩ 22 [] (by kernel_rfl) rfl (fun x hx => absurd hx List.not_mem_nil) (fun x hx => absurd hx List.not_mem_nil) (fun x hx => absurd hx List.not_mem_nil) ?_
  apply Exists.intro
  refine And.intro ?walk (And.intro ?vals ?tail)
  case walk =>
    intro W' hW'
    have e0 := cell_regrown ((cell_keep (hW'.block g hg)).trans y0)
    have e1 := cell_regrown ((cell_keep (hW'.block g hg)).trans y1)
    have e2 := cell_regrown ((cell_keep (hW'.block g hg)).trans y2)
    have e3 := cell_regrown ((cell_keep (hW'.block g hg)).trans y3)
    have e4 := cell_regrown ((cell_keep (hW'.block g hg)).trans y4)
    have e5 := cell_regrown ((cell_keep (hW'.block g hg)).trans y5)
    have si := Sl.out W' hW'
    have Si := Lib.hid si; clear si
    simp only [permL, renO, virtQ, fltQ, nopT, List.getD_cons_succ, List.getD_cons_zero, List.take_succ_cons, List.take_zero, List.drop_succ_cons, List.drop_zero, List.map_cons, List.map_nil, List.cons_append, List.nil_append, Option.map_none]
    iterate 18 (go_big_quiet_step (exact (Si.out _ _).mono fun e w'' h => h))
    iterate 3 (go_big_quiet_step (fail))
    exact wpQuiet_nil rfl
  case vals => trivial
  case tail =>
    intro pf w2 hbw2 _ _
    simp only [permL, renO, putsB, List.getD_cons_succ, List.getD_cons_zero, List.drop_succ_cons, List.drop_zero, List.map_cons, List.map_nil, Option.map_none]
    have n0 := HB.out.same (hbw2.block _ hg)
    have v1 := Upd.after hbw2 ((Upd.refl n0).setRow #[.int .i64 p.1, .int .i64 p.2.1, .int .i64 p.2.2, .int .i64 X0.1, .int .i64 X0.2.1, .int .i64 X0.2.2, .int .i64 X1.1, .int .i64 X1.2.1, .int .i64 X1.2.2, .int .i64 X0.1, .int .i64 X0.2.1, .int .i64 X0.2.2, .int .i64 d])
    have v2 := v1.setRow #[.int .i64 p.1, .int .i64 p.2.1, .int .i64 p.2.2, .int .i64 NA.1, .int .i64 NA.2.1, .int .i64 NA.2.2, .int .i64 X1.1, .int .i64 X1.2.1, .int .i64 X1.2.2, .int .i64 X0.1, .int .i64 X0.2.1, .int .i64 X0.2.2, .int .i64 d]
    have n1 := v1.blk
    have V1 := Lib.hid v1; clear v1
    have V2 := Lib.hid v2; clear v2
    refine wpList_storeAtG 25 (.tmp 25) (.tmp 15) 9 _ #[.int .i64 X0.1, .int .i64 X0.2.1, .int .i64 X0.2.2] #[.int .i64 p.1, .int .i64 p.2.1, .int .i64 p.2.2, .int .i64 X0.1, .int .i64 X0.2.1, .int .i64 X0.2.2, .int .i64 X1.1, .int .i64 X1.2.1, .int .i64 X1.2.2, .int .i64 X0.1, .int .i64 X0.2.1, .int .i64 X0.2.2, .int .i64 d] rfl rfl rfl rfl n0 (by kernel_rfl) (by simp) (by simp [Value.oneCell']) rfl rfl ?_
    go_wp2_with ((with_reducible show wpList _ _ _ (Oper.mk none _ _ _ _ _ :: _) _ _); refine wpList_storeAtG 25 (.tmp 28) (.tmp 22) 3 _ #[.int .i64 NA.1, .int .i64 NA.2.1, .int .i64 NA.2.2] #[.int .i64 p.1, .int .i64 p.2.1, .int .i64 p.2.2, .int .i64 NA.1, .int .i64 NA.2.1, .int .i64 NA.2.2, .int .i64 X1.1, .int .i64 X1.2.1, .int .i64 X1.2.2, .int .i64 X0.1, .int .i64 X0.2.1, .int .i64 X0.2.2, .int .i64 d] rfl rfl rfl rfl n1 (by kernel_rfl) (by simp) (by simp [Value.oneCell']) rfl rfl ?_)
    go_end0
    exact ⟨rfl, V2.out⟩
set_option maxRecDepth 100000 in
set_option maxHeartbeats 4000000 in
theorem quarter12_calls (g : Nat) (p : V3) (m : M3) (d : Int) (w : World) (hm : unitM m = true) (hB : Blk w g 91 (mRow p m d)) :
    Calls Try.prog 59 #[.pointer (some ⟨g, 0, none⟩), .int .i64 1, .int .i64 2] w (fun e w' => e = .returned (.tuple #[]) ∧ Upd g 91 (mRow p (quM 1 2 m) d) w w') := by
  obtain ⟨X0, X1, X2⟩ := m
  obtain ⟨u0, u1, u2⟩ := unitM_at hm
  simp only at u0 u1 u2
  have ht := fun W' => timesN_calls X1 W' u1
  have hres : mRow p (quM 1 2 (X0, X1, X2)) d = #[.int .i64 p.1, .int .i64 p.2.1, .int .i64 p.2.2, .int .i64 X0.1, .int .i64 X0.2.1, .int .i64 X0.2.2, .int .i64 X2.1, .int .i64 X2.2.1, .int .i64 X2.2.2, .int .i64 (negV X1).1, .int .i64 (negV X1).2.1, .int .i64 (negV X1).2.2, .int .i64 d] := rfl
  obtain ⟨NA, hNA⟩ : ∃ v, negV X1 = v := ⟨_, rfl⟩
  rw [hNA] at ht hres
  rw [hres]
  have hg := hB.lt
  unfold mRow at hB
  simp only at hB
  have y0 := hB.cell 6
  have y1 := hB.cell 7
  have y2 := hB.cell 8
  have y3 := hB.cell 9
  have y4 := hB.cell 10
  have y5 := hB.cell 11
  have sl : ∀ W', RowKit.Below w.heap.size w W' → ∀ q os, Calls Try.prog 35 #[.int .i64 (-1), .agg #[.int .i64 X1.1, .int .i64 X1.2.1, .int .i64 X1.2.2]] (grow (redrawn W' q) os) fun e w'' => e = .returned (.agg #[.int .i64 NA.1, .int .i64 NA.2.1, .int .i64 NA.2.2]) ∧ ∃ p : Regrown, w'' = grow (redrawn W' p.d) p.os := fun W' _ q os => Calls.regrown_of (ht _)
  have HB := Lib.hid hB; clear hB
  have Hres := Lib.hid hres; clear hres
  have HNA := Lib.hid hNA; clear hNA
  have U0 := Lib.hid u0; clear u0
  have U1 := Lib.hid u1; clear u1
  have U2 := Lib.hid u2; clear u2
  have Hm := Lib.hid hm; clear hm
  have Ht := Lib.hid ht; clear ht
  have Sl := Lib.hid sl; clear sl
  go_enter Try.func59, Try.ntmps59
  go_upto_region 0 with fail
  refine region_perm [2, 3, 21, 22, 0, 1, 4, 5, 6, 7, 8, 9, 10, 11, 12, 13, 14, 15, 16, 17, 18, 19, 20, 23, 24] [4, 5, 0, 1, 6, 7, 8, 9, 10, 11, 12, 13, 14, 15, 16, 17, 18, 19, 20, 21, 22, 2, 3, 23, 24] (by kernel_rfl) (by kernel_rfl) ?_
  refine any_start ?_
  refine any_takeK 0 8 (.pointer (some ⟨g, 0, none⟩)) (by decide) rfl (by kernel_rfl) (by kernel_rfl) (by kernel_rfl) (fun _ _ _ h => h) (fun _ => rfl) ?_
  simp only [List.setIfInBounds_toArray, List.set_cons_succ, List.set_cons_zero, Nat.reduceAdd]
  refine any_takeK 1 9 (.int .i64 2) (by decide) rfl (by kernel_rfl) (by kernel_rfl) (by kernel_rfl) (fun _ _ _ h => h) (fun _ => rfl) ?_
  simp only [List.setIfInBounds_toArray, List.set_cons_succ, List.set_cons_zero, Nat.reduceAdd]
  refine any_takeK 2 26 (.pointer (some ⟨g, 0, none⟩)) (by decide) rfl (by kernel_rfl) (by kernel_rfl) (by kernel_rfl) (fun _ _ _ h => h) (fun _ => by kernel_rfl) ?_
  simp only [List.setIfInBounds_toArray, List.set_cons_succ, List.set_cons_zero, Nat.reduceAdd]
  refine any_takeK 3 27 (.pointer (some ⟨g, 3, none⟩)) (by decide) rfl (by kernel_rfl) (by kernel_rfl) (by kernel_rfl) (fun _ _ _ h => h) (fun _ => by kernel_rfl) ?_
  simp only [List.setIfInBounds_toArray, List.set_cons_succ, List.set_cons_zero, Nat.reduceAdd]
  refine any_floatB 4 (w := w) (w1 := { w with drawn := w.drawn + 1 }) ⟨rfl, rfl, rfl, Nat.le_refl _, fun _ _ => rfl⟩ 22 [] (by kernel_rfl) rfl (fun x hx => absurd hx List.not_mem_nil) (fun x hx => absurd hx List.not_mem_nil) (fun x hx => absurd hx List.not_mem_nil) ?_
  apply Exists.intro
  refine And.intro ?walk (And.intro ?vals ?tail)
  case walk =>
    intro W' hW'
    have e0 := cell_regrown ((cell_keep (hW'.block g hg)).trans y0)
    have e1 := cell_regrown ((cell_keep (hW'.block g hg)).trans y1)
    have e2 := cell_regrown ((cell_keep (hW'.block g hg)).trans y2)
    have e3 := cell_regrown ((cell_keep (hW'.block g hg)).trans y3)
    have e4 := cell_regrown ((cell_keep (hW'.block g hg)).trans y4)
    have e5 := cell_regrown ((cell_keep (hW'.block g hg)).trans y5)
    have si := Sl.out W' hW'
    have Si := Lib.hid si; clear si
    simp only [permL, renO, virtQ, fltQ, nopT, List.getD_cons_succ, List.getD_cons_zero, List.take_succ_cons, List.take_zero, List.drop_succ_cons, List.drop_zero, List.map_cons, List.map_nil, List.cons_append, List.nil_append, Option.map_none]
    iterate 18 (go_big_quiet_step (exact (Si.out _ _).mono fun e w'' h => h))
    iterate 3 (go_big_quiet_step (fail))
    exact wpQuiet_nil rfl
  case vals => trivial
  case tail =>
    intro pf w2 hbw2 _ _
    simp only [permL, renO, putsB, List.getD_cons_succ, List.getD_cons_zero, List.drop_succ_cons, List.drop_zero, List.map_cons, List.map_nil, Option.map_none]
    have n0 := HB.out.same (hbw2.block _ hg)
    have v1 := Upd.after hbw2 ((Upd.refl n0).setRow #[.int .i64 p.1, .int .i64 p.2.1, .int .i64 p.2.2, .int .i64 X0.1, .int .i64 X0.2.1, .int .i64 X0.2.2, .int .i64 X2.1, .int .i64 X2.2.1, .int .i64 X2.2.2, .int .i64 X2.1, .int .i64 X2.2.1, .int .i64 X2.2.2, .int .i64 d])
    have v2 := v1.setRow #[.int .i64 p.1, .int .i64 p.2.1, .int .i64 p.2.2, .int .i64 X0.1, .int .i64 X0.2.1, .int .i64 X0.2.2, .int .i64 X2.1, .int .i64 X2.2.1, .int .i64 X2.2.2, .int .i64 NA.1, .int .i64 NA.2.1, .int .i64 NA.2.2, .int .i64 d]
    have n1 := v1.blk
    have V1 := Lib.hid v1; clear v1
    have V2 := Lib.hid v2; clear v2
    refine wpList_storeAtG 25 (.tmp 25) (.tmp 15) 6 _ #[.int .i64 X2.1, .int .i64 X2.2.1, .int .i64 X2.2.2] #[.int .i64 p.1, .int .i64 p.2.1, .int .i64 p.2.2, .int .i64 X0.1, .int .i64 X0.2.1, .int .i64 X0.2.2, .int .i64 X2.1, .int .i64 X2.2.1, .int .i64 X2.2.2, .int .i64 X2.1, .int .i64 X2.2.1, .int .i64 X2.2.2, .int .i64 d] rfl rfl rfl rfl n0 (by kernel_rfl) (by simp) (by simp [Value.oneCell']) rfl rfl ?_
    go_wp2_with ((with_reducible show wpList _ _ _ (Oper.mk none _ _ _ _ _ :: _) _ _); refine wpList_storeAtG 25 (.tmp 28) (.tmp 22) 9 _ #[.int .i64 NA.1, .int .i64 NA.2.1, .int .i64 NA.2.2] #[.int .i64 p.1, .int .i64 p.2.1, .int .i64 p.2.2, .int .i64 X0.1, .int .i64 X0.2.1, .int .i64 X0.2.2, .int .i64 X2.1, .int .i64 X2.2.1, .int .i64 X2.2.2, .int .i64 NA.1, .int .i64 NA.2.1, .int .i64 NA.2.2, .int .i64 d] rfl rfl rfl rfl n1 (by kernel_rfl) (by simp) (by simp [Value.oneCell']) rfl rfl ?_)
    go_end0
    exact ⟨rfl, V2.out⟩
theorem quarterP_calls {a b : Nat} (hp : Pair5 a b) (g : Nat) (p : V3) (m : M3) (d : Int) (w : World) (hm : unitM m = true) (hB : Blk w g 91 (mRow p m d)) :
    Calls Try.prog 59 #[.pointer (some ⟨g, 0, none⟩), .int .i64 (a : Int), .int .i64 (b : Int)] w (fun e w' => e = .returned (.tuple #[]) ∧ Upd g 91 (mRow p (quM a b m) d) w w') := by
  rcases hp with ⟨rfl, rfl⟩ | ⟨rfl, rfl⟩ | ⟨rfl, rfl⟩ | ⟨rfl, rfl⟩ | ⟨rfl, rfl⟩
  · exact quarter01_calls g p m d w hm hB
  · exact quarter10_calls g p m d w hm hB
  · exact quarter02_calls g p m d w hm hB
  · exact quarter20_calls g p m d w hm hB
  · exact quarter12_calls g p m d w hm hB
theorem unit_it5 : ∀ (i : Fin 5) (k : Fin 5) (t : Fin 24), unitM (itM ([0, 1, 0, 2, 1].getD i.val 0) ([1, 0, 2, 0, 2].getD i.val 0) k.val (axT t.val)) = true := by decide +kernel
theorem unit_pair {a b : Nat} (hp : Pair5 a b) {k t : Nat} (hk : k ≤ 4) (ht : t < 24) : unitM (itM a b k (axT t)) = true := by
  rcases hp with ⟨rfl, rfl⟩ | ⟨rfl, rfl⟩ | ⟨rfl, rfl⟩ | ⟨rfl, rfl⟩ | ⟨rfl, rfl⟩
  · exact unit_it5 0 ⟨k, by omega⟩ ⟨t, ht⟩
  · exact unit_it5 1 ⟨k, by omega⟩ ⟨t, ht⟩
  · exact unit_it5 2 ⟨k, by omega⟩ ⟨t, ht⟩
  · exact unit_it5 3 ⟨k, by omega⟩ ⟨t, ht⟩
  · exact unit_it5 4 ⟨k, by omega⟩ ⟨t, ht⟩
theorem tmod_q (n : Int) : -4 < n.tmod 4 ∧ n.tmod 4 < 4 ∧ (if n.tmod 4 < 0 then n.tmod 4 + 4 else n.tmod 4) = ((n % 4).toNat : Int) := by
  rcases Int.le_total 0 n with h | h
  · rw [Int.tmod_eq_emod_of_nonneg h]
    refine ⟨by omega, by omega, ?_⟩
    rw [if_neg (by omega)]
    omega
  · obtain ⟨m, rfl⟩ : ∃ m, n = -m := ⟨-n, by omega⟩
    rw [Int.neg_tmod, Int.tmod_eq_emod_of_nonneg (by omega)]
    refine ⟨by omega, by omega, ?_⟩
    split <;> omega
set_option maxRecDepth 100000 in
set_option maxHeartbeats 4000000 in
theorem rTurn_calls {a b : Nat} (hp : Pair5 a b) (g : Nat) (c : Tur) (n : Int) (w : World) (hok : TurOk c) (hB : Blk w g 91 (sRow c)) :
    Calls Try.prog 37 #[.pointer (some ⟨g, 0, none⟩), .int .i64 (a : Int), .int .i64 (b : Int), .int .i64 n] w (fun e w' => e = .returned (.tuple #[]) ∧ Upd g 91 (sRow (turnF a b n c)) w w') := by
  have hlt := hok.lt
  have hres : sRow (turnF a b n c) = mRow c.1.2 (itM a b (n % 4).toNat (axT c.1.1.toNat)) c.2 := by
    rw [sRow_m]
    unfold turnF
    simp only [Int.toNat_natCast, rot_ax hp n hlt]
  obtain ⟨r1, r2, r3⟩ := tmod_q n
  have hq4 := q4 n
  obtain ⟨q, hq⟩ : ∃ q, (n % 4).toNat = q := ⟨_, rfl⟩
  rw [hq] at hres r3 hq4
  have hun : ∀ k, k ≤ 4 → unitM (itM a b k (axT c.1.1.toNat)) = true := fun k hk => unit_pair hp hk hlt
  rw [sRow_m] at hB
  rw [hres]
  obtain ⟨M, hM⟩ : ∃ m, axT c.1.1.toNat = m := ⟨_, rfl⟩
  rw [hM] at hB hun hres ⊢
  have u0 : Upd g 91 (mRow c.1.2 (itM a b 0 M) c.2) w w := Upd.refl hB
  obtain ⟨r, hr⟩ : ∃ r, n.tmod 4 = r := ⟨_, rfl⟩
  have r4 : (n.tmod 4 < 0 ∧ n.tmod 4 + 4 = (q : Int)) ∨ (¬ n.tmod 4 < 0 ∧ n.tmod 4 = (q : Int)) := by
    by_cases h : n.tmod 4 < 0
    · rw [if_pos h] at r3; exact .inl ⟨h, r3⟩
    · rw [if_neg h] at r3; exact .inr ⟨h, r3⟩
  have Hok := Lib.hid hok; clear hok
  have HB := Lib.hid hB; clear hB
  have Hun := Lib.hid hun; clear hun
  have Hres := Lib.hid hres; clear hres
  have Hq := Lib.hid hq; clear hq
  have HM := Lib.hid hM; clear hM
  have U0 := Lib.hid u0; clear u0
  have Hr := Lib.hid hr; clear hr
  have R3 := Lib.hid r3; clear r3
  have Hlt := Lib.hid hlt; clear hlt
  rcases r4 with ⟨r5, r6⟩ | ⟨r5, r6⟩
  all_goals
    go_enter Try.func37, Try.ntmps37
    go_wp2
    go_loopw [9] (fun i wr => ∃ k : Nat, k ≤ q ∧ i = .int .i64 k ∧ Hid (Upd g 91 (mRow c.1.2 (itM a b k M) c.2) w wr)) (fun i _ => q - (intOf i).toNat)
    case atStart => exact ⟨0, by omega, rfl, U0.out⟩
    case round =>
      obtain ⟨k, hk, rfl, hu⟩ := hrel
      obtain ⟨wo, rfl⟩ : ∃ wo : World, wo = wr := ⟨_, rfl⟩
      by_cases hlt2 : k < q
      case pos =>
        have c1 := quarterP_calls hp g c.1.2 _ c.2 wo (Hun.out k (by omega)) hu.out.blk
        rw [← itM_succ] at c1
        have C1 := Lib.hid c1; clear c1
        go_wp2_with fail
        refine C1.out.mono ?_
        rintro e w5 ⟨rfl, u5⟩
        have u6 := hu.out.trans u5
        have U6 := Lib.hid u6; clear u6
        clear u5
        go_wp2
        go_roundw
        case rel => exact ⟨k + 1, hlt2, by go_num, U6⟩
        case measure => simp [intOf]; omega
      case neg =>
        obtain rfl : k = q := by omega
        go_wp2
        go_end0
        exact ⟨rfl, hu.out⟩
end Go.Proofs.Ytldccpmnboebmaa
