/-
  Layer 17: the walk of a turtle's step ahead.
-/
import Derived.Test.YtldccpmnboebmaaDoorAf
namespace Go.Proofs.YtldccpmnboebmaaDoor
open Go.RowKit Go.Sort
set_option linter.unusedVariables false

def offP : List PanicEntry := [{ v := .iface 114 (.agg #[]), recovered := false }]
def MovePost (g : Nat) (row : Array Value) (ok : Bool) (w : World) (e : Ending) (w' : World) : Prop :=
  if ok = true then e = .returned (.tuple #[]) ∧ Upd g 72 row w w' else e = .panicked offP ∧ RowKit.Below g w w'
theorem movePost_yes {g : Nat} {row : Array Value} {ok : Bool} {w w' : World} (h : ok = true) (hu : Upd g 72 row w w') : MovePost g row ok w (.returned (.tuple #[])) w' := by
  unfold MovePost
  rw [if_pos h]
  exact ⟨rfl, hu⟩
theorem movePost_no {g : Nat} {row : Array Value} {ok : Bool} {w w' : World} (h : ok = false) (hu : RowKit.Below g w w') : MovePost g row ok w (.panicked offP) w' := by
  unfold MovePost
  rw [if_neg (by rw [h]; decide)]
  exact ⟨rfl, hu⟩
theorem step_mul {x n : Int} (h : one3 x = true) (hn : -1000000000 ≤ n ∧ n ≤ 1000000000) : -1000000000 ≤ n * x ∧ n * x ≤ 1000000000 := by
  unfold one3 at h
  simp only [Bool.or_eq_true, beq_iff_eq] at h
  rcases h with (h | h) | h <;> subst h <;> omega
set_option maxRecDepth 100000 in
set_option maxHeartbeats 4000000 in
theorem tAhead_calls (g : Nat) (c : Tur) (b : Trop) (K L M : Value) (n : Int) (hn : -1000000000 ≤ n ∧ n ≤ 1000000000) (w : World) (hok : TurOk c) (hB : Blk w g 72 (stRow c b K L M)) :
    Calls Tryd.prog 39 #[.pointer (some ⟨g, 0, none⟩), .int .i64 n] w (MovePost g (stRow (aheadF n c.1, c.2) b K L M) (inV (-1000000) (aheadF n c.1).2) w) := by
  have hg := hB.lt
  have hax : ∀ W', Blk W' g 72 (stRow c b K L M) → _ := fun W' h => tAxes_calls g c b K L M W' hok h
  unfold MatPost at hax
  have hun := axT_unit ⟨_, hok.lt⟩
  simp only at hun
  obtain ⟨hu1, hu2, hu3⟩ := unitV_at (unitM_at hun).1
  obtain ⟨v1, v2, v3⟩ := inV_iff.1 (checkFr_ok hok.ck).2
  have hah : (aheadF n c.1).2 = addV c.1.2 (mulV n (axT c.1.1.toNat).1) := rfl
  have hah1 : (aheadF n c.1).1 = c.1.1 := rfl
  have hrow : stRow (aheadF n c.1, c.2) b K L M = #[.int .u8 c.1.1, .int .i64 (aheadF n c.1).2.1, .int .i64 (aheadF n c.1).2.2.1, .int .i64 (aheadF n c.1).2.2.2, .int .i64 c.2, .int .u8 b.1, .int .i64 b.2, K, L, M, .int .u8 0, .int .i64 0, .int .i64 0, .int .i64 0, .int .i64 0] := rfl
  obtain ⟨R, hR⟩ : ∃ m, axT c.1.1.toNat = m := ⟨_, rfl⟩
  rw [hR] at hax hu1 hu2 hu3 hah
  have p1 := step_mul hu1 hn
  have p2 := step_mul hu2 hn
  have p3 := step_mul hu3 hn
  have hadd : addV c.1.2 (mulV n R.1) = (c.1.2.1 + n * R.1.1, c.1.2.2.1 + n * R.1.2.1, c.1.2.2.2 + n * R.1.2.2) := rfl
  rw [hadd] at hah
  have hfine := fun W' => tfine_calls (c.1.2.1 + n * R.1.1, c.1.2.2.1 + n * R.1.2.1, c.1.2.2.2 + n * R.1.2.2) W'
  rw [hah] at hrow ⊢
  simp only at hrow hfine
  obtain ⟨ok, hok2⟩ : ∃ o, inV (-1000000) (c.1.2.1 + n * R.1.1, c.1.2.2.1 + n * R.1.2.1, c.1.2.2.2 + n * R.1.2.2) = o := ⟨_, rfl⟩
  rw [hok2] at hfine ⊢
  have hB' := hB
  unfold stRow at hB'
  have y1 := hB'.cell 1
  have y2 := hB'.cell 2
  have y3 := hB'.cell 3
  rw [hrow]
  have hix : ∀ W' : World, (Instr.index 47 (.agg #[.int .i64 R.1.1, .int .i64 R.1.2.1, .int .i64 R.1.2.2, .int .i64 R.2.1.1, .int .i64 R.2.1.2.1, .int .i64 R.2.1.2.2, .int .i64 R.2.2.1, .int .i64 R.2.2.2.1, .int .i64 R.2.2.2.2]) (.int .i64 0)).run Tryd.prog W' = .ok (.agg #[.int .i64 R.1.1, .int .i64 R.1.2.1, .int .i64 R.1.2.2]) W' := fun W' => by kernel_rfl
  have Hax := Lib.hid hax; clear hax
  have HR := Lib.hid hR; clear hR
  have HB := Lib.hid hB; clear hB
  have HB' := Lib.hid hB'; clear hB'
  have Hfine := Lib.hid hfine; clear hfine
  have Hok := Lib.hid hok; clear hok
  have Hok2 := Lib.hid hok2; clear hok2
  have Hun := Lib.hid hun; clear hun
  have Hu1 := Lib.hid hu1; clear hu1
  have Hu2 := Lib.hid hu2; clear hu2
  have Hu3 := Lib.hid hu3; clear hu3
  have Hah := Lib.hid hah; clear hah
  have Hah1 := Lib.hid hah1; clear hah1
  have Hrow := Lib.hid hrow; clear hrow
  have Hadd := Lib.hid hadd; clear hadd
  go_enter Tryd.func39, Tryd.ntmps39
  go_upto_region 0 with fail
  refine wp_region_floatA 13 [⟨⟨9, 4, 24, #[.int .i64 0, .int .i64 0, .int .i64 0]⟩, some (11, 8, #[.int .i64 R.1.1, .int .i64 R.1.2.1, .int .i64 R.1.2.2])⟩, ⟨⟨10, 5, 24, #[.int .i64 0, .int .i64 0, .int .i64 0]⟩, some (12, 14, #[.int .i64 c.1.2.1, .int .i64 c.1.2.2.1, .int .i64 c.1.2.2.2])⟩] (by kernel_rfl) (by kernel_rfl) rfl (by
      intro x hx
      refine alloc_vecs _ fun y hy => ?_
      rw [List.mem_singleton] at hy
      subst hy
      simp at hx
      rcases hx with rfl | rfl <;> exact ⟨rfl, rfl⟩) (by
      intro x hx j v row h
      simp at hx
      rcases hx with rfl | rfl
      all_goals
        simp at h
        obtain ⟨-, -, rfl⟩ := h
        exact ⟨by kernel_rfl, rfl, by simp [Value.oneCell']⟩) ?_
  apply Exists.intro
  refine And.intro ?walk (And.intro ?vals ?tail)
  case walk =>
    intro W' hW'
    have e1 := cell_regrown ((cell_keep (hW'.block g hg)).trans y1)
    have e2 := cell_regrown ((cell_keep (hW'.block g hg)).trans y2)
    have e3 := cell_regrown ((cell_keep (hW'.block g hg)).trans y3)
    have hz := hW'.size
    have sa : ∀ q os, Calls Tryd.prog 59 #[.pointer (some ⟨g, 0, none⟩)] (grow (redrawn W' q) os) fun e w'' => e = .returned (.agg #[.int .i64 R.1.1, .int .i64 R.1.2.1, .int .i64 R.1.2.2, .int .i64 R.2.1.1, .int .i64 R.2.1.2.1, .int .i64 R.2.1.2.2, .int .i64 R.2.2.1, .int .i64 R.2.2.2.1, .int .i64 R.2.2.2.2]) ∧ ∃ p : Regrown, w'' = grow (redrawn W' p.d) p.os := fun q os => Calls.regrown_of (Hax.out _ (HB.out.same (((below_regrown W' q os).block g (by omega)).trans (hW'.block g hg))))
    have Sa := Lib.hid sa; clear sa
    simp only [virtP, fltP, nopT, List.take_succ_cons, List.take_zero, List.drop_succ_cons, List.drop_zero, List.map_cons, List.map_nil, List.append_nil]
    iterate 2 (go_big_quiet_step (exact (Sa.out _ _).mono fun e w'' h => h))
    iterate 11 (go_big_quiet_step (fail))
    exact wpQuiet_nil rfl
  case vals => exact ⟨rfl, by simp, rfl, by simp, trivial⟩
  case tail =>
    intro p w' hbw' hB2 hD
    have hB4 := hB2 _ (List.mem_cons_self)
    have hB5 := hB2 _ (List.mem_cons_of_mem _ (List.mem_cons_self))
    have hD45 := hD _ (List.mem_cons_self) _ (List.mem_cons_of_mem _ (List.mem_cons_self)) (by simp)
    simp only [Fs.fin] at hB4 hB5 hD45
    simp only [putsF, ptrV, List.drop_succ_cons, List.drop_zero, List.map_cons, List.map_nil]
    obtain ⟨g4, hg4⟩ : ∃ g, p 9 = g := ⟨_, rfl⟩
    obtain ⟨g5, hg5⟩ : ∃ g, p 10 = g := ⟨_, rfl⟩
    rw [hg4] at hB4 hD45 ⊢
    rw [hg5] at hB5 hD45 ⊢
    clear hB2 hD
    obtain ⟨n4, z4⟩ := hB4
    obtain ⟨n5, z5⟩ := hB5
    have nB := HB'.out.same (hbw'.block _ hg)
    simp only [Act.put]
    have u0 := n4.cell 0
    have u1 := n4.cell 1
    have u2 := n4.cell 2
    have s0 := n5.cell 0
    have s1 := n5.cell 1
    have s2 := n5.cell 2
    have hne : g5 ≠ g := by omega
    have n5' := blk_row (cs := #[.int .i64 (c.1.2.1 + n * R.1.1), .int .i64 (c.1.2.2.1 + n * R.1.2.1), .int .i64 (c.1.2.2.2 + n * R.1.2.2)]) n5
    have nB' := nB.same (setRow_other w' g5 g #[.int .i64 (c.1.2.1 + n * R.1.1), .int .i64 (c.1.2.2.1 + n * R.1.2.1), .int .i64 (c.1.2.2.2 + n * R.1.2.2)] (Ne.symm hne))
    have nt := row_below (g := g5) hbw' z5 #[.int .i64 (c.1.2.1 + n * R.1.1), .int .i64 (c.1.2.2.1 + n * R.1.2.1), .int .i64 (c.1.2.2.2 + n * R.1.2.2)]
    obtain ⟨w2, hw2⟩ : ∃ W, W = w'.setRow g5 #[.int .i64 (c.1.2.1 + n * R.1.1), .int .i64 (c.1.2.2.1 + n * R.1.2.1), .int .i64 (c.1.2.2.2 + n * R.1.2.2)] := ⟨_, rfl⟩
    rw [← hw2] at n5' nB' nt
    have N4 := Lib.hid n4; clear n4
    have Hbw' := Lib.hid hbw'; clear hbw'
    have HD45 := Lib.hid hD45; clear hD45
    have N5' := Lib.hid n5'; clear n5'
    have NB' := Lib.hid nB'; clear nB'
    have Nt := Lib.hid nt; clear nt
    have Hw2 := Lib.hid hw2; clear hw2
    have NB := Lib.hid nB; clear nB
    clear y1 y2 y3
    go_upto_region 2 with ((with_reducible show wpList _ _ _ (Oper.mk none _ _ _ _ _ :: _) _ _); refine wpList_storeG 24 (.tmp 5) (.tmp 36) _ #[.int .i64 (c.1.2.1 + n * R.1.1), .int .i64 (c.1.2.2.1 + n * R.1.2.1), .int .i64 (c.1.2.2.2 + n * R.1.2.2)] rfl rfl rfl rfl n5 (by kernel_rfl) rfl (by simp [Value.oneCell']) rfl ?_)
    rw [← Hw2.out]
    clear u0 u1 u2 s0 s1 s2 n5
    have s0 := N5'.out.cell 0
    have s1 := N5'.out.cell 1
    have s2 := N5'.out.cell 2
    go_wp2_with fail
    refine (Hfine.out _).mono ?_
    rintro e w3 ⟨rfl, d3⟩
    have j5 := N5'.out.same (d3.block _ N5'.out.lt)
    have jB := NB'.out.same (d3.block _ NB'.out.lt)
    have jt := Nt.out.trans (d3.mono Nt.out.size)
    clear s0 s1 s2 d3
    cases ok
    case false =>
      have hq := jt.mono (Nat.le_of_lt hg)
      have Jt := Lib.hid jt; clear jt
      have Hq := Lib.hid hq; clear hq
      go_wp2
      exact ⟨rfl, movePost_no rfl Hq.out⟩
    case true =>
      have s0 := j5.cell 0
      have s1 := j5.cell 1
      have s2 := j5.cell 2
      have hfin := Upd.after jt ((Upd.refl jB).setRow #[.int .u8 c.1.1, .int .i64 (c.1.2.1 + n * R.1.1), .int .i64 (c.1.2.2.1 + n * R.1.2.1), .int .i64 (c.1.2.2.2 + n * R.1.2.2), .int .i64 c.2, .int .u8 b.1, .int .i64 b.2, K, L, M, .int .u8 0, .int .i64 0, .int .i64 0, .int .i64 0, .int .i64 0])
      have Jt := Lib.hid jt; clear jt
      have Hfin := Lib.hid hfin; clear hfin
      go_wp2_with ((with_reducible show wpList _ _ _ (Oper.mk none _ _ _ _ _ :: _) _ _); refine wpList_storeAtG 24 (.tmp 47) (.tmp 43) 1 _ #[.int .i64 (c.1.2.1 + n * R.1.1), .int .i64 (c.1.2.2.1 + n * R.1.2.1), .int .i64 (c.1.2.2.2 + n * R.1.2.2)] #[.int .u8 c.1.1, .int .i64 (c.1.2.1 + n * R.1.1), .int .i64 (c.1.2.2.1 + n * R.1.2.1), .int .i64 (c.1.2.2.2 + n * R.1.2.2), .int .i64 c.2, .int .u8 b.1, .int .i64 b.2, K, L, M, .int .u8 0, .int .i64 0, .int .i64 0, .int .i64 0, .int .i64 0] rfl rfl rfl rfl jB (by kernel_rfl) (by simp) (by simp [Value.oneCell']) rfl rfl ?_)
      go_end0
      exact movePost_yes rfl Hfin.out
end Go.Proofs.YtldccpmnboebmaaDoor
