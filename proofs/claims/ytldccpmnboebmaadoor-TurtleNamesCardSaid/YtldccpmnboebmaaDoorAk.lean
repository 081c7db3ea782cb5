/-
  Layer 17: the walk of the program's Run.
-/
import Derived.Test.YtldccpmnboebmaaDoorAi
import Derived.Test.YtldccpmnboebmaaDoorVv
import Derived.Tactics2
import Derived.Defers
import Derived.Recover
import Derived.Laws.Pointers
import Derived.Laws.EntriesVeiled
namespace Go.Proofs.YtldccpmnboebmaaDoor
open Go.RowKit Go.Sort
set_option linter.unusedVariables false

theorem results_2cells {fn : Func} {p q : Tmp} {ty tz : TypeId} {kd : IntKind} (h : fn.results = #[.cell p ty, .cell q tz]) (tmps : Array Value) (P : Program) (w : World) (g k : Nat) (t : TypeId) (cs : Array Value) (v : Int) {fs}
    (hp : tmps.getD p undef = .pointer (some ⟨g, 0, none⟩)) (hq : tmps.getD q undef = .pointer (some ⟨k, 0, none⟩)) (hg : Blk w g t cs) (hk : w.cell? ⟨k, 0, none⟩ = some (.int .i64 v)) (hu : P.underlying ty = some (.struct fs)) (hi : (P.info? ty).map (·.size) = some cs.size) (hz : P.underlying tz = some (.int kd)) :
    (results fn tmps).run P w = .ok (.tuple #[.agg cs, .int .i64 v]) w := by
  rw [Array.getD_eq_getD_getElem?] at hp hq
  have h2 : (loadVar tz ⟨k, 0, none⟩).run P w = .ok (.int .i64 v) w := by
    simp [loadVar, isAgg, run_underlying hz, hk, go_sem]
  simp only [results, h]
  simp [Sem.run_bind, Result.andThen, hp, hq, asAddr, run_loadVar_row w g t ty cs (0, 0) _ hg hu rfl hi, h2]
/-- the world behind the closure that recovers -/
def caughtW (w : World) (go ge : Nat) : World := (((((((w.setCell ⟨go, 0, none⟩ (.slice none 0 0)).setCell ⟨go, 1, none⟩ (.slice none 0 0)).setCell ⟨go, 2, none⟩ (.int .u8 0)).setCell ⟨go, 3, none⟩ (.int .i64 0)).setCell ⟨go, 4, none⟩ (.int .i64 0)).setCell ⟨go, 5, none⟩ (.int .i64 0)).setCell ⟨go, 6, none⟩ (.int .i64 0)).setCell ⟨ge, 0, none⟩ (.int .i64 16)
set_option maxRecDepth 100000 in
set_option maxHeartbeats 4000000 in
theorem catch_panicking (go ge : Nat) (u : TypeId) (pv : Value) (older : List PanicEntry) (x : Int) (w : World) (hne : go ≠ ge) (ho : Blk w go 36 #[.slice none 0 0, .slice none 0 0, .int .u8 0, .int .i64 0, .int .i64 0, .int .i64 0, .int .i64 0]) (he : Blk w ge 37 #[.int .i64 x]) :
    CallsD Tryd.prog 26 #[.pointer (some ⟨go, 0, none⟩), .pointer (some ⟨ge, 0, none⟩)] (.panicking ({ v := .iface u pv, recovered := false } :: older)) w fun e u' w' =>
      e = .returned (.tuple #[]) ∧ u' = .panicking ({ v := .iface u pv, recovered := true } :: older) ∧ w' = caughtW w go ge := by
  have c0 := ho.cell 0
  have c1 := ho.cell 1
  have c2 := ho.cell 2
  have c3 := ho.cell 3
  have c4 := ho.cell 4
  have c5 := ho.cell 5
  have c6 := ho.cell 6
  have ce := he.cell 0
  have z0 := ho.free 0
  have z1 := ho.free 1
  have z2 := ho.free 2
  have z3 := ho.free 3
  have z4 := ho.free 4
  have z5 := ho.free 5
  have z6 := ho.free 6
  have ze := he.free 0
  have hmk : ∀ W : World, (Instr.build 36 #[]).run Tryd.prog W = .ok (.agg #[.slice none 0 0, .slice none 0 0, .int .u8 0, .int .i64 0, .int .i64 0, .int .i64 0, .int .i64 0]) W := fun W => by kernel_rfl
  refine callsD_of_wpS Tryd.func26 rfl fun c₀ cs hu => ?_
  apply wpS_seq
  apply wpS_region
  simp [wpOpsS, go_sem, recoverD, hu, Tryd.ntmps26, Exit.thenS]
  refine wpS_of_wp ?_
  simp only [Array.replicate_succ, Array.replicate_zero, List.push_toArray, List.append_toArray, List.nil_append, List.cons_append, List.setIfInBounds_toArray, List.set_cons_succ, List.set_cons_zero]
  clear hu
  go_wp2
  exact ⟨rfl, _, rfl, _, results_none rfl _ _ _, rfl, rfl, rfl⟩
set_option maxRecDepth 100000 in
set_option maxHeartbeats 4000000 in
theorem catch_idle (go ge : Nat) (w : World) :
    CallsD Tryd.prog 26 #[.pointer (some ⟨go, 0, none⟩), .pointer (some ⟨ge, 0, none⟩)] .returning w fun e u' w' => e = .returned (.tuple #[]) ∧ u' = .returning ∧ w' = w := by
  refine callsD_of_wpS Tryd.func26 rfl fun c₀ cs hu => ?_
  apply wpS_seq
  apply wpS_region
  simp [wpOpsS, go_sem, recoverD, hu, Tryd.ntmps26, Exit.thenS]
  refine wpS_of_wp ?_
  simp only [Array.replicate_succ, Array.replicate_zero, List.push_toArray, List.append_toArray, List.nil_append, List.cons_append, List.setIfInBounds_toArray, List.set_cons_succ, List.set_cons_zero]
  go_wp2
  exact ⟨rfl, _, by rw [← hu], _, results_none rfl _ _ _, rfl, rfl, rfl⟩
theorem caught_blk {w : World} {go ge : Nat} {x : Int} (hne : go ≠ ge) (ho : Blk w go 36 #[.slice none 0 0, .slice none 0 0, .int .u8 0, .int .i64 0, .int .i64 0, .int .i64 0, .int .i64 0]) (he : Blk w ge 37 #[.int .i64 x]) : Blk (caughtW w go ge) go 36 #[.slice none 0 0, .slice none 0 0, .int .u8 0, .int .i64 0, .int .i64 0, .int .i64 0, .int .i64 0] ∧ (caughtW w go ge).cell? ⟨ge, 0, none⟩ = some (.int .i64 16) ∧ ∀ B w0, RowKit.Below B w0 w → B ≤ go → B ≤ ge → RowKit.Below B w0 (caughtW w go ge) := by
  have h1 := (((((((ho.set 0 (.slice none 0 0)).set 1 (.slice none 0 0)).set 2 (.int .u8 0)).set 3 (.int .i64 0)).set 4 (.int .i64 0)).set 5 (.int .i64 0)).set 6 (.int .i64 0))
  refine ⟨?_, ?_, fun B w0 hb h1 h2 => ?_⟩
  · unfold caughtW
    exact (blk_off (g := go) (k := ge) (by simpa using h1) hne 0 _)
  · have h2 : Blk (((((((w.setCell ⟨go, 0, none⟩ (.slice none 0 0)).setCell ⟨go, 1, none⟩ (.slice none 0 0)).setCell ⟨go, 2, none⟩ (.int .u8 0)).setCell ⟨go, 3, none⟩ (.int .i64 0)).setCell ⟨go, 4, none⟩ (.int .i64 0)).setCell ⟨go, 5, none⟩ (.int .i64 0)).setCell ⟨go, 6, none⟩ (.int .i64 0)) ge 37 #[.int .i64 x] := by
      have hn : ge ≠ go := fun e => hne e.symm
      exact blk_off (blk_off (blk_off (blk_off (blk_off (blk_off (blk_off he hn _ _) hn _ _) hn _ _) hn _ _) hn _ _) hn _ _) hn _ _
    have h3 := h2.set 0 (.int .i64 16)
    unfold caughtW
    exact h3.cell 0
  · unfold caughtW
    exact (((((((hb.setCell h1 _).setCell h1 _).setCell h1 _).setCell h1 _).setCell h1 _).setCell h1 _).setCell h1 _).setCell h2 _
end Go.Proofs.YtldccpmnboebmaaDoor
