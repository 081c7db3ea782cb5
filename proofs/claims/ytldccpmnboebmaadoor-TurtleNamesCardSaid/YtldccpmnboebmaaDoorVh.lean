/-
  Layer 16: the walks of named and of the reference's Turned.
-/
import Derived.Test.YtldccpmnboebmaaDoorM2
import Derived.Test.YtldccpmnboebmaaDoorVi
namespace Go.Proofs.YtldccpmnboebmaaDoor
open Go.RowKit Go.Sort
set_option linter.unusedVariables false

theorem turnOf_from (m : M3) (k : Nat) (hk : k ≤ 24) (h : ∀ j, j < k → axT j ≠ m) (ha : axT k = m) (hk2 : k < 24) : turnOf m = some k := by
  unfold turnOf
  rw [List.find?_eq_some_iff_getElem]
  refine ⟨by simpa using ha, k, by simpa using hk2, by simp, fun j hj => ?_⟩
  have := h j hj
  simpa using this
theorem turnOf_none (m : M3) (h : ∀ j, j < 24 → axT j ≠ m) : turnOf m = none := by
  unfold turnOf
  rw [List.find?_eq_none]
  intro j hj
  have := h j (by simpa using hj)
  simpa using this
def valM (m : M3) : Value := .agg #[.int .i64 m.1.1, .int .i64 m.1.2.1, .int .i64 m.1.2.2, .int .i64 m.2.1.1, .int .i64 m.2.1.2.1, .int .i64 m.2.1.2.2, .int .i64 m.2.2.1, .int .i64 m.2.2.2.1, .int .i64 m.2.2.2.2]
theorem valM_inj {a b : M3} (h : valM a = valM b) : a = b := by
  unfold valM at h
  injection h with h
  simp only [Array.mk.injEq, List.cons.injEq, Value.int.injEq, true_and, and_true] at h
  obtain ⟨h1, h2, h3, h4, h5, h6, h7, h8, h9⟩ := h
  exact Prod.ext (Prod.ext h1 (Prod.ext h2 h3)) (Prod.ext (Prod.ext h4 (Prod.ext h5 h6)) (Prod.ext h7 (Prod.ext h8 h9)))
set_option maxRecDepth 100000 in
set_option maxHeartbeats 4000000 in
theorem named_calls (m : M3) (w : World) : Calls Tryd.prog 50 #[.agg #[.int .i64 m.1.1, .int .i64 m.1.2.1, .int .i64 m.1.2.2, .int .i64 m.2.1.1, .int .i64 m.2.1.2.1, .int .i64 m.2.1.2.2, .int .i64 m.2.2.1, .int .i64 m.2.2.2.1, .int .i64 m.2.2.2.2]] w (fun e w' => e = .returned (.int .u8 (namedF m)) ∧ RowKit.Below w.heap.size w w') := by
  have h0 := Blk.new w 47 #[.int .i64 m.1.1, .int .i64 m.1.2.1, .int .i64 m.1.2.2, .int .i64 m.2.1.1, .int .i64 m.2.1.2.1, .int .i64 m.2.1.2.2, .int .i64 m.2.2.1, .int .i64 m.2.2.2.1, .int .i64 m.2.2.2.2]
  obtain ⟨w0, hw0⟩ : ∃ W, W = w.alloc (.cells #[.int .i64 m.1.1, .int .i64 m.1.2.1, .int .i64 m.1.2.2, .int .i64 m.2.1.1, .int .i64 m.2.1.2.1, .int .i64 m.2.1.2.2, .int .i64 m.2.2.1, .int .i64 m.2.2.2.1, .int .i64 m.2.2.2.2] 47) := ⟨_, rfl⟩
  have t0 : RowKit.Below w.heap.size w w0 := by rw [hw0]; exact al1
  have g0 : w.heap.size < w0.heap.size := by rw [hw0]; simp
  rw [← hw0] at h0
  have H0 := Lib.hid h0; clear h0
  have T0 := Lib.hid t0; clear t0
  go_enter Tryd.func50, Tryd.ntmps50
  go_wp2_with fail
  rw [← hw0]
  have Hw0 := Lib.hid hw0; clear hw0
  go_loopw [4] (fun i wr => ∃ (k : Nat), i = .int .u8 k ∧ k ≤ 24 ∧ Hid (∀ j, j < k → axT j ≠ m) ∧ Hid (RowKit.Below w0.heap.size w0 wr)) (fun i _ => 24 - (intOf i).toNat)
  case atStart => exact ⟨0, rfl, by omega, fun j hj => by omega, RowKit.Below.refl _ _⟩
  case round =>
    obtain ⟨k, rfl, hk, hno, hb⟩ := hrel
    obtain ⟨wo, rfl⟩ : ∃ wo : World, wo = wr := ⟨_, rfl⟩
    have hbw := T0.out.trans (hb.out.mono T0.out.size)
    by_cases hlt : k < 24
    case neg =>
      obtain rfl : k = 24 := by omega
      have hr : namedF m = 0 := by unfold namedF; rw [turnOf_none m hno.out]; rfl
      have Hbw := Lib.hid hbw; clear hbw
      have Hr := Lib.hid hr; clear hr
      go_wp2
      go_ret
      exact ⟨by rw [Hr.out]; rfl, Hbw.out⟩
    case pos =>
      have hlt' : (k : Int) < 24 := by omega
      have hk1 := H0.out.same (hb.out.block _ g0)

      have d0 := hk1.cell 0
      have c0 := cell_regrown d0
      have d1 := hk1.cell 1
      have c1 := cell_regrown d1
      have d2 := hk1.cell 2
      have c2 := cell_regrown d2
      have d3 := hk1.cell 3
      have c3 := cell_regrown d3
      have d4 := hk1.cell 4
      have c4 := cell_regrown d4
      have d5 := hk1.cell 5
      have c5 := cell_regrown d5
      have d6 := hk1.cell 6
      have c6 := cell_regrown d6
      have d7 := hk1.cell 7
      have c7 := cell_regrown d7
      have d8 := hk1.cell 8
      have c8 := cell_regrown d8
      clear d0 d1 d2 d3 d4 d5 d6 d7 d8
      have ha : ∀ q os, Calls Tryd.prog 28 #[.int .u8 (k : Int)] (grow (redrawn wo q) os) fun e w'' => e = .returned (.agg #[.int .i64 (axT k).1.1, .int .i64 (axT k).1.2.1, .int .i64 (axT k).1.2.2, .int .i64 (axT k).2.1.1, .int .i64 (axT k).2.1.2.1, .int .i64 (axT k).2.1.2.2, .int .i64 (axT k).2.2.1, .int .i64 (axT k).2.2.2.1, .int .i64 (axT k).2.2.2.2]) ∧ ∃ p : Regrown, w'' = grow (redrawn wo p.d) p.os := fun q os => Calls.regrown_of (axes_calls k hlt _)
      obtain ⟨x, hx⟩ : ∃ x, axT k = x := ⟨_, rfl⟩
      rw [hx] at ha
      have he := fun (W : World) => eqIn_mat 9997 x m W
      have Ha := Lib.hid ha; clear ha
      have Hbw := Lib.hid hbw; clear hbw
      have Hk1 := Lib.hid hk1; clear hk1
      have Hx := Lib.hid hx; clear hx
      go_wp2_with fail
      refine wp_region_quiet_below (by kernel_rfl) (by kernel_rfl) ?_
      iterate 4 (go_big_quiet_step (exact (Ha.out _ _).mono fun e w'' h => h))
      refine wpQuiet_nil ?_
      rintro w' ⟨⟨dq, osq⟩, rfl⟩
      have hbr := hb.out.trans ((below_regrown wo dq osq).mono hb.out.size)
      generalize grow (redrawn wo dq) osq = w5 at hbr ⊢
      have hbw5 := T0.out.trans (hbr.mono T0.out.size)
      by_cases hxm : x = m
      · have hd : decide (x = m) = true := decide_eq_true hxm
        have hr : namedF m = k := by unfold namedF; rw [turnOf_from m k (by omega) hno.out (Hx.out.trans hxm) hlt]; rfl
        have Hr := Lib.hid hr; clear hr
        have Hbw5 := Lib.hid hbw5; clear hbw5
        have Hbr := Lib.hid hbr; clear hbr
        clear c0 c1 c2 c3 c4 c5 c6 c7 c8 he
        go_wp2
        go_ret
        exact ⟨by rw [Hr.out]; rfl, Hbw5.out⟩
      · have hd : decide (x = m) = false := decide_eq_false hxm
        have hno2 : ∀ j, j < k + 1 → axT j ≠ m := fun j hj => by
          by_cases hjk : j = k
          · subst hjk; rw [Hx.out]; exact hxm
          · exact hno.out j (by omega)
        have Hno2 := Lib.hid hno2; clear hno2
        have Hbr := Lib.hid hbr; clear hbr
        have Hbw5 := Lib.hid hbw5; clear hbw5
        clear c0 c1 c2 c3 c4 c5 c6 c7 c8 he
        go_wp2
        go_roundw
        case rel => exact ⟨k + 1, by go_num, by omega, Hno2, Hbr⟩
        case measure => simp [intOf]; omega
def turnedF (m : M3) : Int := match turnOf m with | some t => (t : Int) | none => -1
end Go.Proofs.YtldccpmnboebmaaDoor
