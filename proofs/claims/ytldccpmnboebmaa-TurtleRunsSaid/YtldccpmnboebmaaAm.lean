/-
  Layers 16 and 17: the walks of the reference's Dot, steps, Frame, quarter.
-/
import Derived.Test.YtldccpmnboebmaaAa
import Derived.Test.YtldccpmnboebmaaAd
import Derived.Test.YtldccpmnboebmaaVn
import Derived.Test.YtldccpmnboebmaaVv
import Derived.Test.YtldccpmnboebmaaLp
namespace Go.Proofs.Ytldccpmnboebmaa
open Go.RowKit Go.Sort
set_option linter.unusedVariables false

set_option maxRecDepth 100000 in
set_option maxHeartbeats 1000000 in
theorem dot_calls (a b : V3) (w : World) (ha : unitV a = true) (hb : unitV b = true) : Calls Try.prog 58 #[.agg #[.int .i64 a.1, .int .i64 a.2.1, .int .i64 a.2.2], .agg #[.int .i64 b.1, .int .i64 b.2.1, .int .i64 b.2.2]] w (IntPost (dotV a b) w) := by
  obtain ⟨a1, a2, a3⟩ := a
  obtain ⟨b1, b2, b3⟩ := b
  obtain ⟨u1, u2, u3⟩ := unitV_at ha
  obtain ⟨v1, v2, v3⟩ := unitV_at hb
  simp only at u1 u2 u3 v1 v2 v3
  obtain ⟨p1, p2⟩ := one3_prod u1 v1
  obtain ⟨p3, p4⟩ := one3_prod u2 v2
  obtain ⟨p5, p6⟩ := one3_prod u3 v3
  have Ha := Lib.hid ha; clear ha
  have Hb := Lib.hid hb; clear hb
  have U1 := Lib.hid u1; clear u1
  have U2 := Lib.hid u2; clear u2
  have U3 := Lib.hid u3; clear u3
  have V1 := Lib.hid v1; clear v1
  have V2 := Lib.hid v2; clear v2
  have V3 := Lib.hid v3; clear v3
  go_enter Try.func58, Try.ntmps58
  go_wp2
  go_ret
  exact ⟨rfl, al2⟩
/-- the first argument of a module, or 1 -/
theorem steps_calls (m : Mod) (A : Option Addr) (c : Nat) {F : Nat → Prop} (w : World) (ha : SlAt (pI .i64) F w A c m.args) (hF : ∀ k, F k → k < w.heap.size) : Calls Try.prog 33 #[.agg #[.int .u8 m.name, .slice A m.args.length c]] w (IntPost (stepN m) w) := by
  obtain ⟨nm, args⟩ := m
  simp only at ha
  have hmx := ha.lenle
  obtain ⟨W, hW⟩ : ∃ W, W = w.alloc (.cells #[.int .u8 nm, .slice A args.length c] 77) := ⟨_, rfl⟩
  have bm : Blk W w.heap.size 77 #[.int .u8 nm, .slice A args.length c] := by rw [hW]; exact Blk.new _ _ _
  have ab : RowKit.Below w.heap.size w W := by rw [hW]; exact al1
  have y1 := bm.cell 1
  by_cases hlen : 0 < args.length
  case neg =>
    have hst : stepN ⟨nm, args⟩ = 1 := by
      have : args = [] := List.eq_nil_of_length_eq_zero (by omega)
      subst this
      rfl
    rw [hst]
    have Bm := Lib.hid bm; clear bm
    have Ab := Lib.hid ab; clear ab
    have Ha := Lib.hid ha; clear ha
    have Hst := Lib.hid hst; clear hst
    go_enter Try.func33, Try.ntmps33
    go_wp2
    rw [← hW]
    go_ret
    exact ⟨rfl, Ab.out⟩
  case pos =>
    obtain ⟨bx, ox, x, hdx, rfl, hbx, hcx, hfx⟩ := ha.getI hlen
    have hst : stepN ⟨nm, args⟩ = x := by
      have h1 := hdx.out
      rw [List.drop_zero] at h1
      unfold stepN
      rw [h1]
      rfl
    rw [hst]
    have hbx' : bx < w.heap.size := hF bx hbx
    have hcx2 : w.cell? ⟨bx, ox, none⟩ = some (.int .i64 x) := by simpa using hcx
    have Bm := Lib.hid bm; clear bm
    have Ab := Lib.hid ab; clear ab
    have Ha := Lib.hid ha; clear ha
    have Hst := Lib.hid hst; clear hst
    clear hcx hdx
    go_enter Try.func33, Try.ntmps33
    go_wp2
    rw [← hW]
    go_ret
    exact ⟨rfl, Ab.out⟩
/-- the cells of the reference's state -/
def sRow (c : Tur) : Array Value := #[.int .i64 c.1.2.1, .int .i64 c.1.2.2.1, .int .i64 c.1.2.2.2, .int .i64 (axT c.1.1.toNat).1.1, .int .i64 (axT c.1.1.toNat).1.2.1, .int .i64 (axT c.1.1.toNat).1.2.2, .int .i64 (axT c.1.1.toNat).2.1.1, .int .i64 (axT c.1.1.toNat).2.1.2.1, .int .i64 (axT c.1.1.toNat).2.1.2.2, .int .i64 (axT c.1.1.toNat).2.2.1, .int .i64 (axT c.1.1.toNat).2.2.2.1, .int .i64 (axT c.1.1.toNat).2.2.2.2, .int .i64 c.2]
def mRow (p : V3) (m : M3) (d : Int) : Array Value := #[.int .i64 p.1, .int .i64 p.2.1, .int .i64 p.2.2, .int .i64 m.1.1, .int .i64 m.1.2.1, .int .i64 m.1.2.2, .int .i64 m.2.1.1, .int .i64 m.2.1.2.1, .int .i64 m.2.1.2.2, .int .i64 m.2.2.1, .int .i64 m.2.2.2.1, .int .i64 m.2.2.2.2, .int .i64 d]
theorem sRow_m (c : Tur) : sRow c = mRow c.1.2 (axT c.1.1.toNat) c.2 := rfl
theorem turned_ax {t : Nat} (ht : t < 24) : turnedF (axT t) = (t : Int) := by
  have : ∀ t : Fin 24, turnedF (axT t.val) = (t.val : Int) := by decide +kernel
  exact this ⟨t, ht⟩
set_option maxRecDepth 100000 in
set_option maxHeartbeats 4000000 in
theorem rFrame_calls (g : Nat) (c : Tur) (w : World) (hok : TurOk c) (hB : Blk w g 91 (sRow c)) : Calls Try.prog 38 #[.pointer (some ⟨g, 0, none⟩)] w (FrPost c.1 w) := by
  have hg := hB.lt
  have hlt := hok.lt
  have htu := fun W' => rTurned_calls (axT c.1.1.toNat) W'
  rw [turned_ax hlt, hok.nat] at htu
  have hu8 : IntKind.u8.wrap c.1.1 = c.1.1 := IntWalk.u8_in _ (by have := (checkFr_ok hok.ck).1; have := hok.lo; omega)
  obtain ⟨W, hW⟩ : ∃ W, W = w.alloc (.cells #[.int .u8 0, .int .i64 0, .int .i64 0, .int .i64 0] 27) := ⟨_, rfl⟩
  have b0 : Blk W w.heap.size 27 #[.int .u8 0, .int .i64 0, .int .i64 0, .int .i64 0] := by rw [hW]; exact Blk.new _ _ _
  have t0 : RowKit.Below w.heap.size w W := by rw [hW]; exact al1
  have kB := hB.same (t0.block _ hg)
  unfold sRow at kB
  obtain ⟨R, hR⟩ : ∃ m, axT c.1.1.toNat = m := ⟨_, rfl⟩
  rw [hR] at htu kB
  have y0 := cell_regrown (kB.cell 0)
  have y1 := cell_regrown (kB.cell 1)
  have y2 := cell_regrown (kB.cell 2)
  have y3 := cell_regrown (kB.cell 3)
  have y4 := cell_regrown (kB.cell 4)
  have y5 := cell_regrown (kB.cell 5)
  have y6 := cell_regrown (kB.cell 6)
  have y7 := cell_regrown (kB.cell 7)
  have y8 := cell_regrown (kB.cell 8)
  have y9 := cell_regrown (kB.cell 9)
  have y10 := cell_regrown (kB.cell 10)
  have y11 := cell_regrown (kB.cell 11)
  have si : ∀ q os, Calls Try.prog 50 #[.agg #[.int .i64 R.1.1, .int .i64 R.1.2.1, .int .i64 R.1.2.2, .int .i64 R.2.1.1, .int .i64 R.2.1.2.1, .int .i64 R.2.1.2.2, .int .i64 R.2.2.1, .int .i64 R.2.2.2.1, .int .i64 R.2.2.2.2]] (grow (redrawn W q) os) fun e w'' => e = .returned (.int .i64 c.1.1) ∧ ∃ p : Regrown, w'' = grow (redrawn W p.d) p.os := fun q os => Calls.regrown_of (htu _)
  have B0 := Lib.hid b0; clear b0
  have T0 := Lib.hid t0; clear t0
  have Htu := Lib.hid htu; clear htu
  have HR := Lib.hid hR; clear hR
  have HB := Lib.hid hB; clear hB
  have KB := Lib.hid kB; clear kB
  have Hok := Lib.hid hok; clear hok
  have Si := Lib.hid si; clear si
  have Hlt := Lib.hid hlt; clear hlt
  clear hg
  go_enter Try.func38, Try.ntmps38
  go_upto_region 1 with fail
  rw [← hW]
  clear hW
  refine wp_region_store 11 (by kernel_rfl) rfl rfl rfl (by kernel_rfl) (by kernel_rfl) (by kernel_rfl) ?_
  simp only [List.take_succ_cons, List.take_zero, List.cons_append, List.nil_append, nopT]
  iterate 11 (go_big_quiet_step (exact (Si.out _ _).mono fun e w'' h => h))
  refine wpQuiet_nil ?_
  rintro w' ⟨⟨dq, osq⟩, rfl⟩
  have hbr := below_regrown W dq osq
  generalize grow (redrawn W dq) osq = w5 at hbr ⊢
  have r0 := B0.out.same (hbr.block _ B0.out.lt)
  have r1 := T0.out.trans (hbr.mono T0.out.size)
  clear y0 y1 y2 y3 y4 y5 y6 y7 y8 y9 y10 y11 hbr
  have n0 := blk_row (cs := #[.int .u8 c.1.1, .int .i64 c.1.2.1, .int .i64 c.1.2.2.1, .int .i64 c.1.2.2.2]) r0
  have n1 := row_below (g := w.heap.size) r1 (Nat.le_refl _) #[.int .u8 c.1.1, .int .i64 c.1.2.1, .int .i64 c.1.2.2.1, .int .i64 c.1.2.2.2]
  have N0 := Lib.hid n0; clear n0
  have N1 := Lib.hid n1; clear n1
  have R1 := Lib.hid r1; clear r1
  refine wp_storeG 27 (.tmp 2) (.tmp 13) _ #[.int .u8 c.1.1, .int .i64 c.1.2.1, .int .i64 c.1.2.2.1, .int .i64 c.1.2.2.2] rfl rfl rfl r0 (by kernel_rfl) rfl (by simp [Value.oneCell']) rfl ?_
  go_wp2
  refine bodyPost_ret (results_cell_row rfl _ _ w.heap.size 27 _ (0, 0) _ rfl N0.out Try.underlying27 rfl (by kernel_rfl)) rfl ?_
  exact ⟨rfl, N1.out⟩
end Go.Proofs.Ytldccpmnboebmaa
