/-
  Layer 17: the walks of the law's helpers: line, drew.
-/
import Derived.Test.YtldccpmnboebmaaDoorAl
import Derived.Test.YtldccpmnboebmaaDoorM1
import Derived.Test.YtldccpmnboebmaaDoorVy
namespace Go.Proofs.YtldccpmnboebmaaDoor
open Go.RowKit Go.Sort
set_option linter.unusedVariables false

theorem own_slT {w : World} {e : TypeId} {B : Nat} {A : Option Addr} {n c : Nat} {xs : List Mod} (h : Own pMod e B (B ≤ ·) w (.slice A n c) xs) : SlAt pMod (Old w) w A c xs := (h.sl'.2).wide fun q hq => hq.2
set_option maxRecDepth 100000 in
set_option maxHeartbeats 1000000 in
theorem line_calls (a b : V3) (d : Int) (w : World) : Calls Tryd.prog 20 #[.int .i64 a.1, .int .i64 a.2.1, .int .i64 a.2.2, .int .i64 b.1, .int .i64 b.2.1, .int .i64 b.2.2, .int .i64 d] w
    (fun e w' => e = .returned (.agg #[.int .i64 a.1, .int .i64 a.2.1, .int .i64 a.2.2, .int .i64 b.1, .int .i64 b.2.1, .int .i64 b.2.2, .int .i64 d]) ∧ RowKit.Below w.heap.size w w') := by
  go_enter Tryd.func20, Tryd.ntmps20
  go_wp2
  (try simp only [Exit.inBlock, Exit.then])
  refine bodyPost_ret (results_cell_row rfl _ _ w.heap.size 46 #[.int .i64 a.1, .int .i64 a.2.1, .int .i64 a.2.2, .int .i64 b.1, .int .i64 b.2.1, .int .i64 b.2.2, .int .i64 d] (0, 0) _ rfl (Blk.new _ _ _) Tryd.underlying46 rfl (by kernel_rfl)) rfl ?_
  exact ⟨rfl, al1⟩
def zeroTu : Tur := ((0, (0, 0, 0)), 0)
set_option maxRecDepth 100000 in
set_option maxHeartbeats 4000000 in
theorem drew_calls (s : ByteArray) (b : Trop) (ms : List Mod) (u : Trk) (A : Option Addr) (c : Nat) (w : World) (hL : LibAt w) (hs : s.size ≤ 60000) (hb0 : 0 ≤ b.1) (h1 : parseF s.data.toList = (ms, 0)) (h2 : runT ms zeroTu b = (u, 0)) (hw : SlAt pLn (Old w) w A c u.lines) :
    Calls Tryd.prog 22 #[.string s, .agg #[.int .u8 b.1, .int .i64 b.2], .slice A u.lines.length c] w (OkPost w) := by
  have q1 := hw.lenle
  obtain ⟨W, hW⟩ : ∃ W, W = w.alloc (.cells #[.int .u8 b.1, .int .i64 b.2] 30) := ⟨_, rfl⟩
  have b0 : Blk W w.heap.size 30 #[.int .u8 b.1, .int .i64 b.2] := by rw [hW]; exact Blk.new w _ _
  have t0 : RowKit.Below w.heap.size w W := by rw [hW]; exact al1
  have hp := parse_calls s W hs (hL.later t0)
  unfold ParsePost at hp
  rw [h1] at hp
  have Hp := Lib.hid hp; clear hp
  have HL := Lib.hid hL; clear hL
  have H1 := Lib.hid h1; clear h1
  have B0 := Lib.hid b0; clear b0
  have T0 := Lib.hid t0; clear t0
  have Hw := Lib.hid hw; clear hw
  go_enter Tryd.func22, Tryd.ntmps22
  go_wp2_with fail
  (try rw [← hW])
  have HW := Lib.hid hW; clear hW
  refine Hp.out.mono ?_
  rintro e w1 ⟨A1, c1, rfl, o1, d1⟩
  have s1 := own_slT o1
  have k0 := B0.out.same (d1.block _ B0.out.lt)
  have t1 := T0.out.trans (d1.mono T0.out.size)
  have x0 := k0.cell 0
  have x1 := k0.cell 1
  have cr := run_calls A1 c1 ms zeroTu b w1 s1 (fits_u8 (n := 0) (by decide)) hb0
  unfold PlacePost at cr
  rw [h2] at cr
  unfold zeroTu at cr
  simp only at cr
  clear o1 d1 s1
  have Cr := Lib.hid cr; clear cr
  have K0 := Lib.hid k0; clear k0
  have T1 := Lib.hid t1; clear t1
  have H2 := Lib.hid h2; clear h2
  go_wp2_with fail
  refine Cr.out.mono ?_
  rintro e w2 ⟨A2, c2, B2, q2, rfl, sl, sm, d2⟩
  obtain ⟨w3, hw3⟩ : ∃ W, W = w2.alloc (.cells #[.slice A2 u.lines.length c2, .slice B2 u.marks.length q2, .int .u8 u.fr.1, .int .i64 u.fr.2.1, .int .i64 u.fr.2.2.1, .int .i64 u.fr.2.2.2, .int .i64 u.drawn] 36) := ⟨_, rfl⟩
  obtain ⟨g9, hg9⟩ : ∃ g, g = w2.heap.size := ⟨_, rfl⟩
  have b9 : Blk w3 g9 36 #[.slice A2 u.lines.length c2, .slice B2 u.marks.length q2, .int .u8 u.fr.1, .int .i64 u.fr.2.1, .int .i64 u.fr.2.2.1, .int .i64 u.fr.2.2.2, .int .i64 u.drawn] := by rw [hw3, hg9]; exact Blk.new w2 _ _
  have ab : RowKit.Below w2.heap.size w2 w3 := by rw [hw3]; exact al1
  have t3 := T1.out.trans ((d2.trans (ab.mono d2.size)).mono T1.out.size)
  have sl := sl.later ab
  have sw := Hw.out.later t3
  have y0 := b9.cell 0
  clear x0 x1 d2 ab sm
  have Sl := Lib.hid sl; clear sl
  have Sw := Lib.hid sw; clear sw
  have T3 := Lib.hid t3; clear t3
  have B9 := Lib.hid b9; clear b9
  go_upto_region 3 with fail
  rw [← hw3, ← hg9]
  have Hw3 := Lib.hid hw3; clear hw3
  have Hg9 := Lib.hid hg9; clear hg9
  go_wp2
  go_loopw [11] (fun i wr => ∃ k : Nat, k ≤ u.lines.length ∧ i = .int .i64 k ∧ Hid (RowKit.Below w3.heap.size w3 wr)) (fun i _ => u.lines.length - (intOf i).toNat)
  case atStart => exact ⟨0, Nat.zero_le _, rfl, RowKit.Below.refl _ _⟩
  case round =>
    obtain ⟨k, hk, rfl, hb⟩ := hrel
    obtain ⟨wo, rfl⟩ : ∃ wo : World, wo = wr := ⟨_, rfl⟩
    have p0 := B9.out.same (hb.out.block _ B9.out.lt)
    have y0 := p0.cell 0
    by_cases hlt : k < u.lines.length
    case pos =>
      obtain ⟨b, o, l, hdx, rfl, hob, c0, c1, c2, c3, c4, c5, c6, z1, z2, z3⟩ := (Sl.out.later hb.out).getLn hlt
      obtain ⟨b', o', m, hdy, rfl, hob', g0, g1, g2, g3, g4, g5, g6, z4, z5, z6⟩ := (Sw.out.later hb.out).getLn hlt
      obtain rfl : l = m := by have := get_of_drop hdx.out; rw [get_of_drop hdy.out] at this; exact (Option.some.inj this).symm
      have he := fun W' => eqIn_ln 9997 l l W'
      rw [decide_eq_true rfl] at he
      have y0' := cell_regrown y0
      have c0' := cell_regrown c0
      have c1' := cell_regrown c1
      have c2' := cell_regrown c2
      have c3' := cell_regrown c3
      have c4' := cell_regrown c4
      have c5' := cell_regrown c5
      have c6' := cell_regrown c6
      have g0' := cell_regrown g0
      have g1' := cell_regrown g1
      have g2' := cell_regrown g2
      have g3' := cell_regrown g3
      have g4' := cell_regrown g4
      have g5' := cell_regrown g5
      have g6' := cell_regrown g6
      have hlm : k + 1 ≤ u.lines.length := hlt
      have P0 := Lib.hid p0; clear p0
      have Z1 := Lib.hid z1; clear z1
      have Z2 := Lib.hid z2; clear z2
      have Z3 := Lib.hid z3; clear z3
      have Z4 := Lib.hid z4; clear z4
      have Z5 := Lib.hid z5; clear z5
      have Z6 := Lib.hid z6; clear z6
      clear hdx hdy
      go_upto_region 8 with fail
      clear y0 c0 c1 c2 c3 c4 c5 c6 g0 g1 g2 g3 g4 g5 g6
      refine wp_region_quiet_below (by kernel_rfl) (by kernel_rfl) ?_
      iterate 10 (go_big_quiet_step (fail))
      refine wpQuiet_nil ?_
      rintro w' ⟨⟨dq, osq⟩, rfl⟩
      have hbr := below_regrown wo dq osq
      generalize grow (redrawn wo dq) osq = w5 at hbr ⊢
      have n0 := hb.out.trans (hbr.mono hb.out.size)
      clear y0' c0' c1' c2' c3' c4' c5' c6' g0' g1' g2' g3' g4' g5' g6' he
      have N0 := Lib.hid n0; clear n0
      clear hbr hb
      go_wp2
      go_roundw
      case rel => exact ⟨k + 1, hlm, by go_num, N0⟩
      case measure => simp [intOf]; omega
    case neg =>
      have n1 := T3.out.trans (hb.out.mono T3.out.size)
      have N1 := Lib.hid n1; clear n1
      go_wp2
      go_ret
      exact ⟨rfl, N1.out⟩
end Go.Proofs.YtldccpmnboebmaaDoor
