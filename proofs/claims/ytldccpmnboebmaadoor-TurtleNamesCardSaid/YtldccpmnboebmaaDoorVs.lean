/-
  Layer 17: the lengths of tracks; the walks of both Lengths.
-/
import Derived.Test.YtldccpmnboebmaaDoorVr
import Derived.Handy
namespace Go.Proofs.YtldccpmnboebmaaDoor
open Go.RowKit Go.Sort
set_option linter.unusedVariables false

def absI (n : Int) : Int := max n (-n)
def farV (a b : V3) : Int := absI (b.1 - a.1) + absI (b.2.1 - a.2.1) + absI (b.2.2 - a.2.2)
def lenF : List Ln → Int
  | [] => 0
  | l :: r => farV l.fr l.to + lenF r
def lengthT (t : Trk) : Int × Int := if checkT t = 0 then (lenF t.lines, 0) else (0, checkT t)
theorem absI_le {n : Int} (h : -2000000 ≤ n ∧ n ≤ 2000000) : 0 ≤ absI n ∧ absI n ≤ 2000000 := by unfold absI; omega
theorem inV_near {v : V3} (h : inV (-1000000) v = true) : (-1000000 ≤ v.1 ∧ v.1 ≤ 1000000) ∧ (-1000000 ≤ v.2.1 ∧ v.2.1 ≤ 1000000) ∧ (-1000000 ≤ v.2.2 ∧ v.2.2 ≤ 1000000) := inV_iff.1 h
theorem lnOk_in {l : Ln} (h : lnOk l = true) : inV (-1000000) l.fr = true ∧ inV (-1000000) l.to = true := by
  unfold lnOk at h
  simp only [Bool.and_eq_true] at h
  exact h.1
theorem farV_le {l : Ln} (h : lnOk l = true) : 0 ≤ farV l.fr l.to ∧ farV l.fr l.to ≤ 6000000 := by
  obtain ⟨h1, h2⟩ := lnOk_in h
  obtain ⟨a1, a2, a3⟩ := inV_near h1
  obtain ⟨b1, b2, b3⟩ := inV_near h2
  have c1 := absI_le (n := l.to.1 - l.fr.1) (by omega)
  have c2 := absI_le (n := l.to.2.1 - l.fr.2.1) (by omega)
  have c3 := absI_le (n := l.to.2.2 - l.fr.2.2) (by omega)
  unfold farV
  omega
theorem badL_at {t : Trk} (h : badL t = false) {k : Nat} {l : Ln} (hd : t.lines.drop k = l :: t.lines.drop (k + 1)) : lnOk l = true := by
  unfold badL at h
  have hm : l ∈ t.lines := List.mem_of_mem_drop (i := k) (by rw [hd]; simp)
  have := List.any_eq_false.1 h l hm
  simpa using this
def IntErr (r : Int × Int) (w : World) (e : Ending) (w' : World) : Prop := e = .returned (.tuple #[.int .i64 r.1, .int .i64 r.2]) ∧ RowKit.Below w.heap.size w w'
theorem intErr_post {a b : Int} {r : Int × Int} (h : r = (a, b)) : Ending.returned (.tuple #[.int .i64 a, .int .i64 b]) = .returned (.tuple #[.int .i64 r.1, .int .i64 r.2]) := by rw [h]
set_option maxRecDepth 100000 in
theorem size_calls (n : Int) (w : World) (h : -2000000 ≤ n ∧ n ≤ 2000000) : Calls Tryd.prog 30 #[.int .i64 n] w (IntPost (absI n) w) := by
  have hn := absI_le h
  go_enter Tryd.func30, Tryd.ntmps30
  go_wp2
  all_goals
    go_ret
    refine ⟨int_post ?_, Below.refl _ _⟩
    unfold absI
    omega
set_option maxRecDepth 100000 in
set_option maxHeartbeats 4000000 in
theorem length_calls (A : Option Addr) (c : Nat) (B : Option Addr) (d : Nat) (t : Trk) (w : World) (hl : SlAt pLn (Old w) w A c t.lines) (hm : SlAt pMk (Old w) w B d t.marks) : Calls Tryd.prog 16 #[.agg #[.slice A t.lines.length c, .slice B t.marks.length d, .int .u8 t.fr.1, .int .i64 t.fr.2.1, .int .i64 t.fr.2.2.1, .int .i64 t.fr.2.2.2, .int .i64 t.drawn]] w (IntErr (lengthT t) w) := by
  have q1 := hl.lenle
  have q2 := hm.lenle
  obtain ⟨W, hW⟩ : ∃ W, W = w.alloc (.cells #[.slice A t.lines.length c, .slice B t.marks.length d, .int .u8 t.fr.1, .int .i64 t.fr.2.1, .int .i64 t.fr.2.2.1, .int .i64 t.fr.2.2.2, .int .i64 t.drawn] 36) := ⟨_, rfl⟩
  have hB : Blk W w.heap.size 36 #[.slice A t.lines.length c, .slice B t.marks.length d, .int .u8 t.fr.1, .int .i64 t.fr.2.1, .int .i64 t.fr.2.2.1, .int .i64 t.fr.2.2.2, .int .i64 t.drawn] := by rw [hW]; exact Blk.new _ _ _
  have t0 : RowKit.Below w.heap.size w W := by rw [hW]; exact al1
  have f1 := fun W' (h : RowKit.Below w.heap.size w W') => checked_calls A c B d t W' (hl.later h) (hm.later h)
  have hr : lengthT t = if checkT t = 0 then (lenF t.lines, 0) else (0, checkT t) := rfl
  have hg := @checkT_ok t
  obtain ⟨z, hz⟩ : ∃ z, checkT t = z := ⟨_, rfl⟩
  rw [hz] at f1 hr hg
  have HB := Lib.hid hB; clear hB
  have T0 := Lib.hid t0; clear t0
  have Hl := Lib.hid hl; clear hl
  have Hm := Lib.hid hm; clear hm
  have F1 := Lib.hid f1; clear f1
  have Hr := Lib.hid hr; clear hr
  have Hg := Lib.hid hg; clear hg
  have Hz := Lib.hid hz; clear hz
  have y0 := HB.out.cell 0
  have y1 := HB.out.cell 1
  have y2 := HB.out.cell 2
  have y3 := HB.out.cell 3
  have y4 := HB.out.cell 4
  have y5 := HB.out.cell 5
  have y6 := HB.out.cell 6
  go_enter Tryd.func16, Tryd.ntmps16
  go_wp2_with fail
  (try rw [← hW])
  have HW := Lib.hid hW; clear hW
  refine (F1.out _ T0.out).mono ?_
  rintro e w1 ⟨rfl, d1⟩
  have k1 := HB.out.same (d1.block _ HB.out.lt)
  have t1 := T0.out.trans (d1.mono T0.out.size)
  clear y0 y1 y2 y3 y4 y5 y6 d1
  by_cases h0 : z = 0
  case neg =>
    have h0' : (z != 0) = true := by simpa using h0
    have hr1 := Hr.out
    rw [if_neg h0] at hr1
    have Hr1 := Lib.hid hr1; clear hr1
    have K1 := Lib.hid k1; clear k1
    have T1 := Lib.hid t1; clear t1
    go_wp2
    go_returns
    exact ⟨intErr_post Hr1.out, T1.out⟩
  case pos =>
    subst h0
    have hr1 := Hr.out
    rw [if_pos rfl] at hr1
    obtain ⟨o1, _, _, o4, _⟩ := Hg.out rfl
    have y0 := k1.cell 0
    have Hr1 := Lib.hid hr1; clear hr1
    have K1 := Lib.hid k1; clear k1
    have T1 := Lib.hid t1; clear t1
    have O1 := Lib.hid o1; clear o1
    go_wp2

    go_loopw [16, 5] (fun i acc wr => ∃ (k : Nat) (s : Int), k ≤ t.lines.length ∧ i = .int .i64 k ∧ acc = .int .i64 s ∧ 0 ≤ s ∧ s ≤ 6000000 * k ∧ Hid (s + lenF (t.lines.drop k) = lenF t.lines) ∧ Hid (RowKit.Below w.heap.size w wr)) (fun i _ _ => t.lines.length - (intOf i).toNat)
    case atStart => exact ⟨0, 0, Nat.zero_le _, rfl, rfl, by omega, by omega, Int.zero_add _, T1.out⟩
    case round =>
      obtain ⟨k, s, hk, rfl, rfl, hs0, hs1, hs, hbw⟩ := hrel

      by_cases hlt : k < t.lines.length
      case pos =>
        obtain ⟨b, o, l, hd, rfl, hob, c0, c1, c2, c3, c4, c5, c6, z1, z2, z3⟩ := (Hl.out.later hbw.out).getLn hlt
        have hok := badL_at O1.out hd.out
        have hfar := farV_le hok
        obtain ⟨i1, i2⟩ := lnOk_in hok
        obtain ⟨a1, a2, a3⟩ := inV_near i1
        obtain ⟨b1, b2, b3⟩ := inV_near i2
        have hsum : s + farV l.fr l.to + lenF (t.lines.drop (k + 1)) = lenF t.lines := by
          have := hs.out
          rw [hd.out] at this
          simp only [lenF] at this
          omega
        obtain ⟨⟨x1, x2, x3⟩, ⟨v1, v2, v3⟩, dep⟩ := l
        simp only at c0 c1 c2 c3 c4 c5 c6 a1 a2 a3 b1 b2 b3 i1 i2 hfar hsum
        have hob' : b < wr.heap.size := hob
        have zw := hbw.out.size

        have hfv : farV (x1, x2, x3) (v1, v2, v3) = absI (v1 - x1) + absI (v2 - x2) + absI (v3 - x3) := rfl
        have g1 := absI_le (n := v1 - x1) (by omega)
        have g2 := absI_le (n := v2 - x2) (by omega)
        have g3 := absI_le (n := v3 - x3) (by omega)
        have n1 := fun W' => size_calls (v1 - x1) W' (by omega)
        have n2 := fun W' => size_calls (v2 - x2) W' (by omega)
        have n3 := fun W' => size_calls (v3 - x3) W' (by omega)
        rw [hfv] at hfar hsum
        obtain ⟨s1, e1⟩ : ∃ s, absI (v1 - x1) = s := ⟨_, rfl⟩
        obtain ⟨s2, e2⟩ : ∃ s, absI (v2 - x2) = s := ⟨_, rfl⟩
        obtain ⟨s3, e3⟩ : ∃ s, absI (v3 - x3) = s := ⟨_, rfl⟩
        rw [e1] at hfar hsum g1 n1
        rw [e2] at hfar hsum g2 n2
        rw [e3] at hfar hsum g3 n3
        obtain ⟨u1, h1⟩ : ∃ u, v1 - x1 = u := ⟨_, rfl⟩
        obtain ⟨u2, h2⟩ : ∃ u, v2 - x2 = u := ⟨_, rfl⟩
        obtain ⟨u3, h3⟩ : ∃ u, v3 - x3 = u := ⟨_, rfl⟩
        rw [h1] at n1
        rw [h2] at n2
        rw [h3] at n3
        have hm1 : -2000000 ≤ u1 ∧ u1 ≤ 2000000 := by omega
        have hm2 : -2000000 ≤ u2 ∧ u2 ≤ 2000000 := by omega
        have hm3 : -2000000 ≤ u3 ∧ u3 ≤ 2000000 := by omega
        have hk1 : ((k : Int) + 1) * 6000000 ≤ 6000000 * 2001 := by omega
        have Hsum := Lib.hid hsum; clear hsum
        have E1 := Lib.hid e1; clear e1
        have E2 := Lib.hid e2; clear e2
        have E3 := Lib.hid e3; clear e3
        have Hfv := Lib.hid hfv; clear hfv
        have N1 := Lib.hid n1; clear n1
        have N2 := Lib.hid n2; clear n2
        have N3 := Lib.hid n3; clear n3
        have Z1 := Lib.hid z1; clear z1
        have Z2 := Lib.hid z2; clear z2
        have Z3 := Lib.hid z3; clear z3
        have I1 := Lib.hid i1; clear i1
        have I2 := Lib.hid i2; clear i2
        have Hok := Lib.hid hok; clear hok
        obtain ⟨wo, hwo⟩ : ∃ W, W = wr.alloc (.cells #[.int .i64 x1, .int .i64 x2, .int .i64 x3, .int .i64 v1, .int .i64 v2, .int .i64 v3, .int .i64 dep] 46) := ⟨_, rfl⟩
        have hbo : Blk wo wr.heap.size 46 #[.int .i64 x1, .int .i64 x2, .int .i64 x3, .int .i64 v1, .int .i64 v2, .int .i64 v3, .int .i64 dep] := by rw [hwo]; exact Blk.new _ _ _
        have two : RowKit.Below wr.heap.size wr wo := by rw [hwo]; exact al1
        go_upto_region 8 with fail
        (try rw [← hwo])
        clear c0 c1 c2 c3 c4 c5 c6 hwo
        have c0 := hbo.cell 0
        have c1 := hbo.cell 1
        have c2 := hbo.cell 2
        have c3 := hbo.cell 3
        have c4 := hbo.cell 4
        have c5 := hbo.cell 5
        have e0 := fun D O => cell_regrown c0 D O
        refine wp_region_quiet_below (by kernel_rfl) (by kernel_rfl) ?_
        have r0 := cell_regrown c0
        have r1 := cell_regrown c1
        have r2 := cell_regrown c2
        have r3 := cell_regrown c3
        have r4 := cell_regrown c4
        have r5 := cell_regrown c5
        have m1 : ∀ q os, Calls Tryd.prog 30 #[.int .i64 u1] (grow (redrawn wo q) os) fun e w'' => e = .returned (.int .i64 s1) ∧ ∃ p : Regrown, w'' = grow (redrawn wo p.d) p.os := fun q os => Calls.regrown_of (N1.out _)
        have m2 : ∀ q os, Calls Tryd.prog 30 #[.int .i64 u2] (grow (redrawn wo q) os) fun e w'' => e = .returned (.int .i64 s2) ∧ ∃ p : Regrown, w'' = grow (redrawn wo p.d) p.os := fun q os => Calls.regrown_of (N2.out _)
        have m3 : ∀ q os, Calls Tryd.prog 30 #[.int .i64 u3] (grow (redrawn wo q) os) fun e w'' => e = .returned (.int .i64 s3) ∧ ∃ p : Regrown, w'' = grow (redrawn wo p.d) p.os := fun q os => Calls.regrown_of (N3.out _)
        have M1 := Lib.hid m1; clear m1
        have M2 := Lib.hid m2; clear m2
        have M3 := Lib.hid m3; clear m3
        have Hbo := Lib.hid hbo; clear hbo
        have Two := Lib.hid two; clear two
        clear e0 c0 c1 c2 c3 c4 c5
        iterate 9 (go_big_quiet_step (exact (M1.out _ _).mono fun e w'' h => h))
        iterate 8 (go_big_quiet_step (exact (M2.out _ _).mono fun e w'' h => h))
        iterate 12 (go_big_quiet_step (exact (M3.out _ _).mono fun e w'' h => h))
        refine wpQuiet_nil ?_
        rintro w' ⟨⟨dq, osq⟩, rfl⟩
        have hbr := below_regrown wo dq osq
        generalize grow (redrawn wo dq) osq = w5 at hbr ⊢
        have t5 := hbw.out.trans ((Two.out.trans (hbr.mono Two.out.size)).mono hbw.out.size)
        have T5 := Lib.hid t5; clear t5
        clear hbr r0 r1 r2 r3 r4 r5
        go_wp2
        go_roundw
        case rel => exact ⟨k + 1, s + (s1 + s2 + s3), by omega, by go_num, by go_num, by omega, by omega, (by have := Hsum.out; omega), T5.out⟩
        case measure => simp [intOf]; omega

      case neg =>
        have hfin : s = lenF t.lines := by
          have := hs.out
          rw [List.drop_eq_nil_of_le (by omega)] at this
          simp only [lenF] at this
          omega
        have Hfin := Lib.hid hfin; clear hfin
        go_wp2
        go_returns
        exact ⟨intErr_post (Hr1.out.trans (by rw [Hfin.out])), hbw.out⟩

end Go.Proofs.YtldccpmnboebmaaDoor
