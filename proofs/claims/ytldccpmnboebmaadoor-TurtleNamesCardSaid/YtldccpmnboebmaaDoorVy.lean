/-
  Layer 17: when lines, marks and turtles are equal, as the program compares them; the walk of the reference's Same of tracks.
-/
import Derived.Test.YtldccpmnboebmaaDoorVi
import Derived.Test.YtldccpmnboebmaaDoorM2
import Derived.Test.YtldccpmnboebmaaDoorVo
namespace Go.Proofs.YtldccpmnboebmaaDoor
open Go.RowKit Go.Sort
set_option linter.unusedVariables false

theorem eqIn_vec' (d : Nat) (a b : V3) (w : World) : (Op.equalIn (d + 1 + 1) 24 (.agg #[.int .i64 a.1, .int .i64 a.2.1, .int .i64 a.2.2]) (.agg #[.int .i64 b.1, .int .i64 b.2.1, .int .i64 b.2.2])).run Tryd.prog w = .ok (decide (a = b)) w := by
  rw [eqIn_vec]
  congr 1
  rw [Bool.eq_iff_iff]
  obtain ⟨a1, a2, a3⟩ := a
  obtain ⟨b1, b2, b3⟩ := b
  simp
theorem eqIn_fr (d : Nat) (a b : Fr) (w : World) : (Op.equalIn (d + 1 + 1 + 1) 26 (.agg #[.int .u8 a.1, .int .i64 a.2.1, .int .i64 a.2.2.1, .int .i64 a.2.2.2]) (.agg #[.int .u8 b.1, .int .i64 b.2.1, .int .i64 b.2.2.1, .int .i64 b.2.2.2])).run Tryd.prog w = .ok (decide (a = b)) w := by
  obtain ⟨a0, a⟩ := a
  obtain ⟨b0, b⟩ := b
  rw [Op.equalIn]
  simp only [Sem.run_bind, run_underlying Tryd.underlying26, Result.andThen]
  have hs : ∀ w, (sizeOf 24).run Tryd.prog w = .ok 3 w := fun w => by kernel_rfl
  have hg : ∀ w, (isAgg 24).run Tryd.prog w = .ok true w := fun w => by kernel_rfl
  have hs0 : ∀ w, (sizeOf 5).run Tryd.prog w = .ok 1 w := fun w => by kernel_rfl
  have hg0 : ∀ w, (isAgg 5).run Tryd.prog w = .ok false w := fun w => by kernel_rfl
  have hi0 := fun (u v : Int) => run_equalIn_int (P := Tryd.prog) w (d + 1) 5 .u8 .u8 u v Tryd.underlying5
  have hi := eqIn_vec' d a b w
  by_cases h1 : a0 = b0
  · by_cases h2 : a = b
    · simp [hs, hg, hg0, hi0, h1, h2, Result.andThen, Sem.run_bind, go_sem]
    · simp [hs, hg, hg0, hi0, hi, h1, h2, Result.andThen, Sem.run_bind, go_sem]
  · simp [hg0, hi0, h1, Result.andThen, Sem.run_bind, go_sem]
theorem eqIn_tur (d : Nat) (a b : Tur) (w : World) : (Op.equalIn (d + 1 + 1 + 1 + 1) 28 (.agg #[.int .u8 a.1.1, .int .i64 a.1.2.1, .int .i64 a.1.2.2.1, .int .i64 a.1.2.2.2, .int .i64 a.2]) (.agg #[.int .u8 b.1.1, .int .i64 b.1.2.1, .int .i64 b.1.2.2.1, .int .i64 b.1.2.2.2, .int .i64 b.2])).run Tryd.prog w = .ok (decide (a = b)) w := by
  obtain ⟨a, a0⟩ := a
  obtain ⟨b, b0⟩ := b
  rw [Op.equalIn]
  simp only [Sem.run_bind, run_underlying Tryd.underlying28, Result.andThen]
  have hs : ∀ w, (sizeOf 26).run Tryd.prog w = .ok 4 w := fun w => by kernel_rfl
  have hg : ∀ w, (isAgg 26).run Tryd.prog w = .ok true w := fun w => by kernel_rfl
  have hs0 : ∀ w, (sizeOf 3).run Tryd.prog w = .ok 1 w := fun w => by kernel_rfl
  have hg0 : ∀ w, (isAgg 3).run Tryd.prog w = .ok false w := fun w => by kernel_rfl
  have hi0 := fun (u v : Int) => run_equalIn_int (P := Tryd.prog) w (d + 1 + 1) 3 .i64 .i64 u v Tryd.underlying3
  have hi := eqIn_fr d a b w
  by_cases h1 : a = b
  · by_cases h2 : a0 = b0
    · simp [hs, hg, hg0, hi0, h1, h2, Result.andThen, Sem.run_bind, go_sem]
    · simp [hs, hg, hg0, hi0, h1, h2, Result.andThen, Sem.run_bind, go_sem]
  · simp [hs, hg, hi, h1, Result.andThen, Sem.run_bind, go_sem]
theorem eqIn_ln (d : Nat) (a b : Ln) (w : World) : (Op.equalIn (d + 1 + 1 + 1) 46 (.agg #[.int .i64 a.fr.1, .int .i64 a.fr.2.1, .int .i64 a.fr.2.2, .int .i64 a.to.1, .int .i64 a.to.2.1, .int .i64 a.to.2.2, .int .i64 a.dep]) (.agg #[.int .i64 b.fr.1, .int .i64 b.fr.2.1, .int .i64 b.fr.2.2, .int .i64 b.to.1, .int .i64 b.to.2.1, .int .i64 b.to.2.2, .int .i64 b.dep])).run Tryd.prog w = .ok (decide (a = b)) w := by
  obtain ⟨a1, a2, a0⟩ := a
  obtain ⟨b1, b2, b0⟩ := b
  rw [Op.equalIn]
  simp only [Sem.run_bind, run_underlying Tryd.underlying46, Result.andThen]
  have hs : ∀ w, (sizeOf 24).run Tryd.prog w = .ok 3 w := fun w => by kernel_rfl
  have hg : ∀ w, (isAgg 24).run Tryd.prog w = .ok true w := fun w => by kernel_rfl
  have hs0 : ∀ w, (sizeOf 3).run Tryd.prog w = .ok 1 w := fun w => by kernel_rfl
  have hg0 : ∀ w, (isAgg 3).run Tryd.prog w = .ok false w := fun w => by kernel_rfl
  have hi0 := fun (u v : Int) => run_equalIn_int (P := Tryd.prog) w (d + 1) 3 .i64 .i64 u v Tryd.underlying3
  have hi := fun a b => eqIn_vec' d a b w
  by_cases h1 : a1 = b1
  · by_cases h2 : a2 = b2
    · by_cases h3 : a0 = b0
      · simp [hs, hg, hg0, hi0, hi, h1, h2, h3, Result.andThen, Sem.run_bind, go_sem]
      · simp [hs, hg, hg0, hi0, hi, h1, h2, h3, Result.andThen, Sem.run_bind, go_sem]
    · simp [hs, hg, hi, h1, h2, Result.andThen, Sem.run_bind, go_sem]
  · simp [hs, hg, hi, h1, Result.andThen, Sem.run_bind, go_sem]
theorem eqIn_mk (d : Nat) (a b : Mk) (w : World) : (Op.equalIn (d + 1 + 1 + 1 + 1) 65 (.agg #[.int .u8 a.name, .int .u8 a.turn, .int .i64 a.pl.1, .int .i64 a.pl.2.1, .int .i64 a.pl.2.2]) (.agg #[.int .u8 b.name, .int .u8 b.turn, .int .i64 b.pl.1, .int .i64 b.pl.2.1, .int .i64 b.pl.2.2])).run Tryd.prog w = .ok (decide (a = b)) w := by
  obtain ⟨a0, a1, a2⟩ := a
  obtain ⟨b0, b1, b2⟩ := b
  rw [Op.equalIn]
  simp only [Sem.run_bind, run_underlying Tryd.underlying65, Result.andThen]
  have hs : ∀ w, (sizeOf 26).run Tryd.prog w = .ok 4 w := fun w => by kernel_rfl
  have hg : ∀ w, (isAgg 26).run Tryd.prog w = .ok true w := fun w => by kernel_rfl
  have hs0 : ∀ w, (sizeOf 5).run Tryd.prog w = .ok 1 w := fun w => by kernel_rfl
  have hg0 : ∀ w, (isAgg 5).run Tryd.prog w = .ok false w := fun w => by kernel_rfl
  have hi0 := fun (u v : Int) => run_equalIn_int (P := Tryd.prog) w (d + 1 + 1) 5 .u8 .u8 u v Tryd.underlying5
  have hi := eqIn_fr d (a1, a2) (b1, b2) w
  by_cases h1 : a0 = b0
  · by_cases h2 : (a1, a2) = (b1, b2)
    · have h3 := Prod.mk.inj h2
      rw [decide_eq_true h2] at hi
      simp only [h3.1, h3.2] at hi
      simp [hs, hg, hg0, hi0, hi, h1, h3.1, h3.2, Result.andThen, Sem.run_bind, go_sem]
    · rw [decide_eq_false h2] at hi
      have h3 : a1 = b1 → ¬ a2 = b2 := fun e e' => h2 (by rw [e, e'])
      simp [hs, hg, hg0, hi0, hi, h1, Result.andThen, Sem.run_bind, go_sem]
      exact h3
  · simp [hg0, hi0, h1, Result.andThen, Sem.run_bind, go_sem]
theorem trk_eq (t u : Trk) : decide (t = u) = (decide (t.lines = u.lines) && decide (t.marks = u.marks) && decide ((t.fr, t.drawn) = (u.fr, u.drawn))) := by
  obtain ⟨a, b, c, d⟩ := t
  obtain ⟨e, f, g, h⟩ := u
  rw [Bool.eq_iff_iff]
  simp [and_assoc]
theorem dec_cons {α : Type} [DecidableEq α] {x y : α} {xs ys : List α} : decide (x :: xs = y :: ys) = (decide (x = y) && decide (xs = ys)) := by rw [Bool.eq_iff_iff]; simp
theorem bool_post {a b : Bool} (h : b = a) : Ending.returned (.bool a) = .returned (.bool b) := by rw [h]
set_option maxRecDepth 100000 in
set_option maxHeartbeats 8000000 in
theorem rTSame_calls (A : Option Addr) (c : Nat) (B : Option Addr) (d : Nat) (t : Trk) (A' : Option Addr) (c' : Nat) (B' : Option Addr) (d' : Nat) (u : Trk) (w : World) (hl : SlAt pLn (Old w) w A c t.lines) (hm : SlAt pMk (Old w) w B d t.marks) (hl' : SlAt pLn (Old w) w A' c' u.lines) (hm' : SlAt pMk (Old w) w B' d' u.marks) :
    Calls Tryd.prog 12 #[.agg #[.slice A t.lines.length c, .slice B t.marks.length d, .int .u8 t.fr.1, .int .i64 t.fr.2.1, .int .i64 t.fr.2.2.1, .int .i64 t.fr.2.2.2, .int .i64 t.drawn], .agg #[.slice A' u.lines.length c', .slice B' u.marks.length d', .int .u8 u.fr.1, .int .i64 u.fr.2.1, .int .i64 u.fr.2.2.1, .int .i64 u.fr.2.2.2, .int .i64 u.drawn]] w (BoolPost (decide (t = u)) w) := by
  have q1 := hl.lenle
  have q2 := hm.lenle
  have q3 := hl'.lenle
  have q4 := hm'.lenle
  obtain ⟨W, hW⟩ : ∃ W, W = (w.alloc (.cells #[.slice A t.lines.length c, .slice B t.marks.length d, .int .u8 t.fr.1, .int .i64 t.fr.2.1, .int .i64 t.fr.2.2.1, .int .i64 t.fr.2.2.2, .int .i64 t.drawn] 36)).alloc (.cells #[.slice A' u.lines.length c', .slice B' u.marks.length d', .int .u8 u.fr.1, .int .i64 u.fr.2.1, .int .i64 u.fr.2.2.1, .int .i64 u.fr.2.2.2, .int .i64 u.drawn] 36) := ⟨_, rfl⟩
  have b0 : Blk W w.heap.size 36 #[.slice A t.lines.length c, .slice B t.marks.length d, .int .u8 t.fr.1, .int .i64 t.fr.2.1, .int .i64 t.fr.2.2.1, .int .i64 t.fr.2.2.2, .int .i64 t.drawn] := by rw [hW]; exact (Blk.new w _ _).alloc _
  have b1 : Blk W (w.heap.size + 1) 36 #[.slice A' u.lines.length c', .slice B' u.marks.length d', .int .u8 u.fr.1, .int .i64 u.fr.2.1, .int .i64 u.fr.2.2.1, .int .i64 u.fr.2.2.2, .int .i64 u.drawn] := by
    rw [hW]
    have := Blk.new (w.alloc (.cells #[.slice A t.lines.length c, .slice B t.marks.length d, .int .u8 t.fr.1, .int .i64 t.fr.2.1, .int .i64 t.fr.2.2.1, .int .i64 t.fr.2.2.2, .int .i64 t.drawn] 36)) 36 #[.slice A' u.lines.length c', .slice B' u.marks.length d', .int .u8 u.fr.1, .int .i64 u.fr.2.1, .int .i64 u.fr.2.2.1, .int .i64 u.fr.2.2.2, .int .i64 u.drawn]
    simpa using this
  have t0 : RowKit.Below w.heap.size w W := by rw [hW]; exact al2
  have hq := trk_eq t u
  have he := fun W' => eqIn_tur 9996 (t.fr, t.drawn) (u.fr, u.drawn) W'
  simp only at he
  obtain ⟨z, hz⟩ : ∃ z, decide ((t.fr, t.drawn) = (u.fr, u.drawn)) = z := ⟨_, rfl⟩
  rw [hz] at hq he
  have hll : t.lines.length ≠ u.lines.length → decide (t = u) = false := fun h => decide_eq_false fun e => h (by rw [e])
  have hmm : t.marks.length ≠ u.marks.length → decide (t = u) = false := fun h => decide_eq_false fun e => h (by rw [e])
  have y0 := b0.cell 0
  have y1 := b0.cell 1
  have y2 := b0.cell 2
  have y3 := b0.cell 3
  have y4 := b0.cell 4
  have y5 := b0.cell 5
  have y6 := b0.cell 6
  have v0 := b1.cell 0
  have v1 := b1.cell 1
  have v2 := b1.cell 2
  have v3 := b1.cell 3
  have v4 := b1.cell 4
  have v5 := b1.cell 5
  have v6 := b1.cell 6
  by_cases h1 : t.lines.length = u.lines.length
  case neg =>
    have e1 : ((t.lines.length : Int) != (u.lines.length : Int)) = true := by simp; omega
    have hr := hll h1
    have Hr := Lib.hid hr; clear hr
    have B0 := Lib.hid b0; clear b0
    have B1 := Lib.hid b1; clear b1
    have T0 := Lib.hid t0; clear t0
    have Hl := Lib.hid hl; clear hl
    have Hm := Lib.hid hm; clear hm
    have Hl' := Lib.hid hl'; clear hl'
    have Hm' := Lib.hid hm'; clear hm'
    have He := Lib.hid he; clear he
    have Hll := Lib.hid hll; clear hll
    have Hmm := Lib.hid hmm; clear hmm
    have Hq := Lib.hid hq; clear hq
    have H1 := Lib.hid h1; clear h1
    have Hz := Lib.hid hz; clear hz
    go_enter Tryd.func12, Tryd.ntmps12
    go_wp2
    rw [← hW]
    go_ret
    exact ⟨bool_post Hr.out, T0.out⟩
  case pos =>
  have e1 : ((t.lines.length : Int) != (u.lines.length : Int)) = false := by simp [h1]
  by_cases h2 : t.marks.length = u.marks.length
  case neg =>
    have e2 : ((t.marks.length : Int) != (u.marks.length : Int)) = true := by simp; omega
    have hr := hmm h2
    have Hr := Lib.hid hr; clear hr
    have B0 := Lib.hid b0; clear b0
    have B1 := Lib.hid b1; clear b1
    have T0 := Lib.hid t0; clear t0
    have Hl := Lib.hid hl; clear hl
    have Hm := Lib.hid hm; clear hm
    have Hl' := Lib.hid hl'; clear hl'
    have Hm' := Lib.hid hm'; clear hm'
    have He := Lib.hid he; clear he
    have Hll := Lib.hid hll; clear hll
    have Hmm := Lib.hid hmm; clear hmm
    have Hq := Lib.hid hq; clear hq
    have H1 := Lib.hid h1; clear h1
    have H2 := Lib.hid h2; clear h2
    have Hz := Lib.hid hz; clear hz
    go_enter Tryd.func12, Tryd.ntmps12
    go_wp2
    rw [← hW]
    go_ret
    exact ⟨bool_post Hr.out, T0.out⟩
  case pos =>
  have e2 : ((t.marks.length : Int) != (u.marks.length : Int)) = false := by simp [h2]
  cases z
  case false =>
    have hr : decide (t = u) = false := by rw [hq]; simp
    have Hr := Lib.hid hr; clear hr
    have B0 := Lib.hid b0; clear b0
    have B1 := Lib.hid b1; clear b1
    have T0 := Lib.hid t0; clear t0
    have Hl := Lib.hid hl; clear hl
    have Hm := Lib.hid hm; clear hm
    have Hl' := Lib.hid hl'; clear hl'
    have Hm' := Lib.hid hm'; clear hm'
    have Hll := Lib.hid hll; clear hll
    have Hmm := Lib.hid hmm; clear hmm
    have Hq := Lib.hid hq; clear hq
    have H1 := Lib.hid h1; clear h1
    have H2 := Lib.hid h2; clear h2
    have Hz := Lib.hid hz; clear hz
    go_enter Tryd.func12, Tryd.ntmps12
    go_wp2
    rw [← hW]
    go_ret
    exact ⟨bool_post Hr.out, T0.out⟩
  case true =>
  have B0 := Lib.hid b0; clear b0
  have B1 := Lib.hid b1; clear b1
  have T0 := Lib.hid t0; clear t0
  have Hl := Lib.hid hl; clear hl
  have Hm := Lib.hid hm; clear hm
  have Hl' := Lib.hid hl'; clear hl'
  have Hm' := Lib.hid hm'; clear hm'
  have Hll := Lib.hid hll; clear hll
  have Hmm := Lib.hid hmm; clear hmm
  have Hq := Lib.hid hq; clear hq
  have H1 := Lib.hid h1; clear h1
  have H2 := Lib.hid h2; clear h2
  have Hz := Lib.hid hz; clear hz
  go_enter Tryd.func12, Tryd.ntmps12
  go_wp2
  rw [← hW]
  clear y0 y1 y2 y3 y4 y5 y6 v0 v1 v2 v3 v4 v5 v6 he
  have HW := Lib.hid hW; clear hW
  go_loopw [5] (fun i wr => ∃ k : Nat, k ≤ t.lines.length ∧ i = .int .i64 k ∧ Hid (decide (t.lines = u.lines) = decide (t.lines.drop k = u.lines.drop k)) ∧ Hid (RowKit.Below W.heap.size W wr)) (fun i _ => t.lines.length - (intOf i).toNat)
  case atStart => exact ⟨0, Nat.zero_le _, rfl, rfl, RowKit.Below.refl _ _⟩
  case round =>
    obtain ⟨k, hk, rfl, hin, hb⟩ := hrel
    obtain ⟨wo, rfl⟩ : ∃ wo : World, wo = wr := ⟨_, rfl⟩
    have hbw := T0.out.trans (hb.out.mono T0.out.size)
    have p0 := B0.out.same (hb.out.block _ B0.out.lt)
    have p1 := B1.out.same (hb.out.block _ B1.out.lt)
    have y0 := p0.cell 0
    have v0 := p1.cell 0
    by_cases hlt : k < t.lines.length
    case pos =>
      have hlt' : k < u.lines.length := by rw [← H1.out]; exact hlt
      obtain ⟨b, o, l, hdx, rfl, hob, c0, c1, c2, c3, c4, c5, c6, z1, z2, z3⟩ := (Hl.out.later hbw).getLn hlt
      obtain ⟨b', o', m, hdy, rfl, hob', g0, g1, g2, g3, g4, g5, g6, z4, z5, z6⟩ := (Hl'.out.later hbw).getLn hlt'
      have he := fun W' => eqIn_ln 9997 l m W'
      have hst := hin.out
      rw [hdx.out, hdy.out, dec_cons] at hst
      obtain ⟨x, hx⟩ : ∃ x, decide (l = m) = x := ⟨_, rfl⟩
      rw [hx] at he hst
      have y0' := cell_regrown y0
      have v0' := cell_regrown v0
      have c0' := cell_regrown c0
      have c1' := cell_regrown c1
      have c2' := cell_regrown c2
      have c3' := cell_regrown c3
      have c4' := cell_regrown c4
      have c5' := cell_regrown c5
      have c6' := cell_regrown c6
      have g0' := cell_regrown g0
      have g1' := cell_regrown g1
      have g2' := cell_regrown g2
      have g3' := cell_regrown g3
      have g4' := cell_regrown g4
      have g5' := cell_regrown g5
      have g6' := cell_regrown g6
      have hlm : k + 1 ≤ t.lines.length := hlt
      have Hst := Lib.hid hst; clear hst
      have Hx := Lib.hid hx; clear hx
      have P0 := Lib.hid p0; clear p0
      have P1 := Lib.hid p1; clear p1
      have Hbw := Lib.hid hbw; clear hbw
      have Z1 := Lib.hid z1; clear z1
      have Z2 := Lib.hid z2; clear z2
      have Z3 := Lib.hid z3; clear z3
      have Z4 := Lib.hid z4; clear z4
      have Z5 := Lib.hid z5; clear z5
      have Z6 := Lib.hid z6; clear z6
      clear hdx hdy hin
      go_upto_region 6 with fail
      clear y0 v0 c0 c1 c2 c3 c4 c5 c6 g0 g1 g2 g3 g4 g5 g6
      refine wp_region_quiet_below (by kernel_rfl) (by kernel_rfl) ?_
      iterate 11 (go_big_quiet_step (fail))
      refine wpQuiet_nil ?_
      rintro w' ⟨⟨dq, osq⟩, rfl⟩
      have hbr := below_regrown wo dq osq
      generalize grow (redrawn wo dq) osq = w5 at hbr ⊢
      have n0 := hb.out.trans (hbr.mono hb.out.size)
      have n1 := T0.out.trans (n0.mono T0.out.size)
      clear y0' v0' c0' c1' c2' c3' c4' c5' c6' g0' g1' g2' g3' g4' g5' g6' he
      have N0 := Lib.hid n0; clear n0
      have N1 := Lib.hid n1; clear n1
      clear hbr hb
      cases x
      case false =>
        have hr : decide (t = u) = false := by rw [Hq.out, Hst.out]; simp
        go_wp2
        go_ret
        exact ⟨bool_post hr, N1.out⟩
      case true =>
        go_wp2
        go_roundw
        case rel => exact ⟨k + 1, hlm, by go_num, (by unfold Hid; rw [Hst.out]; simp), N0⟩
        case measure => simp [intOf]; omega
    case neg =>
      have hll2 : decide (t.lines = u.lines) = true := by rw [hin.out, drop_end hlt, drop_end (by rw [← H1.out]; exact hlt)]; rfl
      have Hll2 := Lib.hid hll2; clear hll2
      have Hbw := Lib.hid hbw; clear hbw
      have P0 := Lib.hid p0; clear p0
      have P1 := Lib.hid p1; clear p1
      go_wp2
      clear y0 v0
      go_loopw [6] (fun i wr => ∃ k : Nat, k ≤ t.marks.length ∧ i = .int .i64 k ∧ Hid (decide (t.marks = u.marks) = decide (t.marks.drop k = u.marks.drop k)) ∧ Hid (RowKit.Below W.heap.size W wr)) (fun i _ => t.marks.length - (intOf i).toNat)
      case atStart => exact ⟨0, Nat.zero_le _, rfl, rfl, hb.out⟩
      case round =>
        clear hb hin
        obtain ⟨k, hk, rfl, hin, hb⟩ := hrel
        obtain ⟨wo, rfl⟩ : ∃ wo : World, wo = wr := ⟨_, rfl⟩
        have hbw := T0.out.trans (hb.out.mono T0.out.size)
        have p0 := B0.out.same (hb.out.block _ B0.out.lt)
        have p1 := B1.out.same (hb.out.block _ B1.out.lt)
        have y0 := p0.cell 1
        have v0 := p1.cell 1
        by_cases hlt : k < t.marks.length
        case pos =>
          have hlt' : k < u.marks.length := by rw [← H2.out]; exact hlt
          obtain ⟨b, o, l, hdx, rfl, hob, c0, c1, c2, c3, c4, z1, z2, z3⟩ := (Hm.out.later hbw).getMk hlt
          obtain ⟨b', o', m, hdy, rfl, hob', g0, g1, g2, g3, g4, z4, z5, z6⟩ := (Hm'.out.later hbw).getMk hlt'
          have he := fun W' => eqIn_mk 9996 l m W'
          have hst := hin.out
          rw [hdx.out, hdy.out, dec_cons] at hst
          obtain ⟨x, hx⟩ : ∃ x, decide (l = m) = x := ⟨_, rfl⟩
          rw [hx] at he hst
          have y0' := cell_regrown y0
          have v0' := cell_regrown v0
          have c0' := cell_regrown c0
          have c1' := cell_regrown c1
          have c2' := cell_regrown c2
          have c3' := cell_regrown c3
          have c4' := cell_regrown c4
          have g0' := cell_regrown g0
          have g1' := cell_regrown g1
          have g2' := cell_regrown g2
          have g3' := cell_regrown g3
          have g4' := cell_regrown g4
          have hlm : k + 1 ≤ t.marks.length := hlt
          have Hst := Lib.hid hst; clear hst
          have Hx := Lib.hid hx; clear hx
          have P0 := Lib.hid p0; clear p0
          have P1 := Lib.hid p1; clear p1
          have Hbw := Lib.hid hbw; clear hbw
          have Z1 := Lib.hid z1; clear z1
          have Z2 := Lib.hid z2; clear z2
          have Z3 := Lib.hid z3; clear z3
          have Z4 := Lib.hid z4; clear z4
          have Z5 := Lib.hid z5; clear z5
          have Z6 := Lib.hid z6; clear z6
          clear hdx hdy hin
          go_upto_region 11 with fail
          clear y0 v0 c0 c1 c2 c3 c4 g0 g1 g2 g3 g4
          refine wp_region_quiet_below (by kernel_rfl) (by kernel_rfl) ?_
          iterate 11 (go_big_quiet_step (fail))
          refine wpQuiet_nil ?_
          rintro w' ⟨⟨dq, osq⟩, rfl⟩
          have hbr := below_regrown wo dq osq
          generalize grow (redrawn wo dq) osq = w5 at hbr ⊢
          have n0 := hb.out.trans (hbr.mono hb.out.size)
          have n1 := T0.out.trans (n0.mono T0.out.size)
          clear y0' v0' c0' c1' c2' c3' c4' g0' g1' g2' g3' g4' he
          have N0 := Lib.hid n0; clear n0
          have N1 := Lib.hid n1; clear n1
          clear hbr hb
          cases x
          case false =>
            have hr : decide (t = u) = false := by rw [Hq.out, Hst.out]; simp
            go_wp2
            go_ret
            exact ⟨bool_post hr, N1.out⟩
          case true =>
            go_wp2
            go_roundw
            case rel => exact ⟨k + 1, hlm, by go_num, (by unfold Hid; rw [Hst.out]; simp), N0⟩
            case measure => simp [intOf]; omega
        case neg =>
          have hmm2 : decide (t.marks = u.marks) = true := by rw [hin.out, drop_end hlt, drop_end (by rw [← H2.out]; exact hlt)]; rfl
          have hr : decide (t = u) = true := by rw [Hq.out, Hll2.out, hmm2]; rfl
          have Hr := Lib.hid hr; clear hr
          have Hbw := Lib.hid hbw; clear hbw
          have P0 := Lib.hid p0; clear p0
          have P1 := Lib.hid p1; clear p1
          have Hmm2 := Lib.hid hmm2; clear hmm2
          go_wp2
          go_ret
          exact ⟨bool_post Hr.out, Hbw.out⟩
end Go.Proofs.YtldccpmnboebmaaDoor
