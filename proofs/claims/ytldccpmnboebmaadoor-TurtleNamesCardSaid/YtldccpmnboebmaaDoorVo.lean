/-
  Layer 17: when lines and marks are in order; the walks of the program's two tests and of the library's searches.
-/
import Derived.Test.YtldccpmnboebmaaDoorM2
namespace Go.Proofs.YtldccpmnboebmaaDoor
open Go.RowKit Go.Sort
set_option linter.unusedVariables false

def sameN (l : Ln) : Nat := (if l.to.1 = l.fr.1 then 1 else 0) + (if l.to.2.1 = l.fr.2.1 then 1 else 0) + (if l.to.2.2 = l.fr.2.2 then 1 else 0)
def lnOk (l : Ln) : Bool := inV (-1000000) l.fr && inV (-1000000) l.to && decide (2 ≤ sameN l)
def mkOk (m : Mk) : Bool := checkFr (m.turn, m.pl) == 0
theorem wrap_zero {x y : Int} (hx : Fits .i64 x) (hy : Fits .i64 y) : (IntKind.i64.wrap (x - y) == 0) = decide (x = y) := by
  have h1 := hx.i64
  have h2 := hy.i64
  rw [Bool.eq_iff_iff]
  simp only [beq_iff_eq, decide_eq_true_eq]
  rw [IntKind.wrap_i64]
  omega
section
variable {P : Program}
theorem wpList_value {ops : Array Oper} {rest : List Oper} {o : Oper} {a : Act} {Q : Exit → Act → World → Prop} {w : World} {v : Value} (hgd : o.guard = none) (hr : (execOp a.eval o).run P w = .ok (.value v) w) (h : wpList P ops Q rest (a.put o.dst v) w) : wpList P ops Q (o :: rest) a w := by
  unfold wpList
  rw [if_pos (by simp [Region.wanted, hgd])]
  refine .inl ?_
  unfold Oper.wp
  rw [hr]
  exact h
end
def zD (d : Int) : Nat := if (d == 0) = true then 1 else 0
def cntD (d1 d2 d3 : Int) : Nat → Nat
  | 0 => 0
  | 1 => zD d1
  | 2 => zD d1 + zD d2
  | _ => zD d1 + zD d2 + zD d3
theorem zD_le (d : Int) : zD d ≤ 1 := by unfold zD; split <;> omega
theorem zD_yes {d : Int} (h : (d == 0) = true) : zD d = 1 := by unfold zD; rw [if_pos h]
theorem zD_no {d : Int} (h : (d == 0) = false) : zD d = 0 := by unfold zD; rw [if_neg (by rw [h]; decide)]
set_option maxRecDepth 100000 in
set_option maxHeartbeats 4000000 in
theorem badLine_calls (l : Ln) (w : World) (h1 : FitV l.fr) (h2 : FitV l.to) : Calls Tryd.prog 45 #[.agg #[.int .i64 l.fr.1, .int .i64 l.fr.2.1, .int .i64 l.fr.2.2, .int .i64 l.to.1, .int .i64 l.to.2.1, .int .i64 l.to.2.2, .int .i64 l.dep]] w (BoolPost (!lnOk l) w) := by
  obtain ⟨a1, a2, a3⟩ := h1
  obtain ⟨b1, b2, b3⟩ := h2
  have z1 := wrap_zero b1 a1
  have z2 := wrap_zero b2 a2
  have z3 := wrap_zero b3 a3
  obtain ⟨d1, hd1⟩ : ∃ d, IntKind.i64.wrap (l.to.1 - l.fr.1) = d := ⟨_, rfl⟩
  obtain ⟨d2, hd2⟩ : ∃ d, IntKind.i64.wrap (l.to.2.1 - l.fr.2.1) = d := ⟨_, rfl⟩
  obtain ⟨d3, hd3⟩ : ∃ d, IntKind.i64.wrap (l.to.2.2 - l.fr.2.2) = d := ⟨_, rfl⟩
  rw [hd1] at z1
  rw [hd2] at z2
  rw [hd3] at z3
  have hf := fun W => tfine_calls l.fr W
  have ht := fun W => tfine_calls l.to W
  have hs : sameN l = cntD d1 d2 d3 3 := by
    unfold sameN cntD zD
    rw [z1, z2, z3]
    simp only [decide_eq_true_eq]
  have Hf := Lib.hid hf; clear hf
  have Ht := Lib.hid ht; clear ht
  have Hs := Lib.hid hs; clear hs
  have A1 := Lib.hid a1; clear a1
  have A2 := Lib.hid a2; clear a2
  have A3 := Lib.hid a3; clear a3
  have B1 := Lib.hid b1; clear b1
  have B2 := Lib.hid b2; clear b2
  have B3 := Lib.hid b3; clear b3
  clear z1 z2 z3
  have h0 := Blk.new w 46 #[.int .i64 l.fr.1, .int .i64 l.fr.2.1, .int .i64 l.fr.2.2, .int .i64 l.to.1, .int .i64 l.to.2.1, .int .i64 l.to.2.2, .int .i64 l.dep]
  obtain ⟨w0, hw0⟩ : ∃ W, W = w.alloc (.cells #[.int .i64 l.fr.1, .int .i64 l.fr.2.1, .int .i64 l.fr.2.2, .int .i64 l.to.1, .int .i64 l.to.2.1, .int .i64 l.to.2.2, .int .i64 l.dep] 46) := ⟨_, rfl⟩
  have t0 : RowKit.Below w.heap.size w w0 := by rw [hw0]; exact al1
  have g0 : w.heap.size < w0.heap.size := by rw [hw0]; simp
  rw [← hw0] at h0
  have H0 := Lib.hid h0; clear h0
  have T0 := Lib.hid t0; clear t0
  go_enter Tryd.func45, Tryd.ntmps45
  go_wp2_with fail
  rw [← hw0]
  have Hw0 := Lib.hid hw0; clear hw0
  go_loopw [28, 3] (fun i c wr => ∃ (k : Nat), i = .int .i64 k ∧ k ≤ 3 ∧ c = .int .i64 (cntD d1 d2 d3 k : Int) ∧ cntD d1 d2 d3 k ≤ k ∧ Hid (wr = w0)) (fun i _ _ => 3 - (intOf i).toNat)
  case atStart => exact ⟨0, rfl, by omega, rfl, Nat.zero_le _, rfl⟩
  case round =>
    obtain ⟨k, rfl, hk, rfl, hc, hwr⟩ := hrel
    obtain rfl := hwr.out
    by_cases hlt : k < 3
    case pos =>
      have e1 := zD_le d1
      have e2 := zD_le d2
      have e3 := zD_le d3
      rcases (show k = 0 ∨ k = 1 ∨ k = 2 from by omega) with rfl | rfl | rfl
      · cases hz : (d1 == 0)
        · have hn : cntD d1 d2 d3 1 = cntD d1 d2 d3 0 := by simp only [cntD, zD_no hz]
          obtain ⟨c, hcc⟩ : ∃ c, cntD d1 d2 d3 0 = c := ⟨_, rfl⟩
          rw [hcc] at hn hc ⊢
          have Hn := Lib.hid hn; clear hn
          have Hcc := Lib.hid hcc; clear hcc
          go_wp2_with ((with_reducible show wpList _ _ _ (Oper.mk (some 30) _ _ _ _ _ :: _) _ _); refine wpList_value (v := .int .i64 d1) rfl (by kernel_rfl) ?_)
          go_roundw
          case rel => exact ⟨1, by go_num, by omega, by rw [Hn.out], by rw [Hn.out]; omega, by first | exact rfl | exact trivial⟩
          case measure => simp [intOf]
        · have hn : cntD d1 d2 d3 1 = cntD d1 d2 d3 0 + 1 := by simp only [cntD, zD_yes hz, Nat.zero_add]
          obtain ⟨c, hcc⟩ : ∃ c, cntD d1 d2 d3 0 = c := ⟨_, rfl⟩
          rw [hcc] at hn hc ⊢
          have Hn := Lib.hid hn; clear hn
          have Hcc := Lib.hid hcc; clear hcc
          go_wp2_with ((with_reducible show wpList _ _ _ (Oper.mk (some 30) _ _ _ _ _ :: _) _ _); refine wpList_value (v := .int .i64 d1) rfl (by kernel_rfl) ?_)
          go_roundw
          case rel => exact ⟨1, by go_num, by omega, by rw [Hn.out]; go_num, by rw [Hn.out]; omega, by first | exact rfl | exact trivial⟩
          case measure => simp [intOf]
      · cases hz : (d2 == 0)
        · have hn : cntD d1 d2 d3 2 = cntD d1 d2 d3 1 := by simp only [cntD, zD_no hz, Nat.add_zero]
          obtain ⟨c, hcc⟩ : ∃ c, cntD d1 d2 d3 1 = c := ⟨_, rfl⟩
          rw [hcc] at hn hc ⊢
          have Hn := Lib.hid hn; clear hn
          have Hcc := Lib.hid hcc; clear hcc
          go_wp2_with ((with_reducible show wpList _ _ _ (Oper.mk (some 30) _ _ _ _ _ :: _) _ _); refine wpList_value (v := .int .i64 d2) rfl (by kernel_rfl) ?_)
          go_roundw
          case rel => exact ⟨2, by go_num, by omega, by rw [Hn.out], by rw [Hn.out]; omega, by first | exact rfl | exact trivial⟩
          case measure => simp [intOf]
        · have hn : cntD d1 d2 d3 2 = cntD d1 d2 d3 1 + 1 := by simp only [cntD, zD_yes hz]
          obtain ⟨c, hcc⟩ : ∃ c, cntD d1 d2 d3 1 = c := ⟨_, rfl⟩
          rw [hcc] at hn hc ⊢
          have Hn := Lib.hid hn; clear hn
          have Hcc := Lib.hid hcc; clear hcc
          go_wp2_with ((with_reducible show wpList _ _ _ (Oper.mk (some 30) _ _ _ _ _ :: _) _ _); refine wpList_value (v := .int .i64 d2) rfl (by kernel_rfl) ?_)
          go_roundw
          case rel => exact ⟨2, by go_num, by omega, by rw [Hn.out]; go_num, by rw [Hn.out]; omega, by first | exact rfl | exact trivial⟩
          case measure => simp [intOf]
      · cases hz : (d3 == 0)
        · have hn : cntD d1 d2 d3 3 = cntD d1 d2 d3 2 := by simp only [cntD, zD_no hz, Nat.add_zero]
          obtain ⟨c, hcc⟩ : ∃ c, cntD d1 d2 d3 2 = c := ⟨_, rfl⟩
          rw [hcc] at hn hc ⊢
          have Hn := Lib.hid hn; clear hn
          have Hcc := Lib.hid hcc; clear hcc
          go_wp2_with ((with_reducible show wpList _ _ _ (Oper.mk (some 30) _ _ _ _ _ :: _) _ _); refine wpList_value (v := .int .i64 d3) rfl (by kernel_rfl) ?_)
          go_roundw
          case rel => exact ⟨3, by go_num, by omega, by rw [Hn.out], by rw [Hn.out]; omega, by first | exact rfl | exact trivial⟩
          case measure => simp [intOf]
        · have hn : cntD d1 d2 d3 3 = cntD d1 d2 d3 2 + 1 := by simp only [cntD, zD_yes hz]
          obtain ⟨c, hcc⟩ : ∃ c, cntD d1 d2 d3 2 = c := ⟨_, rfl⟩
          rw [hcc] at hn hc ⊢
          have Hn := Lib.hid hn; clear hn
          have Hcc := Lib.hid hcc; clear hcc
          go_wp2_with ((with_reducible show wpList _ _ _ (Oper.mk (some 30) _ _ _ _ _ :: _) _ _); refine wpList_value (v := .int .i64 d3) rfl (by kernel_rfl) ?_)
          go_roundw
          case rel => exact ⟨3, by go_num, by omega, by rw [Hn.out]; go_num, by rw [Hn.out]; omega, by first | exact rfl | exact trivial⟩
          case measure => simp [intOf]
    case neg =>
      obtain rfl : k = 3 := by omega
      have hs2 := Hs.out
      rw [← hs2] at hc ⊢
      obtain ⟨n, hn⟩ : ∃ n, sameN l = n := ⟨_, rfl⟩
      rw [hn] at hc ⊢
      have y0 := H0.out.cell 0
      have y1 := H0.out.cell 1
      have y2 := H0.out.cell 2
      have hok : lnOk l = (inV (-1000000) l.fr && inV (-1000000) l.to && decide (2 ≤ n)) := by unfold lnOk; rw [hn]
      cases hfr : inV (-1000000) l.fr
      · rw [hfr] at Hf hok
        have Hok := Lib.hid hok; clear hok
        have Hn := Lib.hid hn; clear hn
        clear hs2
        go_wp2_with fail
        refine (Hf.out _).mono ?_
        rintro e w1 ⟨rfl, b1⟩
        have B1 := Lib.hid b1; clear b1
        go_wp2
        go_ret
        exact ⟨by rw [Hok.out]; rfl, T0.out.trans (B1.out.mono T0.out.size)⟩
      · rw [hfr] at Hf hok
        cases hto : inV (-1000000) l.to
        all_goals
          rw [hto] at Ht hok
          by_cases hn2 : n < 2
          all_goals
            have hn2' : ((n : Int) < 2) ∨ ¬ ((n : Int) < 2) := by omega
            have hn3 : decide ((n : Int) < 2) = decide (n < 2) := decide_eq_decide.2 (by omega)
            have hn4 : decide (2 ≤ n) = !decide (n < 2) := by rw [Bool.eq_iff_iff]; simp
            rw [hn4] at hok
            have hfo := Hf.out
            have hto' := Ht.out
            have hnn : (((n : Int)) < 2) = (n < 2) := propext (by omega)
            have Hok := Lib.hid hok; clear hok
            have Hn := Lib.hid hn; clear hn
            have Hfo := Lib.hid hfo; clear hfo
            have Hto' := Lib.hid hto'; clear hto'
            clear hs2 hn4
            go_wp2_with fail
            refine (Hfo.out _).mono ?_
            rintro e w1 ⟨rfl, b1⟩
            have k0 := H0.out.same (b1.block _ g0)
            have t1 := T0.out.trans (b1.mono T0.out.size)
            have y3 := k0.cell 3
            have y4 := k0.cell 4
            have y5 := k0.cell 5
            have T1 := Lib.hid t1; clear t1
            have K0 := Lib.hid k0; clear k0
            clear b1 y0 y1 y2
            go_wp2_with fail
            refine (Hto'.out _).mono ?_
            rintro e w2 ⟨rfl, b2⟩
            have t2 := T1.out.trans (b2.mono T1.out.size)
            have T2 := Lib.hid t2; clear t2
            clear b2
            go_wp2
            go_ret
            exact ⟨by rw [Hok.out]; simp [hn2], T2.out⟩
end Go.Proofs.YtldccpmnboebmaaDoor
