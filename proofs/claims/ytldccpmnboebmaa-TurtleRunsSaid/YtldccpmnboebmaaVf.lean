/-
  Layer 16: the walk of the reference's Images.
-/
import Derived.Test.YtldccpmnboebmaaVe
import Derived.Test.YtldccpmnboebmaaOp
namespace Go.Proofs.Ytldccpmnboebmaa
open Go.RowKit Go.Sort
set_option linter.unusedVariables false

def restX (x k : Nat) : List Int := ((List.range k).filter fun (d : Nat) => d / 2 != x / 2).map fun (d : Nat) => (d : Int)
theorem restX_succ (x k : Nat) : restX x (k + 1) = restX x k ++ (if k / 2 = x / 2 then [] else [(k : Int)]) := by
  unfold restX
  rw [List.range_succ, List.filter_append, List.map_append]
  congr 1
  by_cases h : k / 2 = x / 2
  · simp [h]
  · simp [h]
theorem restX_len : ∀ (x : Fin 6) (k : Fin 7), (restX x.val k.val).length ≤ k.val := by decide +kernel
theorem restX_all : ∀ (x : Fin 6), (restX x.val 6).length = 4 := by decide +kernel
theorem restX_at : ∀ (t : Fin 24), (restX (t.val / 4) 6)[t.val % 4]? = some ((secN t.val : Nat) : Int) := by decide +kernel
theorem secN_lt : ∀ (t : Fin 24), secN t.val < 6 := by decide +kernel
set_option maxRecDepth 100000 in
set_option maxHeartbeats 4000000 in
theorem refImages_calls (t : Nat) (ht : t < 24) (w : World) : Calls Try.prog 49 #[.int .i64 (t : Int)] w (MatPost (axT t) w) := by
  have e1 : (t : Int) / 4 = ((t / 4 : Nat) : Int) := by omega
  have e2 : (t : Int) % 4 = ((t % 4 : Nat) : Int) := by omega
  have hat := restX_at ⟨t, ht⟩
  have hs6 := secN_lt ⟨t, ht⟩
  simp only at hat hs6
  have hax : axT t = (dirV (t / 4), dirV (secN t), crossV (dirV (t / 4)) (dirV (secN t))) := rfl
  obtain ⟨q, hq⟩ : ∃ q, t / 4 = q := ⟨_, rfl⟩
  obtain ⟨r, hr⟩ : ∃ r, t % 4 = r := ⟨_, rfl⟩
  obtain ⟨y, hy⟩ : ∃ y, secN t = y := ⟨_, rfl⟩
  rw [hq] at e1 hat hax
  rw [hr] at e2 hat
  rw [hy] at hat hs6 hax
  have hq6 : q < 6 := by omega
  have hr4 : r < 4 := by omega
  obtain ⟨p, hpq⟩ : ∃ p, q / 2 = p := ⟨_, rfl⟩
  have e3 : (q : Int) / 2 = (p : Int) := by omega
  have hp3 : p < 3 := by omega
  have u1 := dirV_unit ⟨q, hq6⟩
  have u2 := dirV_unit ⟨y, hs6⟩
  have c1 := refDirection_calls ⟨q, hq6⟩
  have c2 := refDirection_calls ⟨y, hs6⟩
  have hlen := restX_all ⟨q, hq6⟩
  have hlk : ∀ k, k < 7 → (restX q k).length ≤ k := fun k hk => restX_len ⟨q, hq6⟩ ⟨k, hk⟩
  simp only at u1 u2 c1 c2 hlen hlk
  rw [hax]
  obtain ⟨v1, hv1⟩ : ∃ v, dirV q = v := ⟨_, rfl⟩
  obtain ⟨v2, hv2⟩ : ∃ v, dirV y = v := ⟨_, rfl⟩
  rw [hv1] at u1 c1 ⊢
  rw [hv2] at u2 c2 ⊢
  have h0 := Blk.new w 89 #[.int .i64 0, .int .i64 0, .int .i64 0, .int .i64 0, .int .i64 0, .int .i64 0, .int .i64 0, .int .i64 0, .int .i64 0]
  obtain ⟨w0, hw0⟩ : ∃ W, W = w.alloc (.cells #[.int .i64 0, .int .i64 0, .int .i64 0, .int .i64 0, .int .i64 0, .int .i64 0, .int .i64 0, .int .i64 0, .int .i64 0] 89) := ⟨_, rfl⟩
  have t0 : RowKit.Below w.heap.size w w0 := by rw [hw0]; exact al1
  have g0 : w.heap.size < w0.heap.size := by rw [hw0]; simp
  rw [← hw0] at h0

  have U1 := Lib.hid u1; clear u1
  have U2 := Lib.hid u2; clear u2
  have C1 := Lib.hid c1; clear c1
  have C2 := Lib.hid c2; clear c2
  have Hv1 := Lib.hid hv1; clear hv1
  have Hv2 := Lib.hid hv2; clear hv2
  have Hax := Lib.hid hax; clear hax
  have Hq := Lib.hid hq; clear hq
  have Hr := Lib.hid hr; clear hr
  have Hy := Lib.hid hy; clear hy
  have Hat := Lib.hid hat; clear hat
  have Hlen := Lib.hid hlen; clear hlen
  have Hlk := Lib.hid hlk; clear hlk
  have H0 := Lib.hid h0; clear h0
  have T0 := Lib.hid t0; clear t0
  have Hpq := Lib.hid hpq; clear hpq
  go_enter Try.func49, Try.ntmps49
  go_wp2_with fail
  rw [← hw0]
  have Hw0 := Lib.hid hw0; clear hw0
  go_loopw [5, 4] (fun i v wr => ∃ (k n : Nat) (A : Option Addr) (c : Nat), i = .int .i64 k ∧ v = .slice A n c ∧ k ≤ 6 ∧ Hid ((restX q k).length = n) ∧ Hid (RowKit.Below w0.heap.size w0 wr) ∧ w0.heap.size ≤ wr.heap.size ∧ Hid (Own (pI .i64) 3 w0.heap.size (w0.heap.size ≤ ·) wr (.slice A n c) (restX q k))) (fun i _ _ => 6 - (intOf i).toNat)
  case atStart => exact ⟨0, 0, none, 0, rfl, rfl, by omega, rfl, RowKit.Below.refl _ _, Nat.le_refl _, Own.nil⟩
  case round =>
    obtain ⟨k, n, A, c, rfl, rfl, hk, hn, hb, hz, hown⟩ := hrel
    obtain ⟨wo, rfl⟩ : ∃ wo : World, wo = wr := ⟨_, rfl⟩
    by_cases hlt : k < 6
    case pos =>
      have hlt' : (k : Int) < 6 := by omega
      obtain ⟨m, hm⟩ : ∃ m, k / 2 = m := ⟨_, rfl⟩
      have hk2 : (k : Int) / 2 = (m : Int) := by omega
      have hsu := restX_succ q k
      have hnk := Hlk.out k (by omega)
      rw [hn.out] at hnk
      rw [hm, Hpq.out] at hsu
      have hm3 : m < 3 := by omega
      by_cases heq : m = p
      · have hne : ((m : Int) != (p : Int)) = false := by rw [heq]; simp
        rw [if_pos heq, List.append_nil] at hsu
        have Hsu := Lib.hid hsu; clear hsu
        have Hm := Lib.hid hm; clear hm
        clear heq
        go_wp2
        go_roundw
        case rel => exact ⟨k + 1, n, A, c, by go_num, rfl, by omega, by unfold Hid; rw [Hsu.out]; exact hn.out, hb, hz, by unfold Hid; rw [Hsu.out]; exact hown.out⟩
        case measure => simp [intOf]; omega
      · have hne : ((m : Int) != (p : Int)) = true := by
          have : ¬ (m : Int) = (p : Int) := by omega
          simpa using this
        rw [if_neg heq] at hsu
        have hln : (restX q k).length + 1 = n + 1 := by rw [hn.out]
        have hrm : Room (restX q k).length := room_of (by rw [hn.out]; omega)
        have hR : (pI .i64).R (fun _ => False) wo (Value.int .i64 (k : Int)).cells.toList (k : Int) := ⟨rfl, fits_i64 (by omega)⟩
        have Hsu := Lib.hid hsu; clear hsu
        have Hln := Lib.hid hln; clear hln
        have Hrm := Lib.hid hrm; clear hrm
        have HR := Lib.hid hR; clear hR
        have Hown := Lib.hid hown; clear hown
        have Hm := Lib.hid hm; clear hm
        clear heq
        go_wp2_with ((with_reducible show wpList _ _ _ (Oper.mk (some 20) _ _ _ _ _ :: _) _ _); refine wpList_pushG (E := pI .i64) (xs := restX q k) (v := .slice A n c) (base := w0.heap.size) (G := (w0.heap.size ≤ ·)) 75 3 (.int .i64 0) 8 20 (.tmp 18) (.tmp 19) rfl rfl rfl rfl rfl Try.underlying75 (by kernel_rfl) rfl (by decide) (fun _ => rfl) (fun _ => rfl) Hown.out.out (.int .i64 (k : Int)) rfl (k : Int) (fun _ => False) HR.out (fun _ h => h.elim) (n + 1) Hln.out Hrm.out ⟨by decide, by decide⟩ hz ?_; intro A6 c6 w6 hown6 hg6)
        go_roundw
        case rel =>
          have hz6 := hg6.out.bel.size
          exact ⟨k + 1, n + 1, A6, c6, by go_num, rfl, by omega, by unfold Hid; rw [Hsu.out, List.length_append, hn.out]; rfl, hb.out.trans hg6.out.bel, by omega, by unfold Hid; rw [Hsu.out]; exact hown6.out⟩
        case measure => simp [intOf]; omega
    case neg =>
      obtain rfl : k = 6 := by omega
      have hn4 : n = 4 := by rw [← hn.out]; exact Hlen.out
      subst hn4
      have hsl := (hown.out.sl'.2).wide (F' := Old wo) fun q hq => hq.2
      obtain ⟨b, o, x, hd, hA, hob, q0, hx8⟩ := hsl.getI (i := r) (by rw [Hlen.out]; exact hr4)
      subst hA
      obtain rfl : x = (y : Int) := by
        have h1 := get_of_drop hd.out
        rw [Hat.out] at h1
        exact (Option.some.inj h1).symm
      have hr0 : (0 : Int) ≤ (r : Int) := Int.natCast_nonneg _
      have hr1 : (r : Int) < 4 := by omega
      have t1 := T0.out.trans (hb.out.mono T0.out.size)
      have k1 := H0.out.same (hb.out.block _ g0)
      have g1 : w.heap.size < wo.heap.size := by omega
      have T1 := Lib.hid t1; clear t1
      have K1 := Lib.hid k1; clear k1
      have Hd := Lib.hid hd; clear hd
      have Hsl := Lib.hid hsl; clear hsl
      clear hown hx8
      go_wp2_with fail
      refine (C1.out _).mono ?_
      rintro e w1 ⟨rfl, b1⟩
      have t2 := T1.out.trans (b1.mono T1.out.size)
      have k2 := K1.out.same (b1.block _ g1)
      have g2 : w.heap.size < w1.heap.size := by have := b1.size; omega
      have q1 := (cell_keep (b1.block b hob)).trans q0
      have T2 := Lib.hid t2; clear t2
      have K2 := Lib.hid k2; clear k2
      clear b1 q0
      go_wp2_with fail
      refine (C2.out _).mono ?_
      rintro e w2 ⟨rfl, b2⟩
      have t3 := T2.out.trans (b2.mono T2.out.size)
      have k3 := K2.out.same (b2.block _ g2)
      have g3 : w.heap.size < w2.heap.size := by have := b2.size; omega
      have T3 := Lib.hid t3; clear t3
      have K3 := Lib.hid k3; clear k3
      clear b2
      go_wp2_with fail
      refine (C1.out _).mono ?_
      rintro e w3 ⟨rfl, b3⟩
      have t4 := T3.out.trans (b3.mono T3.out.size)
      have k4 := K3.out.same (b3.block _ g3)
      have g4 : w.heap.size < w3.heap.size := by have := b3.size; omega
      have T4 := Lib.hid t4; clear t4
      have K4 := Lib.hid k4; clear k4
      clear b3
      go_wp2_with fail
      refine (C2.out _).mono ?_
      rintro e w4 ⟨rfl, b4⟩
      have t5 := T4.out.trans (b4.mono T4.out.size)
      have k5 := K4.out.same (b4.block _ g4)
      have g5 : w.heap.size < w4.heap.size := by have := b4.size; omega
      have cc := refCross_calls v1 v2 w4 U1.out U2.out
      obtain ⟨cv, hcv⟩ : ∃ cv, crossV v1 v2 = cv := ⟨_, rfl⟩
      rw [hcv] at cc
      have T5 := Lib.hid t5; clear t5
      have K5 := Lib.hid k5; clear k5
      have Cc := Lib.hid cc; clear cc
      have Hcv := Lib.hid hcv; clear hcv
      clear b4
      go_wp2_with fail
      refine Cc.out.mono ?_
      rintro e w5 ⟨rfl, b5⟩
      have k6 := K5.out.same (b5.block _ g5)
      have t6 := T5.out.trans (b5.mono T5.out.size)
      have hfin := blk_row (cs := #[.int .i64 v1.1, .int .i64 v1.2.1, .int .i64 v1.2.2, .int .i64 v2.1, .int .i64 v2.2.1, .int .i64 v2.2.2, .int .i64 cv.1, .int .i64 cv.2.1, .int .i64 cv.2.2]) k6
      have hbel := row_below (g := w.heap.size) t6 (Nat.le_refl _) #[.int .i64 v1.1, .int .i64 v1.2.1, .int .i64 v1.2.2, .int .i64 v2.1, .int .i64 v2.2.1, .int .i64 v2.2.2, .int .i64 cv.1, .int .i64 cv.2.1, .int .i64 cv.2.2]
      have Hfin := Lib.hid hfin; clear hfin
      have Hbel := Lib.hid hbel; clear hbel
      go_wp2_with ((with_reducible show wpList _ _ _ (Oper.mk none _ _ _ _ _ :: _) _ _); refine wpList_storeG 89 (.tmp 2) (.tmp 36) _ #[.int .i64 v1.1, .int .i64 v1.2.1, .int .i64 v1.2.2, .int .i64 v2.1, .int .i64 v2.2.1, .int .i64 v2.2.2, .int .i64 cv.1, .int .i64 cv.2.1, .int .i64 cv.2.2] rfl rfl rfl rfl k6 (by kernel_rfl) rfl (by simp [Value.oneCell']) rfl ?_)
      refine bodyPost_ret (results_cell_row rfl _ _ w.heap.size 89 _ (0, 0) _ rfl Hfin.out Try.underlying89 rfl (by kernel_rfl)) rfl ?_
      exact ⟨by rw [Hcv.out], Hbel.out⟩
end Go.Proofs.Ytldccpmnboebmaa
