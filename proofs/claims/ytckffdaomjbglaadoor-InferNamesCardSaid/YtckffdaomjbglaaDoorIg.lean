/-
  Layer 42: the walk of replace.
-/
import Derived.Test.YtckffdaomjbglaaDoorM1
import Derived.Test.YtckffdaomjbglaaDoorWh
import Derived.BigQuiet
import Derived.Laws.StructEq
namespace Go.Proofs.YtckffdaomjbglaaDoor
open Go.RowKit Go.Sort Go.BigFrame

theorem eqIn_pair (d : Nat) (a b x y : Int) (w : World) : (Op.equalIn (d + 1 + 1) 57 (.agg #[.int .u8 a, .int .u8 b]) (.agg #[.int .u8 x, .int .u8 y])).run Tryd.prog w = .ok (a == x && b == y) w := by
  rw [Op.equalIn]
  simp only [Sem.run_bind, run_underlying Tryd.underlying57, Result.andThen]
  have hs : ∀ w, (sizeOf 5).run Tryd.prog w = .ok 1 w := fun w => by kernel_rfl
  have hg : ∀ w, (isAgg 5).run Tryd.prog w = .ok false w := fun w => by kernel_rfl
  have hi := fun (u v : Int) => run_equalIn_int (P := Tryd.prog) w d 5 .u8 .u8 u v Tryd.underlying5
  by_cases h1 : a = x
  · by_cases h2 : b = y
    · simp [hs, hg, hi, h1, h2, Result.andThen, Sem.run_bind, go_sem, List.range']
    · simp [hs, hg, hi, h1, h2, Result.andThen, Sem.run_bind, go_sem, List.range']
  · simp [hs, hg, hi, h1, Result.andThen, Sem.run_bind, go_sem, List.range']
theorem eq_pair (a b x y : Int) (w : World) : (Op.equal 57 (.agg #[.int .u8 a, .int .u8 b]) (.agg #[.int .u8 x, .int .u8 y])).run Tryd.prog w = .ok (a == x && b == y) w := eqIn_pair 9998 a b x y w

set_option maxRecDepth 100000 in
set_option maxHeartbeats 2000000 in
theorem replace_calls (A : Option Addr) (c : Nat) (l : List Int) (x y nm : Int) (w : World) (h : SlAt (pI .u8) (Old w) w A c l) (hl : l.length ≤ 100000) (hnm : Fits .u8 nm) :
    Calls Tryd.prog 25 #[.slice A l.length c, .agg #[.int .u8 x, .int .u8 y], .int .u8 nm] w (NamesPost (putF x y nm l) w) := by
  have hmx := h.lenle
  obtain ⟨W0, hW0⟩ : ∃ W0, W0 = w.alloc (.cells #[.int .u8 x, .int .u8 y] 57) := ⟨_, rfl⟩
  have hb0 : Below w.heap.size w W0 := by rw [hW0]; exact (Below.refl _ _).alloc (Nat.le_refl _) _
  have hz0 : w.heap.size + 1 ≤ W0.heap.size := by rw [hW0]; simp
  have hbx0 : Blk W0 w.heap.size 57 #[.int .u8 x, .int .u8 y] := by rw [hW0]; exact Blk.new _ _ _
  have H := Lib.hid h; clear h
  have Hb0 := Lib.hid hb0; clear hb0
  have Hbx0 := Lib.hid hbx0; clear hbx0
  go_enter Tryd.func25, Tryd.ntmps25
  go_wp2
  rw [← hW0]
  have HW0 := Lib.hid hW0; clear hW0
  go_loopw [8, 7] (fun i out wr => ∃ (k n : Nat) (Ao : Option Addr) (co : Nat) (pre : List Int), k ≤ l.length ∧ i = .int .i64 k ∧ out = .slice Ao n co ∧ n ≤ k ∧ Hid (pre.length = n) ∧ Hid (Below W0.heap.size W0 wr) ∧ W0.heap.size ≤ wr.heap.size ∧
    Hid (putF x y nm l = pre ++ putF x y nm (l.drop k)) ∧ Hid (Own (pI .u8) 5 W0.heap.size (W0.heap.size ≤ ·) wr (.slice Ao n co) pre)) (fun i _ _ => l.length - (intOf i).toNat)
  case atStart => exact ⟨0, 0, none, 0, [], Nat.zero_le _, rfl, rfl, Nat.le_refl _, rfl, Below.refl _ _, Nat.le_refl _, by unfold Hid; simp, Own.nil⟩
  case round =>
    obtain ⟨k, n, Ao, co, pre, hk, rfl, rfl, hnk, hpn, hb, hsz, hs, hown⟩ := hrel
    obtain ⟨wo, rfl⟩ : ∃ wo : World, wo = wr := ⟨_, rfl⟩
    have hbwo : Below w.heap.size w wo := Hb0.out.trans (hb.out.mono (by omega))
    have hblk := Hbx0.out.same (hb.out.block _ (by omega))
    by_cases hlt : k < l.length
    case neg =>
      obtain rfl : k = l.length := by omega
      have hfin : putF x y nm l = pre := by
        rw [hs.out, List.drop_eq_nil_iff.2 (Nat.le_refl _)]; simp [putF]
      have hown' := hown.out.mono (base' := w.heap.size) (G' := (w.heap.size ≤ ·)) (by omega) (fun q hq => Nat.le_trans (by omega) hq)
      have Hfin := Lib.hid hfin; clear hfin
      have Hown' := Lib.hid hown'; clear hown'
      have Hbwo := Lib.hid hbwo; clear hbwo
      go_wp2
      go_ret
      exact ⟨Ao, co, by rw [Hfin.out, hpn.out]; rfl, by rw [Hfin.out, hpn.out]; exact Hown'.out, Hbwo.out⟩
    case pos =>
      obtain ⟨b, o, a, hd, hB, hob, q0, hx8⟩ := (H.out.below hbwo).getI (i := k) hlt
      subst hB
      have b0 := hblk.cell 0
      have b1 := hblk.cell 1
      have hk0 : (0 : Int) ≤ (k : Int) := Int.natCast_nonneg _
      have hk1 : (k : Int) < (l.length : Int) := by omega
      have hln : pre.length + 1 = n + 1 := by rw [hpn.out]
      have hrm : Room pre.length := room_of (by rw [hpn.out]; omega)
      have hRa : (pI .u8).R (fun _ => False) wo (Value.int .u8 a).cells.toList a := ⟨rfl, hx8⟩
      have hRn : (pI .u8).R (fun _ => False) wo (Value.int .u8 nm).cells.toList nm := ⟨rfl, hnm⟩
      have Hln := Lib.hid hln; clear hln
      have Hrm := Lib.hid hrm; clear hrm
      have HRa := Lib.hid hRa; clear hRa
      have HRn := Lib.hid hRn; clear hRn
      have Hd := Lib.hid hd; clear hd
      have Hbwo := Lib.hid hbwo; clear hbwo
      have Hblk := Lib.hid hblk; clear hblk
      by_cases hl2 : k + 1 < l.length
      case neg =>
        have hst : putF x y nm (l.drop k) = a :: putF x y nm (l.drop (k + 1)) := putF_last Hd.out.out (by omega)
        have hdec : decide ((k : Int) + 1 < (l.length : Int)) = false := decide_eq_false (by omega)
        have Hst := Lib.hid hst; clear hst
        go_wp2
        go_big_quiet (fail)
        have hbr := below_drewN (B := wo.heap.size) (Below.refl _ wo) nq
        have q5 := (cell_keep (hbr.block b (by have : b < w.heap.size := hob; omega))).trans q0
        generalize wo.drewN nq = w5 at hbr q5 ⊢
        have hz5 := hbr.size
        have hsz5 : W0.heap.size ≤ w5.heap.size := by omega
        have hown5 := hown.out.later hbr
        have hb5 : Below W0.heap.size W0 w5 := hb.out.trans (hbr.mono hsz)
        have Hown5 := Lib.hid hown5; clear hown5
        have Hb5 := Lib.hid hb5; clear hb5
        clear q0 b0 b1 hbr
        go_wp2_with ((with_reducible show wpList _ _ _ (Oper.mk (some 45) _ _ _ _ _ :: _) _ _); refine wpList_pushG (E := pI .u8) (xs := pre) (v := .slice Ao n co) (base := W0.heap.size) (G := (W0.heap.size ≤ ·)) 55 5 (.int .u8 0) 1 45 (.tmp 40) (.tmp 44) rfl rfl rfl rfl rfl Tryd.underlying55 (by kernel_rfl) rfl (by decide) (fun _ => rfl) (fun _ => rfl) Hown5.out (.int .u8 a) rfl a (fun _ => False) HRa.out (fun _ h => h.elim) (n + 1) Hln.out Hrm.out ⟨by decide, by decide⟩ hsz5 ?_; intro A6 c6 w6 hown6 hg6)
        go_roundw
        case rel =>
          have hz6 := hg6.out.bel.size
          refine ⟨k + 1, n + 1, A6, c6, pre ++ [a], hlt, by go_num, rfl, by omega, ?_, Hb5.out.trans hg6.out.bel, by omega, ?_, ?_⟩
          · unfold Hid; rw [List.length_append, hpn.out]; rfl
          · unfold Hid; rw [hs.out, Hst.out, List.append_assoc]; rfl
          · exact hown6
        case measure => simp [intOf]; omega
      case pos =>
        obtain ⟨b', o', a', hd', hB', hob', q0', hx8'⟩ := (H.out.below Hbwo.out).getI (i := k + 1) hl2
        cases hB'
        have hst : putF x y nm (l.drop k) = if a = x ∧ a' = y then nm :: putF x y nm (l.drop (k + 2)) else a :: putF x y nm (l.drop (k + 1)) := by
          rw [Hd.out.out, hd'.out, putF_two]
        have hk2 : (k : Int) + 1 < (l.length : Int) := by omega
        have hdec : decide ((k : Int) + 1 < (l.length : Int)) = true := decide_eq_true hk2
        have heq : ∀ w, (Op.equalIn 10000 57 (.agg #[.int .u8 a, .int .u8 a']) (.agg #[.int .u8 x, .int .u8 y])).run Tryd.prog w = .ok (a == x && a' == y) w := eqIn_pair 9998 a a' x y
        by_cases hm : a = x ∧ a' = y
        · have e1 : (a == x && a' == y) = true := by simp [hm.1, hm.2]
          rw [e1] at heq
          rw [if_pos hm] at hst
          have Hst := Lib.hid hst; clear hst
          clear hm e1
          go_wp2
          go_big_quiet (fail)
          have hbr := below_drewN (B := wo.heap.size) (Below.refl _ wo) nq
          have q5 := (cell_keep (hbr.block b (by have : b < w.heap.size := hob; omega))).trans q0
          generalize wo.drewN nq = w5 at hbr q5 ⊢
          have hz5 := hbr.size
          have hsz5 : W0.heap.size ≤ w5.heap.size := by omega
          have hown5 := hown.out.later hbr
          have hb5 : Below W0.heap.size W0 w5 := hb.out.trans (hbr.mono hsz)
          have Hown5 := Lib.hid hown5; clear hown5
          have Hb5 := Lib.hid hb5; clear hb5
          clear q0 q0' b0 b1 hbr heq
          go_wp2_with ((with_reducible show wpList _ _ _ (Oper.mk (some 36) _ _ _ _ _ :: _) _ _); refine wpList_pushG (E := pI .u8) (xs := pre) (v := .slice Ao n co) (base := W0.heap.size) (G := (W0.heap.size ≤ ·)) 55 5 (.int .u8 0) 1 36 (.tmp 34) (.tmp 35) rfl rfl rfl rfl rfl Tryd.underlying55 (by kernel_rfl) rfl (by decide) (fun _ => rfl) (fun _ => rfl) Hown5.out (.int .u8 nm) rfl nm (fun _ => False) HRn.out (fun _ h => h.elim) (n + 1) Hln.out Hrm.out ⟨by decide, by decide⟩ hsz5 ?_; intro A6 c6 w6 hown6 hg6)
          go_roundw
          case rel =>
            have hz6 := hg6.out.bel.size
            refine ⟨k + 2, n + 1, A6, c6, pre ++ [nm], by omega, by go_num, rfl, by omega, ?_, Hb5.out.trans hg6.out.bel, by omega, ?_, ?_⟩
            · unfold Hid; rw [List.length_append, hpn.out]; rfl
            · unfold Hid; rw [hs.out, Hst.out, List.append_assoc]; rfl
            · exact hown6
          case measure => simp [intOf]; omega
        · have e1 : (a == x && a' == y) = false := by
            cases h : (a == x && a' == y)
            · rfl
            · exact absurd (by simpa using h) hm
          rw [e1] at heq
          rw [if_neg hm] at hst
          have Hst := Lib.hid hst; clear hst
          clear hm e1
          go_wp2
          go_big_quiet (fail)
          have hbr := below_drewN (B := wo.heap.size) (Below.refl _ wo) nq
          have q5 := (cell_keep (hbr.block b (by have : b < w.heap.size := hob; omega))).trans q0
          generalize wo.drewN nq = w5 at hbr q5 ⊢
          have hz5 := hbr.size
          have hsz5 : W0.heap.size ≤ w5.heap.size := by omega
          have hown5 := hown.out.later hbr
          have hb5 : Below W0.heap.size W0 w5 := hb.out.trans (hbr.mono hsz)
          have Hown5 := Lib.hid hown5; clear hown5
          have Hb5 := Lib.hid hb5; clear hb5
          clear q0 q0' b0 b1 hbr heq
          go_wp2_with ((with_reducible show wpList _ _ _ (Oper.mk (some 45) _ _ _ _ _ :: _) _ _); refine wpList_pushG (E := pI .u8) (xs := pre) (v := .slice Ao n co) (base := W0.heap.size) (G := (W0.heap.size ≤ ·)) 55 5 (.int .u8 0) 1 45 (.tmp 40) (.tmp 44) rfl rfl rfl rfl rfl Tryd.underlying55 (by kernel_rfl) rfl (by decide) (fun _ => rfl) (fun _ => rfl) Hown5.out (.int .u8 a) rfl a (fun _ => False) HRa.out (fun _ h => h.elim) (n + 1) Hln.out Hrm.out ⟨by decide, by decide⟩ hsz5 ?_; intro A6 c6 w6 hown6 hg6)
          go_roundw
          case rel =>
            have hz6 := hg6.out.bel.size
            refine ⟨k + 1, n + 1, A6, c6, pre ++ [a], hlt, by go_num, rfl, by omega, ?_, Hb5.out.trans hg6.out.bel, by omega, ?_, ?_⟩
            · unfold Hid; rw [List.length_append, hpn.out]; rfl
            · unfold Hid; rw [hs.out, Hst.out, List.append_assoc]; rfl
            · exact hown6
          case measure => simp [intOf]; omega
end Go.Proofs.YtckffdaomjbglaaDoor
