/-
  Layer 5: the walk of SeedFair.
-/
import Derived.Test.YtcdmmejicmbagaaDoorTc
import Derived.Deep.QuietTactic
import Derived.BigQuiet
namespace Go.Proofs.YtcdmmejicmbagaaDoor
open Go.RowKit
set_option linter.unusedVariables false

theorem cntP_le (f : Int → Bool) (h : Int) : ∀ n : Nat, 0 ≤ cntP f h n ∧ cntP f h n ≤ n
  | 0 => by simp [cntP]
  | n + 1 => by
    have := cntP_le f h n
    show 0 ≤ cntP f h n + (if f (h + n) = true then 1 else 0) ∧ cntP f h n + (if f (h + n) = true then 1 else 0) ≤ ((n + 1 : Nat) : Int)
    split <;> omega
def cntL (l : List Int) (h : Int) (n : Nat) (k : Nat) : Int := cntP (fun x => ixW l x == k) h n
theorem cntL_step (l : List Int) (h : Int) (n : Nat) {k : Nat} (hk : ixW l (h + n) = k) : (fun i => if i = k then cntL l h n k + 1 else cntL l h n i) = cntL l h (n + 1) := by
  funext i
  show _ = cntP (fun x => ixW l x == i) h n + (if (ixW l (h + n) == i) = true then 1 else 0)
  rw [hk]
  by_cases hi : i = k
  · subst hi; rw [if_pos rfl, if_pos (by simp)]; rfl
  · rw [if_neg hi, if_neg (by simp; omega)]; unfold cntL; omega
theorem info_intF : (Tryd.prog.info? 3).map (fun i => (i.zero, i.size, i.bytes)) = some (some (.int .i64 0), 1, 8) := by kernel_rfl
set_option maxRecDepth 100000 in
set_option maxHeartbeats 4000000 in
theorem seedFair_walk (A : Option Addr) (c : Nat) (l : List Int) (h : Int) (w : World) (hl : SlAt (pI .i64) (Old w) w A c l) (hh : Fits .u64 h) :
    Calls Tryd.prog 4 #[.slice A l.length c, .int .u64 h] w (BoolPost true w) := by
  have ml := hl.lenle
  have hh' : 0 ≤ h ∧ h ≤ 18446744073709551615 := by simpa [Fits, Lit.wf, IntKind.min, IntKind.max, IntKind.signed, IntKind.bits] using hh
  have Hl := Lib.hid hl; clear hl
  clear hh
  go_enter Tryd.func4, Tryd.ntmps4
  go_wp2_with fail
  refine (sum_calls A c l w Hl.out).mono ?_
  rintro e w1 ⟨rfl, hb1⟩
  have z1 := hb1.size
  have Hb1 := Lib.hid hb1; clear hb1
  by_cases h1 : sumW l < 1
  · go_wp2_with fail
    refine (alive_calls w1).mono ?_
    rintro e w2 ⟨rfl, hb2⟩
    have Hb2 := Lib.hid (Hb1.out.trans (hb2.mono z1)); clear hb2
    have z2 := Hb2.out.size
    go_wp2
    go_ret
    exact ⟨rfl, Hb2.out⟩
  by_cases h5 : 500 < sumW l
  · go_wp2_with fail
    refine (alive_calls w1).mono ?_
    rintro e w2 ⟨rfl, hb2⟩
    have Hb2 := Lib.hid (Hb1.out.trans (hb2.mono z1)); clear hb2
    have z2 := Hb2.out.size
    go_wp2
    go_ret
    exact ⟨rfl, Hb2.out⟩
  have hne : ¬ sumW l = 0 := by omega
  obtain ⟨_, _, _, _, hll⟩ := sumW_ne hne
  obtain ⟨q, hqe⟩ : ∃ q, h / 2 = q := ⟨_, rfl⟩
  have hq0 : 0 ≤ q ∧ q ≤ 9223372036854775807 := by omega
  have hfair : ∀ k, k < l.length → cntL l q (sumW l).toNat k = l.getD k 0 := fun k hk => fair hne q hq0.1 k hk
  obtain ⟨n, hn⟩ : ∃ n, sumW l = n := ⟨_, rfl⟩
  rw [hn] at h1 h5 hfair ⊢
  obtain ⟨N, rfl⟩ : ∃ N : Nat, n = (N : Int) := ⟨n.toNat, by omega⟩
  have hmk := fun (wx : World) => run_make_row' (P := Tryd.prog) 22 3 (.int .i64 0) 8 Tryd.underlying22 info_intF rfl .i64 .i64 l.length (by omega) (by omega) wx
  have hblk0 : Blk (w1.alloc (.cells (madeCells #[.int .i64 0] l.length) 3)) w1.heap.size 3 (cellsN l.length (cntL l q 0)) := by
    rw [cellsN_made]; exact Blk.new _ _ _
  have hb10 : Below w.heap.size w (w1.alloc (.cells (madeCells #[.int .i64 0] l.length) 3)) := Hb1.out.trans ((al _).mono z1)
  have hN : (N : Int) ≤ 500 := by omega
  have Hne := Lib.hid hne; clear hne
  have Hqe := Lib.hid hqe; clear hqe
  have Hfair := Lib.hid hfair; clear hfair
  have Hn := Lib.hid hn; clear hn
  have Hblk0 := Lib.hid hblk0; clear hblk0
  have Hb10 := Lib.hid hb10; clear hb10
  go_wp2
  rw [Hqe.out]
  clear hmk
  go_loopw [7] (fun i wr => ∃ k : Nat, k ≤ N ∧ i = .int .i64 k ∧ Hid (Below w.heap.size w wr) ∧ Hid (Blk wr w1.heap.size 3 (cellsN l.length (cntL l q k)))) (fun i _ => N - (intOf i).toNat)
  case atStart => exact ⟨0, Nat.zero_le _, rfl, Hb10, Hblk0⟩
  case round =>
    obtain ⟨i, hi, rfl, hb, hblk⟩ := hrel
    obtain ⟨wo, rfl⟩ : ∃ wo : World, wo = wr := ⟨_, rfl⟩
    have zo := hb.out.size
    by_cases hlt : i < N
    · have hw : IntKind.u64.wrap (i : Int) = (i : Int) := by rw [IntKind.wrap_u64]; omega
      have hs1 : q + (i : Int) ≤ 18446744073709551615 := by omega
      have e1 := pick_ix Hne.out (q + (i : Int))
      obtain ⟨k, hk⟩ : ∃ k, ixW l (q + (i : Int)) = k := ⟨_, rfl⟩
      rw [hk] at e1
      obtain ⟨e1, e2, _⟩ := e1
      have c2 := pick_calls A c l (q + (i : Int)) wo (Hl.out.later hb.out) (by omega)
      rw [e1] at c2
      have C2 := Lib.hid c2
      clear c2
      have hk0 : (0 : Int) ≤ (k : Int) := Int.natCast_nonneg _
      have hk1 : (k : Int) < (l.length : Int) := by omega
      have hi0 : (0 : Int) ≤ (i : Int) := Int.natCast_nonneg _
      have hi1 : (i : Int) < (N : Int) := by omega
      have hcl := cntP_le (fun x => ixW l x == k) q i
      obtain ⟨cv, hcv⟩ : ∃ cv, cntL l q i k = cv := ⟨_, rfl⟩
      rw [show cntP (fun x => ixW l x == k) q i = cntL l q i k from rfl, hcv] at hcl
      have hstep := cntL_step l q i hk
      rw [hcv] at hstep
      have E1 := Lib.hid e1; clear e1
      have Hk := Lib.hid hk; clear hk
      have Hcv := Lib.hid hcv; clear hcv
      have Hstep := Lib.hid hstep; clear hstep
      go_wp2_with fail
      refine C2.out.mono ?_
      rintro e w2 ⟨rfl, hb2⟩
      have Hb2 := Lib.hid (hb.out.trans (hb2.mono zo))
      have z2 := Hb2.out.size
      have hbl2 := hblk.out.same (hb2.block _ hblk.out.lt)
      have q1 : w2.cell? ⟨w1.heap.size, k, none⟩ = some (.int .i64 cv) := by rw [hbl2.cell, cellsN_get _ e2, Hcv.out]
      have q2 := hbl2.free k
      have hs2 := hbl2.set k (.int .i64 (cv + 1))
      rw [cellsN_set, Hstep.out] at hs2
      obtain ⟨r0, r1⟩ := hcl
      have Hs2 := Lib.hid hs2; clear hs2
      have Hbl2 := Lib.hid hbl2; clear hbl2
      clear hb2 C2
      go_wp2
      go_roundw
      case rel => exact ⟨i + 1, by omega, by go_num, Hb2.out.setCell (by show _ ≤ w1.heap.size; exact z1) _, Hs2⟩
      case measure => simp [intOf]; omega
    · obtain rfl : i = N := by omega
      go_wp2
      go_loopw [10] (fun j wr => ∃ k : Nat, k ≤ l.length ∧ j = .int .i64 k ∧ Hid (Below w.heap.size w wr) ∧ Hid (Blk wr w1.heap.size 3 (cellsN l.length (cntL l q i)))) (fun j _ => l.length - (intOf j).toNat)
      case atStart => exact ⟨0, Nat.zero_le _, rfl, hb, hblk⟩
      case round =>
        obtain ⟨k, hk, rfl, hb3, hblk3⟩ := hrel
        obtain ⟨wp, rfl⟩ : ∃ wp : World, wp = wr := ⟨_, rfl⟩
        by_cases hlt3 : k < l.length
        · obtain ⟨b, o, x, hd, rfl, hob, hcx, _⟩ := (Hl.out.later hb3.out).getI hlt3
          have hf := Hfair.out k hlt3
          have hx : l.getD k 0 = x := by rw [List.getD_eq_getElem?_getD, get_of_drop hd.out]; rfl
          have q1 : wp.cell? ⟨w1.heap.size, k, none⟩ = some (.int .i64 x) := by rw [hblk3.out.cell, cellsN_get _ hlt3, ← hx, ← hf]; rfl
          have hk0 : (0 : Int) ≤ (k : Int) := Int.natCast_nonneg _
          have hk1 : (k : Int) < (l.length : Int) := by omega
          have Hf := Lib.hid hf; clear hf
          have Hx := Lib.hid hx; clear hx
          clear hd
          go_wp2
          go_quiet (fail)
          go_wp2
          go_roundw
          case rel => exact ⟨k + 1, by omega, by go_num, below_drewN hb3.out _, hblk3.out.same rfl⟩
          case measure => simp [intOf]; omega
        · have hk1 : ¬ (k : Int) < (l.length : Int) := by omega
          go_wp2_with fail
          refine (alive_calls wp).mono ?_
          rintro e w7 ⟨rfl, hb7⟩
          have Hb7 := Lib.hid (hb3.out.trans (hb7.mono hb3.out.size))
          clear hb7
          go_wp2
          go_ret
          exact ⟨rfl, Hb7.out⟩
end Go.Proofs.YtcdmmejicmbagaaDoor
