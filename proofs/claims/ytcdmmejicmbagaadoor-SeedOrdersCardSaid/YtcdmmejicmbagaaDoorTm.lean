/-
  Layer 5: the walks of SeedPicks and SeedOrders.
-/
import Derived.Test.YtcdmmejicmbagaaDoorTl
import Derived.Stop.LaidErr
import Derived.MakeChecks
namespace Go.Proofs.YtcdmmejicmbagaaDoor
open Go.RowKit Go.Sort
set_option linter.unusedVariables false

/-- what an order comes to: the list and the error -/
def ordR (s : Int) (p : ByteArray) (n : Int) : List Int × Int := if n < 0 ∨ 200 < n then ([], 2) else (orderL s p n.toNat, 0)
def OrdPost (r : List Int × Int) (w : World) (e : Ending) (w' : World) : Prop := ∃ A c, e = .returned (.tuple #[.slice A r.1.length c, .int .i64 r.2]) ∧ Below w.heap.size w w' ∧ Hid (SlAt (pI .i64) (Old w') w' A c r.1)
theorem cell_lt {w : World} {b o : Nat} {v : Value} (h : w.cell? ⟨b, o, none⟩ = some v) : b < w.heap.size := by
  by_cases hb : b < w.heap.size
  · exact hb
  · have h1 : w.heap[b]? = none := Array.getElem?_eq_none (by omega)
    unfold World.cell? at h
    simp [h1] at h
theorem ord_uni (s : Int) (p : ByteArray) (n : Int) (w : World) (hs : Fits .i64 s) (hp : p.size ≤ 500) (hn : Fits .i64 n) (ht : TabAt w) (hg : GAt w) : Calls Tryd.prog 11 #[.int .i64 s, .string p, .int .i64 n] w (OrdPost (ordR s p n) w) := by
  by_cases hb : n < 0 ∨ 200 < n
  · have hr : ordR s p n = ([], 2) := by unfold ordR; rw [if_pos hb]
    unfold OrdPost
    rw [hr]
    refine (order_bad s p n w hn hb).mono ?_
    rintro e w' ⟨rfl, hb'⟩
    exact ⟨none, 0, rfl, hb', sl_none⟩
  · obtain ⟨k, rfl⟩ := Int.eq_ofNat_of_zero_le (show 0 ≤ n by omega)
    have hr : ordR s p (k : Int) = (orderL s p k, 0) := by unfold ordR; rw [if_neg hb, Int.toNat_natCast]
    unfold OrdPost
    rw [hr]
    by_cases h0 : k = 0
    · subst h0
      refine (order_zero s p w).mono ?_
      rintro e w' ⟨A, c, rfl, h1, h2⟩
      exact ⟨A, c, rfl, h2, h1⟩
    · exact order_calls s p k w hs hp (by omega) (by omega) ht hg
theorem refOrd_uni (s : Int) (p : ByteArray) (n : Int) (w : World) (hs : Fits .i64 s) (hp : p.size ≤ 500) (hn : Fits .i64 n) : Calls Tryd.prog 12 #[.int .i64 s, .string p, .int .i64 n] w (OrdPost (ordR s p n) w) := by
  by_cases hb : n < 0 ∨ 200 < n
  · have hr : ordR s p n = ([], 2) := by unfold ordR; rw [if_pos hb]
    unfold OrdPost
    rw [hr]
    refine (refOrder_bad s p n w hn hb).mono ?_
    rintro e w' ⟨rfl, hb'⟩
    exact ⟨none, 0, rfl, hb', sl_none⟩
  · obtain ⟨k, rfl⟩ := Int.eq_ofNat_of_zero_le (show 0 ≤ n by omega)
    have hr : ordR s p (k : Int) = (orderL s p k, 0) := by unfold ordR; rw [if_neg hb, Int.toNat_natCast]
    unfold OrdPost
    rw [hr]
    exact refOrder_calls s p k w hs hp (by omega)

set_option maxRecDepth 100000 in
set_option maxHeartbeats 4000000 in
theorem seedPicks_walk (A : Option Addr) (c : Nat) (l : List Int) (h s : Int) (p : ByteArray) (n : Int) (w : World) (hl : SlAt (pI .i64) (Old w) w A c l) (hh : Fits .u64 h) (hs : Fits .i64 s) (hp : p.size ≤ 9223372036854775807) (hn : Fits .i64 n) (ht : TabAt w) (hg : GAt w) :
    Calls Tryd.prog 3 #[.slice A l.length c, .int .u64 h, .int .i64 s, .string p, .int .i64 n] w (BoolPost true w) := by
  have hmx := hl.lenle
  have hh' : 0 ≤ h ∧ h ≤ 18446744073709551615 := by simpa [Fits, Lit.wf, IntKind.min, IntKind.max, IntKind.signed, IntKind.bits] using hh
  by_cases h5 : 500 < p.size
  · go_enter Tryd.func3, Tryd.ntmps3
    go_wp2
    go_ret
    exact ⟨rfl, Below.refl _ _⟩
  by_cases h6 : 250 < l.length
  · go_enter Tryd.func3, Tryd.ntmps3
    go_wp2
    go_ret
    exact ⟨rfl, Below.refl _ _⟩
  have hp5 : p.size ≤ 500 := by omega
  have c1 := pick_calls A c l h w hl hh'
  obtain ⟨pk, hpk⟩ : ∃ r, pickF l h = r := ⟨_, rfl⟩
  rw [hpk] at c1
  have c2 := fun w1 (hb : Below w.heap.size w w1) => refPick_calls A c l h w1 (hl.later hb) hh'
  rw [hpk] at c2
  have c3 := fun w1 (hb : Below w.heap.size w w1) => ord_uni s p n w1 hs hp5 hn (ht.later hb hg) (hg.later hb)
  have c4 := fun w1 => refOrd_uni s p n w1 hs hp5 hn
  obtain ⟨⟨os, oe⟩, hor⟩ : ∃ r, ordR s p n = r := ⟨_, rfl⟩
  rw [hor] at c3 c4
  obtain ⟨pi, pe⟩ := pk
  have C1 := Lib.hid c1; clear c1
  have C2 := Lib.hid c2; clear c2
  have C3 := Lib.hid c3; clear c3
  have C4 := Lib.hid c4; clear c4
  have Hpk := Lib.hid hpk; clear hpk
  have Hor := Lib.hid hor; clear hor
  clear hl ht hg hs hn hh hh'
  go_enter Tryd.func3, Tryd.ntmps3
  go_wp2_with fail
  refine C1.out.mono ?_
  rintro e w1 ⟨rfl, b1⟩
  have B1 := Lib.hid b1; clear b1
  go_wp2_with fail
  refine (C2.out w1 B1.out).mono ?_
  rintro e w2 ⟨rfl, b2⟩
  have W2 := Lib.hid (B1.out.trans (b2.mono B1.out.size))
  clear b2
  go_wp2_with fail
  refine (C3.out w2 W2.out).mono ?_
  rintro e w3 ⟨A3, c3, rfl, b3, s3⟩
  have W3 := Lib.hid (W2.out.trans (b3.mono W2.out.size))
  clear b3
  go_wp2_with fail
  refine (C4.out w3).mono ?_
  rintro e w4 ⟨A4, c4, rfl, b4, s4⟩
  have W4 := Lib.hid (W3.out.trans (b4.mono W3.out.size))
  have S3 := Lib.hid (s3.out.later b4)
  clear b4 s3
  have hl3 := S3.out.lenle.1
  dsimp only at S3 s4 hl3 ⊢
  go_wp2
  go_loopw [19] (fun i wr => ∃ k : Nat, k ≤ os.length ∧ i = .int .i64 k ∧ ∃ q, wr = w4.drewN q) (fun i _ => os.length - (intOf i).toNat)
  case atStart => exact ⟨0, Nat.zero_le _, rfl, 0, rfl⟩
  case round =>
    obtain ⟨k, hk, rfl, q, rfl⟩ := hrel
    by_cases hlt : k < os.length
    · obtain ⟨b1, o1, x, hd, rfl, _, hc1, _⟩ := S3.out.getI hlt
      obtain ⟨b2, o2, y, hd2, rfl, _, hc2, _⟩ := s4.out.getI hlt
      obtain rfl : y = x := by have := hd.out.symm.trans hd2.out; simpa using this.symm
      have e1 : (y != y) = false := by simp
      go_wp2
      go_quiet (fail)
      go_wp2
      go_roundw
      case rel => exact ⟨k + 1, by omega, by go_num, _, rfl⟩
      case measure => simp [intOf]; omega
    · go_wp2
      go_ret
      exact ⟨rfl, below_drewN W4.out _⟩
end Go.Proofs.YtcdmmejicmbagaaDoor
