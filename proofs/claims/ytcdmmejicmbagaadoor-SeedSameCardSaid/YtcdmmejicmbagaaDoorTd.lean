/-
  Layer 5: the walk of SeedSame.
-/
import Derived.Test.YtcdmmejicmbagaaDoorTc
namespace Go.Proofs.YtcdmmejicmbagaaDoor
open Go.RowKit
set_option linter.unusedVariables false

set_option maxRecDepth 100000 in
set_option maxHeartbeats 4000000 in
theorem seedSame_walk (A : Option Addr) (c : Nat) (l : List Int) (h s : Int) (p : ByteArray) (w : World) (hl : SlAt (pI .i64) (Old w) w A c l) (hh : Fits .u64 h) (hs : Fits .i64 s) (hp : p.size ≤ 9223372036854775807) :
    Calls Tryd.prog 8 #[.slice A l.length c, .int .u64 h, .int .i64 s, .string p] w (BoolPost true w) := by
  have ml := hl.lenle
  have hh' : 0 ≤ h ∧ h ≤ 18446744073709551615 := by simpa [Fits, Lit.wf, IntKind.min, IntKind.max, IntKind.signed, IntKind.bits] using hh
  have Hl := Lib.hid hl; clear hl
  have Hs := Lib.hid hs; clear hs
  clear hh
  go_enter Tryd.func8, Tryd.ntmps8
  go_wp2_with fail
  refine (sum_calls A c l w Hl.out).mono ?_
  rintro e w1 ⟨rfl, hb1⟩
  have z1 := hb1.size
  have Hb1 := Lib.hid hb1; clear hb1
  by_cases h1 : sumW l < 1
  · go_wp2_with fail
    refine (alive_calls w1).mono ?_
    rintro e w2 ⟨rfl, hb2⟩
    have Hb2 := Lib.hid (Hb1.out.trans (hb2.mono z1)); clear hb2
    have z2 := Hb2.out.size
    go_wp2
    go_ret
    exact ⟨rfl, Hb2.out⟩
  have hne : ¬ sumW l = 0 := by omega
  obtain ⟨_, _, _, hn1, _⟩ := sumW_ne hne
  have hle : sumW l ≤ 1000000000 := by rw [(sumW_ne hne).2.1]; exact hn1
  by_cases h5 : 500 < p.size
  · go_wp2_with fail
    refine (alive_calls w1).mono ?_
    rintro e w2 ⟨rfl, hb2⟩
    have Hb2 := Lib.hid (Hb1.out.trans (hb2.mono z1)); clear hb2
    have z2 := Hb2.out.size
    go_wp2
    go_ret
    exact ⟨rfl, Hb2.out⟩
  obtain ⟨hq, hqe⟩ : ∃ q, h / 2 = q := ⟨_, rfl⟩
  have hq0 : 0 ≤ hq ∧ hq ≤ 9223372036854775807 := by omega
  obtain ⟨n, hn⟩ : ∃ n, sumW l = n := ⟨_, rfl⟩
  have e1 := pick_ix hne hq
  have e2 := pick_ix hne (hq + sumW l)
  rw [ix_period, hn] at e2
  have e3 := pick_ix hne (ofF s p)
  obtain ⟨k, hk⟩ : ∃ k, ixW l hq = k := ⟨_, rfl⟩
  obtain ⟨j, hj⟩ : ∃ j, ixW l (ofF s p) = j := ⟨_, rfl⟩
  rw [hk] at e1 e2
  rw [hj] at e3
  rw [hn] at h1 hle ⊢
  obtain ⟨e1, e4, e5⟩ := e1
  obtain ⟨e2, _, _⟩ := e2
  obtain ⟨e3, e6, _⟩ := e3
  have hw : IntKind.u64.wrap n = n := by rw [IntKind.wrap_u64]; omega
  have hof := ofF_range s p
  have c2 := pick_calls A c l hq w1 (Hl.out.later Hb1.out) (by omega)
  rw [e1] at c2
  have C2 := Lib.hid c2
  have hk0 : (0 : Int) ≤ (k : Int) := Int.natCast_nonneg _
  have hk1 : (k : Int) < (l.length : Int) := by omega
  have hq1 : hq + n ≤ 18446744073709551615 := by omega
  have Hqe := Lib.hid hqe; clear hqe
  have Hn := Lib.hid hn; clear hn
  have E1 := Lib.hid e1; clear e1
  have E2 := Lib.hid e2; clear e2
  have E3 := Lib.hid e3; clear e3
  have Hk := Lib.hid hk; clear hk
  have Hj := Lib.hid hj; clear hj
  have Hne := Lib.hid hne; clear hne
  have E5 := Lib.hid e5; clear e5
  clear c2 hn1
  go_wp2_with fail
  rw [Hqe.out]
  refine C2.out.mono ?_
  rintro e w2 ⟨rfl, hb2⟩
  have Hb2 := Lib.hid (Hb1.out.trans (hb2.mono z1))
  have z2 := Hb2.out.size
  clear hb2 C2
  have c3 := pick_calls A c l (hq + n) w2 (Hl.out.later Hb2.out) (by omega)
  rw [E2.out] at c3
  have C3 := Lib.hid c3
  clear c3
  go_wp2_with fail
  refine C3.out.mono ?_
  rintro e w3 ⟨rfl, hb3⟩
  have Hb3 := Lib.hid (Hb2.out.trans (hb3.mono z2))
  have z3 := Hb3.out.size
  clear hb3 C3
  have c4 := choose_calls s p A c l w3 Hs.out (by omega) (Hl.out.later Hb3.out)
  rw [show chooseF s p l = pickF l (ofF s p) from rfl, E3.out] at c4
  have C4 := Lib.hid c4
  clear c4
  go_wp2_with fail
  refine C4.out.mono ?_
  rintro e w4 ⟨rfl, hb4⟩
  have Hb4 := Lib.hid (Hb3.out.trans (hb4.mono z3))
  have z4 := Hb4.out.size
  clear hb4 C4
  go_wp2_with fail
  refine (of_calls s p w4 Hs.out (by omega)).mono ?_
  rintro e w5 ⟨rfl, hb5⟩
  have Hb5 := Lib.hid (Hb4.out.trans (hb5.mono z4)); clear hb5
  have z5 := Hb5.out.size
  have c6 := pick_calls A c l (ofF s p) w5 (Hl.out.later Hb5.out) hof
  rw [E3.out] at c6
  have C6 := Lib.hid c6
  clear c6
  go_wp2_with fail
  refine C6.out.mono ?_
  rintro e w6 ⟨rfl, hb6⟩
  have Hb6 := Lib.hid (Hb5.out.trans (hb6.mono z5))
  have z6 := Hb6.out.size
  clear hb6 C6
  obtain ⟨b, o, x, hd, rfl, hob, hcx, _⟩ := (Hl.out.later Hb6.out).getI e4
  have hx : 0 < x := by
    have h7 := E5.out
    rw [List.getD_eq_getElem?_getD, get_of_drop hd.out] at h7
    exact h7
  clear hd
  go_wp2_with fail
  refine (alive_calls w6).mono ?_
  rintro e w7 ⟨rfl, hb7⟩
  have Hb7 := Lib.hid (Hb6.out.trans (hb7.mono z6))
  clear hb7
  go_wp2
  go_ret
  exact ⟨rfl, Hb7.out⟩
end Go.Proofs.YtcdmmejicmbagaaDoor
