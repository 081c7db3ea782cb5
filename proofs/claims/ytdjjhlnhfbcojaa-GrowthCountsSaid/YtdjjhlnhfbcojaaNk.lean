/-
  GrowthCounts, the walk of the law: it returns true.
-/
import Derived.Test.YtdjjhlnhfbcojaaNj
import Derived.Test.YtdjjhlnhfbcojaaOp
namespace Go.Proofs.Ytdjjhlnhfbcojaa
open Go.RowKit Go.Sort

set_option maxRecDepth 100000 in
set_option maxHeartbeats 4000000 in
theorem growthCounts_walk (A : Option Addr) (c : Nat) (rs : List Rul) (p : ByteArray) (B : Option Addr) (cb : Nat) (ms : List Mod) (n : Int) (w : World) (h : SlAt pRul (Old w) w A c rs) (h' : SlAt pMod (Old w) w B cb ms) (hn : Fits .i64 n) :
    Calls Try.prog 4 #[.slice A rs.length c, .string p, .slice B ms.length cb, .int .i64 n] w (OkPost w) := by
  have hmx := h.lenle
  have hmy := h'.lenle
  have hgr := greatR_calls A c rs w h
  have hgw := great_calls B cb ms w h'
  have H := Lib.hid h; clear h
  have H' := Lib.hid h'; clear h'
  have Hgr := Lib.hid hgr; clear hgr
  have Hgw := Lib.hid hgw; clear hgw
  cases hg : greatR rs
  · cases hg2 : greatF ms
    · by_cases hp : 100 < p.size
      · go_enter Try.func4, Try.ntmps4
        go_wp2_with fail
        refine Hgr.out.mono ?_
        rintro e w' ⟨rfl, rfl⟩
        rw [hg]
        go_wp2_with fail
        refine Hgw.out.mono ?_
        rintro e w' ⟨rfl, rfl⟩
        rw [hg2]
        go_wp2
        go_ret
        exact ⟨rfl, Below.refl _ _⟩
      · have hs := small_of hg
        have hp' : p.size ≤ 100 := by omega
        have Hs := Lib.hid hs; clear hs
        go_enter Try.func4, Try.ntmps4
        go_wp2_with fail
        refine Hgr.out.mono ?_
        rintro e w' ⟨rfl, rfl⟩
        rw [hg]
        go_wp2_with fail
        refine Hgw.out.mono ?_
        rintro e w' ⟨rfl, rfl⟩
        rw [hg2]
        clear hg hg2 hp
        go_wp2_with fail
        refine (gMatrix_calls A c rs p w H.out Hs.out hp').mono ?_
        rintro e w1 ⟨A1, c1, rfl, b1, s1⟩
        have S1 := Lib.hid (sl_old s1.out fun q hq => hq.2)
        have B1 := Lib.hid b1; clear b1
        clear s1
        go_wp2_with fail
        refine (refGMatrix_calls A c rs p w1 (H.out.later B1.out) Hs.out hp').mono ?_
        rintro e w2 ⟨A2, c2, rfl, b2, s2⟩
        have S2 := Lib.hid (sl_old s2.out fun q hq => hq.2)
        have W2 := Lib.hid (B1.out.trans (b2.mono B1.out.size))
        have B2 := Lib.hid b2; clear b2
        clear s2
        go_wp2_with fail
        refine (gCounts_calls A c rs p B cb ms n w2 (H.out.later W2.out) Hs.out hp' (H'.out.later W2.out) hn).mono ?_
        rintro e w3 ⟨A3, c3, rfl, b3, s3⟩
        have S3 := Lib.hid (sl_old s3.out fun q hq => hq.2)
        have W3 := Lib.hid (W2.out.trans (b3.mono W2.out.size))
        have B3 := Lib.hid b3; clear b3
        clear s3
        go_wp2_with fail
        refine (refGCounts_calls A c rs p B cb ms n w3 (H.out.later W3.out) Hs.out hp' (H'.out.later W3.out) hn).mono ?_
        rintro e w4 ⟨A4, c4, rfl, b4, s4⟩
        have S4 := Lib.hid (sl_old s4.out fun q hq => hq.2)
        have W4 := Lib.hid (W3.out.trans (b4.mono W3.out.size))
        have B4 := Lib.hid b4; clear b4
        clear s4
        go_wp2_with fail
        refine (gLength_calls A c rs p B cb ms n w4 (H.out.later W4.out) Hs.out hp' (H'.out.later W4.out) hn).mono ?_
        rintro e w5 ⟨rfl, b5⟩
        have W5 := Lib.hid (W4.out.trans (b5.mono W4.out.size))
        have B5 := Lib.hid b5; clear b5
        go_wp2_with fail
        refine (refGLength_calls A c rs p B cb ms n w5 (H.out.later W5.out) Hs.out hp' (H'.out.later W5.out) hn).mono ?_
        rintro e w6 ⟨rfl, b6⟩
        have W6 := Lib.hid (W5.out.trans (b6.mono W5.out.size))
        have B6 := Lib.hid b6; clear b6
        go_wp2_with fail
        refine (gCheck_calls A c rs p w6 (H.out.later W6.out) Hs.out hp').mono ?_
        rintro e w7 ⟨rfl, b7⟩
        have W7 := Lib.hid (W6.out.trans (b7.mono W6.out.size))
        have B7 := Lib.hid b7; clear b7
        go_wp2_with fail
        refine (refGCheck_calls A c rs p w7 (H.out.later W7.out) Hs.out hp').mono ?_
        rintro e w8 ⟨rfl, b8⟩
        have W8 := Lib.hid (W7.out.trans (b8.mono W7.out.size))
        have T1 := Lib.hid (((((((S1.out.later B2.out).later B3.out).later B4.out).later B5.out).later B6.out).later B7.out).later b8)
        have T2 := Lib.hid ((((((S2.out.later B3.out).later B4.out).later B5.out).later B6.out).later B7.out).later b8)
        have T3 := Lib.hid (((((S3.out.later B4.out).later B5.out).later B6.out).later B7.out).later b8)
        have T4 := Lib.hid ((((S4.out.later B5.out).later B6.out).later B7.out).later b8)
        clear b8
        go_wp2_with fail
        refine (sameRows_calls A1 A2 c1 c2 (matF rs p).1 (matF rs p).1 w8 T1.out T2.out).mono ?_
        rintro e3 w9 ⟨rfl, n9, rfl⟩
        rw [show ((matF rs p).1 == (matF rs p).1) = true from beq_self_eq_true _]
        go_wp2_with fail
        refine (same_calls A3 A4 c3 c4 (countsF rs p ms n).1 (countsF rs p ms n).1 (w8.drewN n9) (T3.out.keep fun _ _ => rfl) (T4.out.keep fun _ _ => rfl)).mono ?_
        rintro e4 w10 ⟨rfl, n10, rfl⟩
        rw [show ((countsF rs p ms n).1 == (countsF rs p ms n).1) = true from beq_self_eq_true _]
        go_wp2
        go_ret
        exact ⟨rfl, below_drewN W8.out _⟩
    · go_enter Try.func4, Try.ntmps4
      go_wp2_with fail
      refine Hgr.out.mono ?_
      rintro e w' ⟨rfl, rfl⟩
      rw [hg]
      go_wp2_with fail
      refine Hgw.out.mono ?_
      rintro e w' ⟨rfl, rfl⟩
      rw [hg2]
      go_wp2
      go_ret
      exact ⟨rfl, Below.refl _ _⟩
  · go_enter Try.func4, Try.ntmps4
    go_wp2_with fail
    refine Hgr.out.mono ?_
    rintro e w' ⟨rfl, rfl⟩
    rw [hg]
    go_wp2
    go_ret
    exact ⟨rfl, Below.refl _ _⟩
end Go.Proofs.Ytdjjhlnhfbcojaa
