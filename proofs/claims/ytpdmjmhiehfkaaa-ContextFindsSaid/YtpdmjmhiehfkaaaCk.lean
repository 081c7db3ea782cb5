/-
  Layer 8: the walk of ContextFinds.
-/
import Derived.Test.YtpdmjmhiehfkaaaCj
import Derived.Test.YtpdmjmhiehfkaaaFi
import Derived.Test.YtpdmjmhiehfkaaaOp
namespace Go.Proofs.Ytpdmjmhiehfkaaa
open Go.RowKit Go.Sort

set_option maxRecDepth 100000 in
set_option maxHeartbeats 4000000 in
theorem contextFinds_walk (A : Option Addr) (c : Nat) (rs : List Rul) (p : ByteArray) (B : Option Addr) (cb : Nat) (ms : List Mod) (i : Int) (w : World) (h : SlAt pRul (Old w) w A c rs) (h' : SlAt pMod (Old w) w B cb ms) (hi : Fits .i64 i) :
    Calls Try.prog 3 #[.slice A rs.length c, .string p, .slice B ms.length cb, .int .i64 i] w (OkPost w) := by
  have hmx := h.lenle
  have hmy := h'.lenle
  have hi64 := hi.i64
  have gr := greatR_calls A c rs w h
  have gw := great_calls B cb ms w h'
  have H := Lib.hid h; clear h
  have H' := Lib.hid h'; clear h'
  have Hi := Lib.hid hi; clear hi
  have gr' : Calls Try.prog 5 #[.slice A rs.length c] w fun e w' => e = .returned (.bool (greatR rs)) ∧ w = w' := gr
  clear gr
  cases hgr : greatR rs
  case true =>
    rw [hgr] at gr'
    have Gr' := Lib.hid gr'; clear gr'
    have Gw := Lib.hid gw; clear gw
    have Hgr := Lib.hid hgr; clear hgr
    go_enter Try.func3, Try.ntmps3
    go_wp2_with (first | (go_at_call 5; refine Gr'.out.mono ?_; rintro e w' ⟨rfl, rfl⟩) | (go_at_call 6; refine Gw.out.mono ?_; rintro e w' ⟨rfl, rfl⟩))
    go_ret
    exact ⟨rfl, Below.refl _ _⟩
  case false =>
  rw [hgr] at gr'
  have hs := small_of hgr
  cases hgw : greatF ms
  case true =>
    rw [hgw] at gw
    have Gr' := Lib.hid gr'; clear gr'
    have Gw := Lib.hid gw; clear gw
    have Hgr := Lib.hid hgr; clear hgr
    have Hgw := Lib.hid hgw; clear hgw
    go_enter Try.func3, Try.ntmps3
    go_wp2_with (first | (go_at_call 5; refine Gr'.out.mono ?_; rintro e w' ⟨rfl, rfl⟩) | (go_at_call 6; refine Gw.out.mono ?_; rintro e w' ⟨rfl, rfl⟩))
    go_ret
    exact ⟨rfl, Below.refl _ _⟩
  case false =>
  rw [hgw] at gw
  by_cases h3 : (300 : Int) < (ms.length : Int)
  · have Gr' := Lib.hid gr'; clear gr'
    have Gw := Lib.hid gw; clear gw
    have Hgr := Lib.hid hgr; clear hgr
    have Hgw := Lib.hid hgw; clear hgw
    have Hs := Lib.hid hs; clear hs
    go_enter Try.func3, Try.ntmps3
    go_wp2_with (first | (go_at_call 5; refine Gr'.out.mono ?_; rintro e w' ⟨rfl, rfl⟩) | (go_at_call 6; refine Gw.out.mono ?_; rintro e w' ⟨rfl, rfl⟩))
    go_ret
    exact ⟨rfl, Below.refl _ _⟩
  by_cases h1 : (100 : Int) < (p.size : Int)
  · have Gr' := Lib.hid gr'; clear gr'
    have Gw := Lib.hid gw; clear gw
    have Hgr := Lib.hid hgr; clear hgr
    have Hgw := Lib.hid hgw; clear hgw
    have Hs := Lib.hid hs; clear hs
    go_enter Try.func3, Try.ntmps3
    go_wp2_with (first | (go_at_call 5; refine Gr'.out.mono ?_; rintro e w' ⟨rfl, rfl⟩) | (go_at_call 6; refine Gw.out.mono ?_; rintro e w' ⟨rfl, rfl⟩))
    go_ret
    exact ⟨rfl, Below.refl _ _⟩
  have hp : p.size ≤ 1000 := by omega
  have hl : ms.length ≤ 100000 := by omega
  obtain ⟨x1, hx1⟩ : ∃ x, sideF (leftF p ms) ms i p = x := ⟨_, rfl⟩
  obtain ⟨x2, hx2⟩ : ∃ x, sideF (rightF p ms) ms i p = x := ⟨_, rfl⟩
  obtain ⟨x3, hx3⟩ : ∃ x, cFindF rs p ms i = x := ⟨_, rfl⟩
  obtain ⟨x4, hx4⟩ : ∃ x, checkC rs p = x := ⟨_, rfl⟩
  have c1 := fun (W : World) (hb : Below w.heap.size w W) => left_calls B cb ms i p W (H'.out.later hb) Hi.out hp
  have c2 := fun (W : World) (hb : Below w.heap.size w W) => refLeft_calls B cb ms i p W (H'.out.later hb) Hi.out hp
  have c3 := fun (W : World) (hb : Below w.heap.size w W) => right_calls B cb ms i p W (H'.out.later hb) Hi.out hp
  have c4 := fun (W : World) (hb : Below w.heap.size w W) => refRight_calls B cb ms i p W (H'.out.later hb) Hi.out hp
  have c5 := fun (W : World) (hb : Below w.heap.size w W) => cFind_calls A c rs B cb ms p i W (H.out.later hb) (H'.out.later hb) hs Hi.out hp
  have c6 := fun (W : World) (hb : Below w.heap.size w W) => refCFind_calls A c rs B cb ms p i W (H.out.later hb) (H'.out.later hb) hs Hi.out hl hp
  have c7 := fun (W : World) (hb : Below w.heap.size w W) => cCheck_calls A c rs p W (H.out.later hb) hs hp
  have c8 := fun (W : World) (hb : Below w.heap.size w W) => refCCheck_calls A c rs p W (H.out.later hb) hs hp
  simp only [hx1] at c1 c2
  simp only [hx2] at c3 c4
  simp only [hx3] at c5 c6
  simp only [hx4] at c7 c8
  have Gr' := Lib.hid gr'; clear gr'
  have Gw := Lib.hid gw; clear gw
  have Hgr := Lib.hid hgr; clear hgr
  have Hgw := Lib.hid hgw; clear hgw
  have Hs := Lib.hid hs; clear hs
  have C1 := Lib.hid c1; clear c1
  have C2 := Lib.hid c2; clear c2
  have C3 := Lib.hid c3; clear c3
  have C4 := Lib.hid c4; clear c4
  have C5 := Lib.hid c5; clear c5
  have C6 := Lib.hid c6; clear c6
  have C7 := Lib.hid c7; clear c7
  have C8 := Lib.hid c8; clear c8
  have Hx1 := Lib.hid hx1; clear hx1
  have Hx2 := Lib.hid hx2; clear hx2
  have Hx3 := Lib.hid hx3; clear hx3
  have Hx4 := Lib.hid hx4; clear hx4
  go_enter Try.func3, Try.ntmps3
  go_wp2_with (first | (go_at_call 5; refine Gr'.out.mono ?_; rintro e w' ⟨rfl, rfl⟩) | (go_at_call 6; refine Gw.out.mono ?_; rintro e w' ⟨rfl, rfl⟩))
  refine (C1.out w (Below.refl _ _)).mono ?_
  rintro e w1 ⟨rfl, hb1⟩
  have z1 := hb1.size
  have Hb1 := Lib.hid hb1; clear hb1
  go_wp2_with fail
  refine (C2.out w1 Hb1.out).mono ?_
  rintro e w2 ⟨rfl, hb2⟩
  have Hb2 := Lib.hid (Hb1.out.trans (hb2.mono z1)); clear hb2
  have z2 := Hb2.out.size
  go_wp2_with fail
  refine (C3.out w2 Hb2.out).mono ?_
  rintro e w3 ⟨rfl, hb3⟩
  have Hb3 := Lib.hid (Hb2.out.trans (hb3.mono z2)); clear hb3
  have z3 := Hb3.out.size
  go_wp2_with fail
  refine (C4.out w3 Hb3.out).mono ?_
  rintro e w4 ⟨rfl, hb4⟩
  have Hb4 := Lib.hid (Hb3.out.trans (hb4.mono z3)); clear hb4
  have z4 := Hb4.out.size
  go_wp2_with fail
  refine (C5.out w4 Hb4.out).mono ?_
  rintro e w5 ⟨rfl, hb5⟩
  have Hb5 := Lib.hid (Hb4.out.trans (hb5.mono z4)); clear hb5
  have z5 := Hb5.out.size
  go_wp2_with fail
  refine (C6.out w5 Hb5.out).mono ?_
  rintro e w6 ⟨rfl, hb6⟩
  have Hb6 := Lib.hid (Hb5.out.trans (hb6.mono z5)); clear hb6
  have z6 := Hb6.out.size
  go_wp2_with fail
  refine (C7.out w6 Hb6.out).mono ?_
  rintro e w7 ⟨rfl, hb7⟩
  have Hb7 := Lib.hid (Hb6.out.trans (hb7.mono z6)); clear hb7
  have z7 := Hb7.out.size
  go_wp2_with fail
  refine (C8.out w7 Hb7.out).mono ?_
  rintro e w8 ⟨rfl, hb8⟩
  have Hb8 := Lib.hid (Hb7.out.trans (hb8.mono z7)); clear hb8
  have z8 := Hb8.out.size
  go_wp2
  go_ret
  exact ⟨rfl, Hb8.out⟩
end Go.Proofs.Ytpdmjmhiehfkaaa
