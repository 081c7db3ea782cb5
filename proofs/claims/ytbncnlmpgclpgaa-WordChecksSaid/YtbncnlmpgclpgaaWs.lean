/-
  Layer 6: the walk of WordChecks.
-/
import Derived.Test.YtbncnlmpgclpgaaWr
namespace Go.Proofs.Ytbncnlmpgclpgaa
open Go.RowKit

set_option maxRecDepth 100000 in
set_option maxHeartbeats 4000000 in
theorem wordChecks_walk (A B : Option Addr) (c c' : Nat) (xs ys : List Mod) (i nm : Int) (w : World) (h : SlAt pMod (Old w) w A c xs) (h' : SlAt pMod (Old w) w B c' ys) (hi : Fits .i64 i) :
    Calls Try.prog 4 #[.slice A xs.length c, .slice B ys.length c', .int .i64 i, .int .u8 nm] w (OkPost w) := by
  have hmx := h.lenle
  have hmy := h'.lenle
  have H := Lib.hid h; clear h
  have H' := Lib.hid h'; clear h'

  have gx := great_calls A c xs w H.out
  have gy := great_calls B c' ys w H'.out
  cases hgx : greatF xs
  case true =>
    rw [hgx] at gx
    have Gx := Lib.hid gx; clear gx gy
    go_enter Try.func4, Try.ntmps4
    go_wp2_with (go_at_call 5; refine Gx.out.mono ?_; rintro e w' ⟨rfl, rfl⟩)
    go_ret
    exact ⟨rfl, Below.refl _ _⟩
  case false =>
  cases hgy : greatF ys
  case true =>
    rw [hgx] at gx
    rw [hgy] at gy
    have Gx := Lib.hid gx; have Gy := Lib.hid gy; clear gx gy
    go_enter Try.func4, Try.ntmps4
    go_wp2_with (go_at_call 5; first | ((with_reducible refine Gx.out.mono ?_); rintro e w' ⟨rfl, rfl⟩) | ((with_reducible refine Gy.out.mono ?_); rintro e w' ⟨rfl, rfl⟩))
    go_ret
    exact ⟨rfl, Below.refl _ _⟩
  case false =>
  rw [hgx] at gx
  rw [hgy] at gy
  have Gx := Lib.hid gx; have Gy := Lib.hid gy; clear gx gy
  obtain ⟨lx, ax⟩ := great_no hgx
  obtain ⟨ly, ay⟩ := great_no hgy
  have Ax := Lib.hid ax; have Ay := Lib.hid ay; clear ax ay
  go_enter Try.func4, Try.ntmps4
  go_wp2_with (go_at_call 5; first | ((with_reducible refine Gx.out.mono ?_); rintro e w' ⟨rfl, rfl⟩) | ((with_reducible refine Gy.out.mono ?_); rintro e w' ⟨rfl, rfl⟩))

  refine (refTwin_calls A c xs _ H.out lx Ax.out).mono ?_
  rintro e w1 ⟨A1, c1, rfl, own1, hb1⟩
  obtain ⟨_, _, hv1, sl1⟩ := own1.fresh; cases hv1
  have Sl1 := Lib.hid sl1; clear sl1 own1
  have Hb1 := Lib.hid hb1; clear hb1
  have z1 := Hb1.out.size
  have e0 : ∀ a : Int, (a != a) = false := bne_self_eq_false
  have e0b : ((xs == ys) != (xs == ys)) = false := bne_self_eq_false _

  go_wp2_with fail
  refine (close_calls A c xs i w1 (H.out.later Hb1.out) hi).mono ?_
  rintro e w2 ⟨r, hr, rfl, hb2⟩
  have Hd2 := Lib.hid hb2
  have Hb2 := Lib.hid (Hb1.out.trans (hb2.mono z1)); clear hb2
  have z2 := Hb2.out.size

  go_wp2_with fail
  refine (refClose_calls A c xs i w2 (H.out.later Hb2.out) hi).mono ?_
  rintro e w3 ⟨r', hr', rfl, hb3⟩
  have hrr := closeIs_one hr' hr
  subst hrr
  clear hr hr'
  have Hd3 := Lib.hid hb3
  have Hb3 := Lib.hid (Hb2.out.trans (hb3.mono z2)); clear hb3
  have z3 := Hb3.out.size

  go_wp2_with fail
  refine (depth_calls A c xs w3 (H.out.later Hb3.out)).mono ?_
  rintro e w4 ⟨rfl, hb4⟩
  have Hd4 := Lib.hid hb4
  have Hb4 := Lib.hid (Hb3.out.trans (hb4.mono z3)); clear hb4
  have z4 := Hb4.out.size

  go_wp2_with fail
  refine (refDepth_calls A c xs w4 (H.out.later Hb4.out)).mono ?_
  rintro e w5 ⟨rfl, hb5⟩
  have Hd5 := Lib.hid hb5
  have Hb5 := Lib.hid (Hb4.out.trans (hb5.mono z4)); clear hb5
  have z5 := Hb5.out.size

  go_wp2_with fail
  refine (strip_calls A c xs w5 (H.out.later Hb5.out) Ax.out).mono ?_
  rintro e w6 ⟨A6, c6, rfl, own6, hb6⟩
  have Own6 := Lib.hid own6; clear own6
  have Hd6 := Lib.hid hb6
  have Hb6 := Lib.hid (Hb5.out.trans (hb6.mono z5)); clear hb6
  have z6 := Hb6.out.size

  go_wp2_with fail
  refine (refStrip_calls A c xs w6 (H.out.later Hb6.out) Ax.out).mono ?_
  rintro e w7 ⟨A7, c7, rfl, own7, hb7⟩
  obtain ⟨_, _, hv7, sl7⟩ := own7.fresh; cases hv7
  have Sl7 := Lib.hid sl7; clear sl7 own7
  have Hd7 := Lib.hid hb7
  have Hb7 := Lib.hid (Hb6.out.trans (hb7.mono z6)); clear hb7
  have z7 := Hb7.out.size

  go_wp2_with fail
  refine (wordCheck_calls A c xs w7 (H.out.later Hb7.out)).mono ?_
  rintro e w8 ⟨rfl, hb8⟩
  have Hd8 := Lib.hid hb8
  have Hb8 := Lib.hid (Hb7.out.trans (hb8.mono z7)); clear hb8
  have z8 := Hb8.out.size

  go_wp2_with fail
  refine (refCheck_calls A c xs w8 (H.out.later Hb8.out)).mono ?_
  rintro e w9 ⟨rfl, hb9⟩
  have Hd9 := Lib.hid hb9
  have Hb9 := Lib.hid (Hb8.out.trans (hb9.mono z8)); clear hb9
  have z9 := Hb9.out.size

  go_wp2_with fail
  refine (wordSame_calls A B c c' xs ys w9 (H.out.later Hb9.out) (H'.out.later Hb9.out)).mono ?_
  rintro e w10 ⟨rfl, hb10⟩
  have Hd10 := Lib.hid hb10
  have Hb10 := Lib.hid (Hb9.out.trans (hb10.mono z9)); clear hb10
  have z10 := Hb10.out.size

  go_wp2_with fail
  refine (refSame_calls A B c c' xs ys w10 (H.out.later Hb10.out) (H'.out.later Hb10.out)).mono ?_
  rintro e w11 ⟨rfl, hb11⟩
  have Hd11 := Lib.hid hb11
  have Hb11 := Lib.hid (Hb10.out.trans (hb11.mono z10)); clear hb11
  have z11 := Hb11.out.size

  go_wp2_with fail
  refine (count_calls A c xs nm w11 (H.out.later Hb11.out)).mono ?_
  rintro e w12 ⟨rfl, hb12⟩
  have Hd12 := Lib.hid hb12
  have Hb12 := Lib.hid (Hb11.out.trans (hb12.mono z11)); clear hb12
  have z12 := Hb12.out.size

  go_wp2_with fail
  refine (refCount_calls A c xs nm w12 (H.out.later Hb12.out)).mono ?_
  rintro e w13 ⟨rfl, hb13⟩
  have Hd13 := Lib.hid hb13
  have Hb13 := Lib.hid (Hb12.out.trans (hb13.mono z12)); clear hb13
  have z13 := Hb13.out.size

  have hlj : (stripF xs).1.length ≤ 100000 := by
    unfold stripF
    have := trunk_len xs 0
    split <;> simp <;> omega
  have y67 := Hd7.out.size
  have y78 := Hd8.out.size
  have y89 := Hd9.out.size
  have y910 := Hd10.out.size
  have y1011 := Hd11.out.size
  have y1112 := Hd12.out.size
  have y1213 := Hd13.out.size
  have y56 := Hd6.out.size
  have y01 := z1
  have h713 : Below w7.heap.size w7 w13 := ((((((Hd8.out.trans (Hd9.out.mono (by omega))).trans (Hd10.out.mono (by omega))).trans (Hd11.out.mono (by omega))).trans (Hd12.out.mono (by omega)))).trans (Hd13.out.mono (by omega)))
  have h613 : Below w6.heap.size w6 w13 := Hd7.out.trans (h713.mono (by omega))
  have h15 : Below w1.heap.size w1 w5 := ((Hd2.out.trans (Hd3.out.mono Hd2.out.size)).trans (Hd4.out.mono (Nat.le_trans Hd2.out.size Hd3.out.size))).trans (Hd5.out.mono (Nat.le_trans Hd2.out.size (Nat.le_trans Hd3.out.size Hd4.out.size)))
  have y15 := h15.size
  have h113 : Below w1.heap.size w1 w13 := (h15.trans (Hd6.out.mono y15)).trans (h613.mono (by omega))
  have H713 := Lib.hid h713; have H613 := Lib.hid h613; have H113 := Lib.hid h113
  clear h713 h613 h15 h113
  generalize hJ : stripF xs = J at *
  obtain ⟨J1, J2⟩ := J
  have HJ := Lib.hid hJ; clear hJ
  simp only at Own6 Sl7 hlj ⊢
  have x13 : SlAt pMod (Old w13) w13 A6 c6 J1 := by
    obtain ⟨_, _, hv, sl⟩ := (Own6.out.later H613.out).fresh; cases hv
    exact (slAt_modF sl).wide fun k hk => hk.2
  have y13 : SlAt pMod (Old w13) w13 A7 c7 J1 := (Sl7.out.keep fun k hk => H713.out.block k hk.2).wide fun k hk => Nat.lt_of_lt_of_le hk.2 H713.out.size
  have sxy := refSame_calls A6 A7 c6 c7 J1 J1 w13 x13 y13
  rw [beq_self_eq_true] at sxy
  have Sxy := Lib.hid sxy
  clear sxy x13 y13
  go_wp2_with fail
  refine Sxy.out.mono ?_
  rintro e w14 ⟨rfl, hb14⟩
  have z14 := hb14.size
  have H614 := Lib.hid (H613.out.trans (hb14.mono H613.out.size))
  have H114 := Lib.hid (H113.out.trans (hb14.mono H113.out.size))
  have Hb14 := Lib.hid (Hb13.out.trans (hb14.mono z13)); clear hb14
  have sox : SoftMods (fun k => w5.heap.size ≤ k ∧ k < w6.heap.size) w14 A6 J1.length := by
    obtain ⟨_, _, hv, sl⟩ := Own6.out.fresh; cases hv
    refine soft_of (sl.keep fun k hk => H614.out.block k hk.2) fun a ha => ?_
    subst ha
    exact unf_same (own_unf Own6.out) (H614.out.block _ (Own6.out.lt _ rfl).2)
  have Sox := Lib.hid sox; clear sox
  go_wp2_with fail
  refine (spoil_calls A6 J1.length c6 w14 Sox.out (by omega)).mono ?_
  rintro e w15 ⟨rfl, k15⟩
  have K15 := Lib.hid k15; clear k15
  have hb15 : Below w.heap.size w w15 := Hb14.out.trans (K15.out.below fun k hk => by omega)
  have Hb15 := Lib.hid hb15; clear hb15
  have s1 : SlAt pMod (Old w15) w15 A1 c1 xs := (Sl1.out.keep fun k hk => (K15.out.block k (by omega)).trans (H114.out.block k hk.2)).wide fun k hk => by
    have h1 := K15.out.size
    have h2 := H114.out.size
    unfold Old; omega
  have ca := refSame_calls A A1 c c1 xs xs w15 (H.out.later Hb15.out) s1
  rw [beq_self_eq_true] at ca
  have Ca := Lib.hid ca
  clear ca s1
  go_wp2_with fail
  refine Ca.out.mono ?_
  rintro e w16 ⟨rfl, hb16⟩
  have Hb16 := Lib.hid (Hb15.out.trans (hb16.mono Hb15.out.size)); clear hb16
  go_wp2
  go_ret
  exact ⟨rfl, Hb16.out⟩
end Go.Proofs.Ytbncnlmpgclpgaa
