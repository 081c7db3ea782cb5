/-
  WordTrunks, the walk of the law: it returns true.
-/
import Derived.Test.YtnhdjcdipnginaaDoorPk
import Derived.Test.YtnhdjcdipnginaaDoorPi
namespace Go.Proofs.YtnhdjcdipnginaaDoor
open Go.RowKit Go.Sort
set_option linter.unusedVariables false

theorem great_mw {ms : List Mod} (h : greatF ms = false) : ms.length ≤ 10000 ∧ ∀ m ∈ ms, m.args.length ≤ 1000 := by
  unfold greatF at h
  rw [Bool.or_eq_false_iff] at h
  obtain ⟨h1, h2⟩ := h
  have h1' := of_decide_eq_false h1
  refine ⟨by omega, fun m hm => ?_⟩
  have := List.any_eq_false.1 h2 m hm
  simp at this
  omega
theorem countF_le (c : Int) (ms : List Mod) : countF c ms ≤ ms.length := List.countP_le_length
set_option maxRecDepth 100000 in
set_option maxHeartbeats 8000000 in
theorem wordTrunks_walk (A : Option Addr) (c : Nat) (us : List Mod) (B : Option Addr) (cb : Nat) (vs : List Mod) (nm : Int) (w : World) (h : SlAt pMod (Old w) w A c us) (h1 : SlAt pMod (Old w) w B cb vs) (hnm : Fits .u8 nm) (hL : LibAt w) :
    Calls Tryd.prog 7 #[.slice A us.length c, .slice B vs.length cb, .int .u8 nm] w (OkPost w) := by
  have hmx := h.lenle
  have hmy := h1.lenle
  have H := Lib.hid h; clear h
  have H1 := Lib.hid h1; clear h1
  have HL := Lib.hid hL; clear hL
  have out : ∀ (W : World), Below w.heap.size w W → Calls Tryd.prog 15 #[] W fun e W' => e = .returned (.bool true) ∧ Hid (Below w.heap.size w W') := fun W hW => (alive_calls W (HL.out.later hW)).mono fun e W' hh => ⟨hh.1, hW.trans (hh.2.mono hW.size)⟩
  have Out := Lib.hid out; clear out
  cases hv : validW us
  · go_enter Tryd.func7, Tryd.ntmps7
    go_wp2_with fail
    refine (valid_calls A c us w H.out).mono ?_
    rintro e w1 ⟨rfl, b1⟩
    rw [hv]
    go_wp2_with fail
    refine (Out.out w1 b1).mono ?_
    rintro e w2 ⟨rfl, b2⟩
    go_wp2
    go_ret
    exact ⟨rfl, b2.out⟩
  cases hv2 : validW vs
  · go_enter Tryd.func7, Tryd.ntmps7
    go_wp2_with fail
    refine (valid_calls A c us w H.out).mono ?_
    rintro e w1 ⟨rfl, b1⟩
    rw [hv]
    have T1 := Lib.hid b1; clear b1
    go_wp2_with fail
    refine (valid_calls B cb vs w1 (H1.out.later T1.out)).mono ?_
    rintro e w2 ⟨rfl, b2⟩
    rw [hv2]
    have T2 := Lib.hid (T1.out.trans (b2.mono T1.out.size)); clear b2
    go_wp2_with fail
    refine (Out.out w2 T2.out).mono ?_
    rintro e w3 ⟨rfl, b3⟩
    go_wp2
    go_ret
    exact ⟨rfl, b3.out⟩
  obtain ⟨hg1, hk1⟩ := validW_yes hv
  obtain ⟨hg2, hk2⟩ := validW_yes hv2
  obtain ⟨hl1, ha1⟩ := great_mw hg1
  obtain ⟨hl2, ha2⟩ := great_mw hg2
  have hjc := fun W (hW : Below w.heap.size w W) => join_calls A B c cb us vs W (H.out.later hW) (H1.out.later hW) hl1 hl2 ha1 ha2
  unfold JoinPost at hjc
  by_cases hbig : 2000 < us.length + vs.length
  · rw [joinRes_many hk1 hk2 hbig] at hjc
    have hb2 : (2000 : Int) < (us.length : Int) + (vs.length : Int) := by omega
    have Hjc := Lib.hid hjc; clear hjc
    have Hk1 := Lib.hid hk1; clear hk1
    have Hk2 := Lib.hid hk2; clear hk2
    have Hg1 := Lib.hid hg1; clear hg1
    have Hg2 := Lib.hid hg2; clear hg2
    have Ha1 := Lib.hid ha1; clear ha1
    have Ha2 := Lib.hid ha2; clear ha2
    go_enter Tryd.func7, Tryd.ntmps7
    go_wp2_with fail
    refine (valid_calls A c us w H.out).mono ?_
    rintro e w1 ⟨rfl, b1⟩
    rw [hv]
    have T1 := Lib.hid b1; clear b1
    go_wp2_with fail
    refine (valid_calls B cb vs w1 (H1.out.later T1.out)).mono ?_
    rintro e w2 ⟨rfl, b2⟩
    rw [hv2]
    have T2 := Lib.hid (T1.out.trans (b2.mono T1.out.size)); clear b2
    go_wp2_with fail
    refine (Hjc.out w2 T2.out).mono ?_
    rintro e w3 ⟨A3, c3, rfl, _, b3⟩
    have T3 := Lib.hid (T2.out.trans (b3.mono T2.out.size)); clear b3
    go_wp2_with fail
    refine (Out.out w3 T3.out).mono ?_
    rintro e w4 ⟨rfl, b4⟩
    go_wp2
    go_ret
    exact ⟨rfl, b4.out⟩
  · rw [joinRes_ok hk1 hk2 hbig] at hjc
    obtain ⟨pa, pb, pw, pj, da, db, dw, dr, sr, ct⟩ := trunks_law (c := nm) hk1 hk2 hbig
    have lw : (us ++ vs).length ≤ 2000 := by rw [List.length_append]; omega
    have aw : ∀ m ∈ us ++ vs, m.args.length ≤ 1000 := fun m hm => (List.mem_append.1 hm).elim (ha1 m) (ha2 m)
    have lp := trunk_len us 0
    have lq := trunk_len vs 0
    have ap : ∀ m ∈ trunk 0 us, m.args.length ≤ 1000 := fun m hm => ha1 m (trunk_mem us 0 m hm)
    have aq : ∀ m ∈ trunk 0 vs, m.args.length ≤ 1000 := fun m hm => ha2 m (trunk_mem vs 0 m hm)
    have ar : ∀ m ∈ trunk 0 us ++ trunk 0 vs, m.args.length ≤ 1000 := fun m hm => (List.mem_append.1 hm).elim (ap m) (aq m)
    have cu := countF_le nm us
    have cv := countF_le nm vs
    obtain ⟨nu, hnu⟩ : ∃ n : Int, (countF nm us : Int) = n := ⟨_, rfl⟩
    obtain ⟨nv, hnv⟩ : ∃ n : Int, (countF nm vs : Int) = n := ⟨_, rfl⟩
    have hnw : (countF nm (us ++ vs) : Int) = nu + nv := by rw [ct]; omega
    have bu : 0 ≤ nu ∧ nu ≤ 2000 := by omega
    have bv : 0 ≤ nv ∧ nv ≤ 2000 := by omega
    obtain ⟨W, hW⟩ : ∃ W, us ++ vs = W := ⟨_, rfl⟩
    obtain ⟨P, hP⟩ : ∃ P, trunk 0 us = P := ⟨_, rfl⟩
    obtain ⟨Q, hQ⟩ : ∃ Q, trunk 0 vs = Q := ⟨_, rfl⟩
    obtain ⟨X, hX⟩ : ∃ X, deep 0 0 us = X := ⟨_, rfl⟩
    obtain ⟨Y, hY⟩ : ∃ Y, deep 0 0 vs = Y := ⟨_, rfl⟩
    rw [hW] at lw aw hnw pw dw hjc
    rw [hP] at pa pw pj dr sr ar ap lp
    rw [hQ] at pb pw pj dr sr ar aq lq
    rw [hX] at da dw
    rw [hY] at db dw
    obtain ⟨R, hR⟩ : ∃ R, P ++ Q = R := ⟨_, rfl⟩
    rw [hR] at pw pj dr sr ar
    clear ct
    have lp' : P.length ≤ 10000 := by omega
    have lq' : Q.length ≤ 10000 := by omega
    have Hjc := Lib.hid hjc; clear hjc
    have Hk1 := Lib.hid hk1; clear hk1
    have Hk2 := Lib.hid hk2; clear hk2
    have Hg1 := Lib.hid hg1; clear hg1
    have Hg2 := Lib.hid hg2; clear hg2
    have Ha1 := Lib.hid ha1; clear ha1
    have Ha2 := Lib.hid ha2; clear ha2
    have Pa := Lib.hid pa; clear pa
    have Pb := Lib.hid pb; clear pb
    have Pw := Lib.hid pw; clear pw
    have Pj := Lib.hid pj; clear pj
    have Da := Lib.hid da; clear da
    have Db := Lib.hid db; clear db
    have Dw := Lib.hid dw; clear dw
    have Dr := Lib.hid dr; clear dr
    have Sr := Lib.hid sr; clear sr
    have Aw := Lib.hid aw; clear aw
    have Ap := Lib.hid ap; clear ap
    have Aq := Lib.hid aq; clear aq
    have Ar := Lib.hid ar; clear ar
    have Hnu := Lib.hid hnu; clear hnu
    have Hnv := Lib.hid hnv; clear hnv
    have Hnw := Lib.hid hnw; clear hnw
    have HW := Lib.hid hW; clear hW
    have HP := Lib.hid hP; clear hP
    have HQ := Lib.hid hQ; clear hQ
    have HX := Lib.hid hX; clear hX
    have HY := Lib.hid hY; clear hY
    have HR := Lib.hid hR; clear hR
    clear cu cv
    go_enter Tryd.func7, Tryd.ntmps7
    go_wp2_with fail
    refine (valid_calls A c us w H.out).mono ?_
    rintro e w1 ⟨rfl, b1⟩
    rw [hv]
    have T1 := Lib.hid b1; clear b1
    go_wp2_with fail
    refine (valid_calls B cb vs w1 (H1.out.later T1.out)).mono ?_
    rintro e w2 ⟨rfl, b2⟩
    rw [hv2]
    have T2 := Lib.hid (T1.out.trans (b2.mono T1.out.size)); clear b2
    clear hv hv2
    go_wp2_with fail
    refine (Hjc.out w2 T2.out).mono ?_
    rintro e w3 ⟨A3, c3, rfl, o3, b3⟩
    have T3 := Lib.hid (T2.out.trans (b3.mono T2.out.size))
    have S3 := Lib.hid (ownF_sl o3); clear b3 o3
    have p4 := strip_calls A c us w3 (H.out.later T3.out) Ha1.out
    unfold StripPost at p4
    rw [Pa.out] at p4
    have P4 := Lib.hid p4; clear p4
    go_wp2_with fail
    refine P4.out.mono ?_
    rintro e w4 ⟨A4, c4, rfl, o4, b4⟩
    have T4 := Lib.hid (T3.out.trans (b4.mono T3.out.size))
    have S34 := Lib.hid (S3.out.later b4)
    have S4 := Lib.hid (ownF_sl o4); clear b4 o4 S3
    have p5 := strip_calls B cb vs w4 (H1.out.later T4.out) Ha2.out
    unfold StripPost at p5
    rw [Pb.out] at p5
    have P5 := Lib.hid p5; clear p5
    go_wp2_with fail
    refine P5.out.mono ?_
    rintro e w5 ⟨A5, c5, rfl, o5, b5⟩
    have T5 := Lib.hid (T4.out.trans (b5.mono T4.out.size))
    have S35 := Lib.hid (S34.out.later b5)
    have S45 := Lib.hid (S4.out.later b5)
    have S5 := Lib.hid (ownF_sl o5); clear b5 o5 S34 S4
    have p6 := strip_calls A3 c3 W w5 S35.out Aw.out
    unfold StripPost at p6
    rw [Pw.out] at p6
    have P6 := Lib.hid p6; clear p6
    go_wp2_with fail
    refine P6.out.mono ?_
    rintro e w6 ⟨A6, c6, rfl, o6, b6⟩
    have T6 := Lib.hid (T5.out.trans (b6.mono T5.out.size))
    have S36 := Lib.hid (S35.out.later b6)
    have S46 := Lib.hid (S45.out.later b6)
    have S56 := Lib.hid (S5.out.later b6)
    have S6 := Lib.hid (ownF_sl o6); clear b6 o6 S35 S45 S5
    have p7 := join_calls A4 A5 c4 c5 P Q w6 S46.out S56.out lp' lq' Ap.out Aq.out
    unfold JoinPost at p7
    rw [Pj.out] at p7
    have P7 := Lib.hid p7; clear p7
    go_wp2_with fail
    refine P7.out.mono ?_
    rintro e w7 ⟨A7, c7, rfl, o7, b7⟩
    have T7 := Lib.hid (T6.out.trans (b7.mono T6.out.size))
    have S37 := Lib.hid (S36.out.later b7)
    have S67 := Lib.hid (S6.out.later b7)
    have S7 := Lib.hid (ownF_sl o7); clear b7 o7 S36 S6 S46 S56
    have p8 := depth_calls A c us w7 (H.out.later T7.out)
    rw [Da.out] at p8
    have P8 := Lib.hid p8; clear p8
    go_wp2_with fail
    refine P8.out.mono ?_
    rintro e w8 ⟨rfl, b8⟩
    have T8 := Lib.hid (T7.out.trans (b8.mono T7.out.size))
    have S38 := Lib.hid (S37.out.later b8)
    have S68 := Lib.hid (S67.out.later b8)
    have S78 := Lib.hid (S7.out.later b8); clear b8 S37 S67 S7
    have p9 := depth_calls B cb vs w8 (H1.out.later T8.out)
    rw [Db.out] at p9
    have P9 := Lib.hid p9; clear p9
    go_wp2_with fail
    refine P9.out.mono ?_
    rintro e w9 ⟨rfl, b9⟩
    have T9 := Lib.hid (T8.out.trans (b9.mono T8.out.size))
    have S39 := Lib.hid (S38.out.later b9)
    have S69 := Lib.hid (S68.out.later b9)
    have S79 := Lib.hid (S78.out.later b9); clear b9 S38 S68 S78
    have p10 := depth_calls A3 c3 W w9 S39.out
    rw [Dw.out] at p10
    have P10 := Lib.hid p10; clear p10
    go_wp2_with fail
    refine P10.out.mono ?_
    rintro e w10 ⟨rfl, b10⟩
    have T10 := Lib.hid (T9.out.trans (b10.mono T9.out.size))
    have S310 := Lib.hid (S39.out.later b10)
    have S610 := Lib.hid (S69.out.later b10)
    have S710 := Lib.hid (S79.out.later b10); clear b10 S39 S69 S79
    have p11 := depth_calls A6 c6 R w10 S610.out
    rw [Dr.out] at p11
    have P11 := Lib.hid p11; clear p11
    go_wp2_with fail
    refine P11.out.mono ?_
    rintro e w11 ⟨rfl, b11⟩
    have T11 := Lib.hid (T10.out.trans (b11.mono T10.out.size))
    have S311 := Lib.hid (S310.out.later b11)
    have S611 := Lib.hid (S610.out.later b11)
    have S711 := Lib.hid (S710.out.later b11); clear b11 S310 S610 S710
    have p12 := strip_calls A6 c6 R w11 S611.out Ar.out
    unfold StripPost at p12
    rw [Sr.out] at p12
    have P12 := Lib.hid p12; clear p12
    go_wp2_with fail
    refine P12.out.mono ?_
    rintro e w12 ⟨A12, c12, rfl, o12, b12⟩
    have T12 := Lib.hid (T11.out.trans (b12.mono T11.out.size))
    have S312 := Lib.hid (S311.out.later b12)
    have S612 := Lib.hid (S611.out.later b12)
    have S712 := Lib.hid (S711.out.later b12)
    have S12 := Lib.hid (ownF_sl o12); clear b12 o12 S311 S611 S711
    have p13 := wordSame_calls A6 A7 c6 c7 R R w12 S612.out S712.out
    rw [beq_self_eq_true] at p13
    have P13 := Lib.hid p13; clear p13
    go_wp2_with fail
    refine P13.out.mono ?_
    rintro e w13 ⟨rfl, b13⟩
    have T13 := Lib.hid (T12.out.trans (b13.mono T12.out.size))
    have S313 := Lib.hid (S312.out.later b13)
    have S613 := Lib.hid (S612.out.later b13)
    have S1213 := Lib.hid (S12.out.later b13); clear b13 S312 S612 S712 S12
    have p14 := wordSame_calls A12 A6 c12 c6 R R w13 S1213.out S613.out
    rw [beq_self_eq_true] at p14
    have P14 := Lib.hid p14; clear p14
    have emx : (max X Y == max X Y) = true := beq_self_eq_true _
    go_wp2_with fail
    refine P14.out.mono ?_
    rintro e w14 ⟨rfl, b14⟩
    have T14 := Lib.hid (T13.out.trans (b14.mono T13.out.size))
    have S314 := Lib.hid (S313.out.later b14); clear b14 S313 S613 S1213
    have p15 := count_calls A3 c3 W nm w14 S314.out
    rw [Hnw.out] at p15
    have P15 := Lib.hid p15; clear p15
    go_wp2_with fail
    refine P15.out.mono ?_
    rintro e w15 ⟨rfl, b15⟩
    have T15 := Lib.hid (T14.out.trans (b15.mono T14.out.size)); clear b15
    have p16 := count_calls A c us nm w15 (H.out.later T15.out)
    rw [Hnu.out] at p16
    have P16 := Lib.hid p16; clear p16
    go_wp2_with fail
    refine P16.out.mono ?_
    rintro e w16 ⟨rfl, b16⟩
    have T16 := Lib.hid (T15.out.trans (b16.mono T15.out.size)); clear b16
    have p17 := count_calls B cb vs nm w16 (H1.out.later T16.out)
    rw [Hnv.out] at p17
    have P17 := Lib.hid p17; clear p17
    go_wp2_with fail
    refine P17.out.mono ?_
    rintro e w17 ⟨rfl, b17⟩
    have T17 := Lib.hid (T16.out.trans (b17.mono T16.out.size)); clear b17
    have esum : (nu + nv == nu + nv) = true := beq_self_eq_true _
    go_wp2_with fail
    refine (Out.out w17 T17.out).mono ?_
    rintro e w18 ⟨rfl, b18⟩
    go_wp2
    go_ret
    exact ⟨rfl, b18.out⟩
end Go.Proofs.YtnhdjcdipnginaaDoor
