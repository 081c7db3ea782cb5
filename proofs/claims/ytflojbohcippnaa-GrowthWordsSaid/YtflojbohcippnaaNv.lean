/-
  GrowthWords, the walk of the law: it returns true.
-/
import Derived.Test.YtflojbohcippnaaNu
import Derived.Test.YtflojbohcippnaaNq
import Derived.Test.YtflojbohcippnaaRu
import Derived.BigQuiet
import Derived.Lib.QuietBelow
namespace Go.Proofs.Ytflojbohcippnaa
open Go.RowKit Go.Sort Go.BigFrame

set_option maxRecDepth 100000 in
set_option maxHeartbeats 1000000 in
theorem count_calls (A : Option Addr) (c : Nat) (ms : List Mod) (nm : Int) (w : World) (h : SlAt pMod (Old w) w A c ms) :
    Calls Try.prog 10 #[.slice A ms.length c, .int .u8 nm] w (IntPost (countF nm ms) w) := by
  have hmx := h.lenle
  have H := Lib.hid h; clear h
  go_enter Try.func10, Try.ntmps10
  go_wp2
  go_loopw [10, 5] (fun i n wr => ∃ k q : Nat, k ≤ ms.length ∧ q ≤ k ∧ i = .int .i64 k ∧ n = .int .i64 q ∧ Hid (countF nm ms = q + countF nm (ms.drop k)) ∧ Hid (Below w.heap.size w wr)) (fun i _ _ => ms.length - (intOf i).toNat)
  case atStart => exact ⟨0, 0, Nat.zero_le _, Nat.le_refl _, rfl, rfl, by unfold Hid; simp, Below.refl _ _⟩
  case round =>
    obtain ⟨k, q, hk, hq, rfl, rfl, hc, hb⟩ := hrel
    obtain ⟨wo, rfl⟩ : ∃ wo : World, wo = wr := ⟨_, rfl⟩
    by_cases hlt : k < ms.length
    · obtain ⟨b, o, A', c', m, hd, rfl, _, hx0, hx1, _, _, _⟩ := (H.out.below hb.out).getMod hlt
      cases hn : (m.name == nm)
      · go_wp2
        go_roundw
        case rel =>
          refine ⟨k + 1, q, by omega, by omega, by go_num, rfl, ?_, hb.out.alloc hb.out.size _⟩
          unfold Hid; rw [hc.out, hd.out]; unfold countF; rw [List.countP_cons, hn]; simp
        case measure => simp [intOf]; omega
      · go_wp2
        go_roundw
        case rel =>
          refine ⟨k + 1, q + 1, by omega, by omega, by go_num, by go_num, ?_, hb.out.alloc hb.out.size _⟩
          unfold Hid; rw [hc.out, hd.out]; unfold countF; rw [List.countP_cons, hn]; simp; omega
        case measure => simp [intOf]; omega
    · go_wp2
      go_ret
      exact ⟨ret_int (by rw [hc.out, drop_end hlt]; simp [countF]), hb.out⟩
theorem great_noG {ms : List Mod} (h : greatF ms = false) : ms.length ≤ 10000 := by
  unfold greatF at h
  rw [Bool.or_eq_false_iff] at h
  have := of_decide_eq_false h.1
  omega

set_option maxRecDepth 100000 in
set_option maxHeartbeats 8000000 in
theorem growthWords_walk (A : Option Addr) (c : Nat) (rs : List Rul) (p : ByteArray) (B : Option Addr) (cb : Nat) (us : List Mod) (n : Int) (w : World) (h : SlAt pRul (Old w) w A c rs) (h1 : SlAt pMod (Old w) w B cb us) (hn : Fits .i64 n) :
    Calls Try.prog 3 #[.slice A rs.length c, .string p, .slice B us.length cb, .int .i64 n] w (OkPost w) := by
  have hmx := h.lenle
  have hmy := h1.lenle
  have hn' := hn.i64
  have H := Lib.hid h; clear h
  have H1 := Lib.hid h1; clear h1
  have out : ∀ (W : World), Below w.heap.size w W → Calls Try.prog 6 #[] W fun e W' => e = .returned (.bool true) ∧ Hid (Below w.heap.size w W') := fun W hW => (alive_calls W).mono fun e W' hh => ⟨hh.1, hW.trans (hh.2.mono hW.size)⟩
  have Out := Lib.hid out; clear out
  cases hv : validF rs p
  · go_enter Try.func3, Try.ntmps3
    go_wp2_with fail
    refine (valid_calls A c rs p w H.out).mono ?_
    rintro e w1 ⟨rfl, b1⟩
    rw [hv]
    go_wp2_with fail
    refine (Out.out w1 b1).mono ?_
    rintro e w2 ⟨rfl, b2⟩
    go_wp2
    go_ret
    exact ⟨rfl, b2.out⟩
  obtain ⟨hs, hp, hk⟩ := validF_yes hv
  cases hg1 : greatF us
  rotate_left
  · have Hs := Lib.hid hs; clear hs
    have Hk := Lib.hid hk; clear hk
    go_enter Try.func3, Try.ntmps3
    go_wp2_with fail
    refine (valid_calls A c rs p w H.out).mono ?_
    rintro e w1 ⟨rfl, b1⟩
    rw [hv]
    have T1 := Lib.hid b1; clear b1
    go_wp2_with fail
    refine (great_calls B cb us w1 (H1.out.later T1.out)).mono ?_
    rintro e w' ⟨rfl, rfl⟩
    rw [hg1]
    go_wp2_with fail
    refine (Out.out _ T1.out).mono ?_
    rintro e w7 ⟨rfl, b7⟩
    go_wp2
    go_ret
    exact ⟨rfl, b7.out⟩
  by_cases hrange : n < 0 ∨ (¬ n < 0 ∧ 6 < n)
  · have Hs := Lib.hid hs; clear hs
    have Hk := Lib.hid hk; clear hk
    rcases hrange with hr | ⟨hr, hr2⟩
    all_goals
      go_enter Try.func3, Try.ntmps3
      go_wp2_with fail
      refine (valid_calls A c rs p w H.out).mono ?_
      rintro e w1 ⟨rfl, b1⟩
      rw [hv]
      have T1 := Lib.hid b1; clear b1
      go_wp2_with fail
      refine (great_calls B cb us w1 (H1.out.later T1.out)).mono ?_
      rintro e w' ⟨rfl, rfl⟩
      rw [hg1]
      go_wp2_with fail
      refine (Out.out _ T1.out).mono ?_
      rintro e w7 ⟨rfl, b7⟩
      go_wp2
      go_ret
      exact ⟨rfl, b7.out⟩
  obtain ⟨N, rfl⟩ := Int.eq_ofNat_of_zero_le (show 0 ≤ n by omega)
  have hN : N ≤ 6 := by omega
  clear hrange hn'
  have h0 : ¬ (N : Int) < 0 := by omega
  have h6 : ¬ (6 : Int) < (N : Int) := by omega
  have hlaw := words_law (ms := us) hs hk hN
  have hcx := counts_pos (p := p) (ms := us) (n := (N : Int)) hs
  have Hs := Lib.hid hs; clear hs
  have Hk := Lib.hid hk; clear hk
  have Hlaw := Lib.hid hlaw; clear hlaw
  have Hcx := Lib.hid hcx; clear hcx
  go_enter Try.func3, Try.ntmps3
  go_wp2_with fail
  refine (valid_calls A c rs p w H.out).mono ?_
  rintro e w1 ⟨rfl, b1⟩
  rw [hv]
  have T1 := Lib.hid b1; clear b1
  go_wp2_with fail
  refine (great_calls B cb us w1 (H1.out.later T1.out)).mono ?_
  rintro e w' ⟨rfl, rfl⟩
  rw [hg1]
  clear hg1 hv
  have hcn := gCounts_calls A c rs p B cb us (N : Int) w1 (H.out.later T1.out) Hs.out hp (H1.out.later T1.out) hn
  have Hcn := Lib.hid hcn; clear hcn
  go_wp2_with fail
  refine Hcn.out.mono ?_
  rintro e w2 ⟨A2, c2, rfl, b2, s2⟩
  have T2 := Lib.hid (T1.out.trans (b2.mono T1.out.size))
  have S2 := Lib.hid (sl_old s2.out fun q hq => hq.2)
  clear b2 s2
  have hln := gLength_calls A c rs p B cb us (N : Int) w2 (H.out.later T2.out) Hs.out hp (H1.out.later T2.out) hn
  have Hln := Lib.hid hln; clear hln
  go_wp2_with fail
  refine Hln.out.mono ?_
  rintro e w3 ⟨rfl, b3⟩
  have T3 := Lib.hid (T2.out.trans (b3.mono T2.out.size))
  have S3 := Lib.hid (S2.out.later b3)
  clear b3 S2
  have hrn := rRun_calls A c rs B cb us (N : Int) w3 (H.out.later T3.out) (H1.out.later T3.out) Hs.out hn
  have Hrn := Lib.hid hrn; clear hrn
  go_wp2_with fail
  refine Hrn.out.mono ?_
  rintro e w4 ⟨A4, c4, rfl, o4, b4⟩
  have T4 := Lib.hid (T3.out.trans (b4.mono T3.out.size))
  have S4 := Lib.hid (S3.out.later b4)
  have V4 : Hid (SlAt pMod (Old w4) w4 A4 c4 (rRunF rs us (N : Int)).1) := by
    obtain ⟨A3, c3, hv3, h3⟩ := o4.fresh
    simp only [Value.slice.injEq] at hv3
    obtain ⟨rfl, _, rfl⟩ := hv3
    exact slAt_modF (sl_old h3 fun q hq => hq.2)
  clear o4 b4 S3 Hcn Hln Hrn
  obtain ⟨⟨x, ef⟩, hxe⟩ : ∃ r, countsF rs p us (N : Int) = r := ⟨_, rfl⟩
  obtain ⟨⟨v, eg⟩, hve⟩ : ∃ r, rRunF rs us (N : Int) = r := ⟨_, rfl⟩
  obtain ⟨⟨ln, lf⟩, hle⟩ : ∃ r, lengthF rs p us (N : Int) = r := ⟨_, rfl⟩
  rw [hxe] at S4 Hcx Hlaw ⊢
  rw [hve] at V4 Hlaw ⊢
  rw [hle]
  have hle' := hle
  have Hle' := Lib.hid hle'; clear hle'
  dsimp only at S4 V4 Hcx Hlaw ⊢
  clear hxe hve hle
  obtain ⟨hl1, hl2⟩ := Hlaw.out
  clear Hlaw
  have Hl1 := Lib.hid hl1; clear hl1
  have Hl2 := Lib.hid hl2; clear hl2
  have hlx := S4.out.lenle.1
  have hlv := V4.out.lenle.1
  by_cases hef : ef = 0
  rotate_left
  · have e0 : (ef != 0) = true := by simpa using hef
    have e0' : (ef == 0) = false := by simpa using hef
    rcases Hl1.out hef with h8 | h8
    · subst h8
      clear hef e0 e0'
      go_wp2_with fail
      refine (Out.out _ T4.out).mono ?_
      rintro e w7 ⟨rfl, b7⟩
      go_wp2
      go_ret
      exact ⟨rfl, b7.out⟩
    · subst h8
      by_cases h8 : ef = 8
      · subst h8
        clear hef e0 e0'
        go_wp2_with fail
        refine (Out.out _ T4.out).mono ?_
        rintro e w7 ⟨rfl, b7⟩
        go_wp2
        go_ret
        exact ⟨rfl, b7.out⟩
      · have e8 : (ef == 8) = false := by simpa using h8
        have ee : (ef == ef) = true := beq_self_eq_true ef
        clear hef h8
        go_wp2_with fail
        refine (Out.out _ T4.out).mono ?_
        rintro e w7 ⟨rfl, b7⟩
        go_wp2
        go_ret
        exact ⟨rfl, b7.out⟩
  subst hef
  by_cases heg : eg = 0
  rotate_left
  · have e0 : (eg != 0) = true := by simpa using heg
    clear heg
    go_wp2_with fail
    refine (Out.out _ T4.out).mono ?_
    rintro e w7 ⟨rfl, b7⟩
    go_wp2
    go_ret
    exact ⟨rfl, b7.out⟩
  subst heg
  obtain ⟨hx, hxl, hp12⟩ := Hcx.out rfl
  obtain ⟨hwl, hwa, hwg, hws⟩ := Hl2.out rfl rfl
  clear Hcx Hl1 Hl2
  obtain ⟨rfl, rfl⟩ : ln = sumF x ∧ lf = 0 := by
    have := Hle'.out.symm.trans hwg
    simpa using this
  clear hwg Hle' hwl
  have hsx := sumF_bd hx
  have hsb : 0 ≤ sumF x ∧ sumF x ≤ 100000000000000000 := by
    refine ⟨hsx.1, ?_⟩
    have : (x.length : Int) ≤ 12 := by omega
    omega
  clear hsx
  have Hx := Lib.hid hx; clear hx
  have Hxl := Lib.hid hxl; clear hxl
  have Hwa := Lib.hid hwa; clear hwa
  go_wp2
  go_loopw [16, 15] (fun i s wr => ∃ k : Nat, k ≤ p.size ∧ i = .int .i64 k ∧ ∃ sv, s = .int .i64 sv ∧ Hid (sv = sumF (x.take k)) ∧ Hid (Below w4.heap.size w4 wr)) (fun i _ _ => p.size - (intOf i).toNat)
  case atStart => exact ⟨0, Nat.zero_le _, rfl, 0, rfl, rfl, Below.refl _ _⟩
  case round =>
    obtain ⟨k, hk, rfl, sv, rfl, hsv, hb⟩ := hrel
    obtain ⟨wo, rfl⟩ : ∃ wo : World, wo = wr := ⟨_, rfl⟩
    by_cases hlt : k < p.size
    · have hltx : k < x.length := by rw [Hxl.out]; exact hlt
      obtain ⟨b1, o1, vx, hdx, rfl, _, hc1, _⟩ := (S4.out.later hb.out).getI hltx
      obtain ⟨cc, hcc, hcv⟩ := Hwa.out k hlt
      have hcc2 : cc = (p[k].toNat : Int) := by
        have h2 := drop_bytesI hlt
        have h3 := get_of_drop h2
        rw [hcc] at h3
        exact Option.some.inj h3
      subst hcc2
      rw [getD_of_drop hdx.out] at hcv
      have hcnt : ∀ W, Below wo.heap.size wo W → Calls Try.prog 10 #[.slice A4 v.length c4, .int .u8 (p[k].toNat : Int)] W (IntPost vx W) := fun W hW => by
        have := count_calls A4 c4 v (p[k].toNat : Int) W ((V4.out.later hb.out).later hW)
        rwa [← hcv] at this
      have hcR : ∀ (q : Nat) (os : Array Obj), Calls Try.prog 10 #[.slice A4 v.length c4, .int .u8 (p[k].toNat : Int)] (grow (redrawn wo q) os) fun e w'' => e = .returned (.int .i64 vx) ∧ ∃ p : Regrown, w'' = grow (redrawn wo p.d) p.os := fun q os =>
        Calls.regrown_of (hcnt _ (below_regrown wo q os))
      have htk := sumF_take hdx.out
      have hvx := Hx.out.getD k
      rw [getD_of_drop hdx.out] at hvx
      have hpt := Hx.out.take k
      have hst := sumF_bd hpt
      have hlt12 : ((x.take k).length : Int) ≤ 12 := by rw [List.length_take]; omega
      rw [← hsv.out] at hst
      have hfits : 0 ≤ sv ∧ sv ≤ 100000000000000000 := ⟨hst.1, by omega⟩
      have e1 : (vx != vx) = false := bne_self_eq_false vx
      have eg : decide (x.length ≤ k) = false := decide_eq_false (by omega)
      have y1 := cell_regrown hc1
      have hb0 := hb
      clear hcv hcnt hst hlt12 hpt hc1
      have HcR := Lib.hid hcR; clear hcR
      have Htk := Lib.hid htk; clear htk
      go_wp2
      refine wp_region_quiet_below (by kernel_rfl) (by kernel_rfl) ?_
      iterate 16 (go_big_quiet_step (exact (HcR.out _ _).mono fun e w'' h => h))
      refine wpQuiet_nil ?_
      intro _ hw'
      obtain ⟨⟨dq, osq⟩, hw''⟩ := hw'
      subst hw''
      have hbr := below_regrown wo dq osq
      have hb2 := hb0.out.trans (hbr.mono hb0.out.size)
      have y2 := y1 dq osq
      have Hb2 := Lib.hid hb2; clear hb2
      have Hbr := Lib.hid hbr; clear hbr
      clear y1
      go_wp2
      go_roundw
      case rel => exact ⟨k + 1, by omega, by go_num, sv + vx, by go_num, by unfold Hid; rw [Htk.out, ← hsv.out], Hb2⟩
      case measure => simp [intOf]; omega
    · obtain rfl : sv = sumF x := by rw [hsv.out, List.take_of_length_le (by rw [Hxl.out]; omega)]
      have hb0 := T4.out.trans (hb.out.mono T4.out.size)
      have v1 := V4.out.later hb.out
      have hc1 := count_calls A4 c4 v 91 wo v1
      have hc2 := fun W (hW : Below wo.heap.size wo W) => count_calls A4 c4 v 93 W (v1.later hW)
      obtain ⟨n1, hn1⟩ : ∃ n1 : Int, (countF 91 v : Int) = n1 := ⟨_, rfl⟩
      obtain ⟨n2, hn2⟩ : ∃ n2 : Int, (countF 93 v : Int) = n2 := ⟨_, rfl⟩
      have hn10 : 0 ≤ n1 := by omega
      have hn20 : 0 ≤ n2 := by omega
      rw [hn1] at hc1
      rw [hn2] at hc2
      have hws2 : sumF x + (n1 + n2) = (v.length : Int) := by rw [← hws]; omega
      clear hn1 hn2 hws hsv hb
      obtain ⟨sx, hsx⟩ : ∃ sx, sumF x = sx := ⟨_, rfl⟩
      rw [hsx] at hws2 hsb ⊢
      clear hsx
      have e9 : (sx + (n1 + n2) == (v.length : Int)) = true := by simpa using hws2
      have e8 : (sx == sx) = true := beq_self_eq_true sx
      have hb1 : n1 ≤ 9223372036854775807 ∧ n2 ≤ 9223372036854775807 ∧ n1 + n2 ≤ 9223372036854775807 ∧ sx + (n1 + n2) ≤ 9223372036854775807 := by omega
      have Hc1 := Lib.hid hc1; clear hc1
      have Hc2 := Lib.hid hc2; clear hc2
      have Hb0 := Lib.hid hb0; clear hb0
      have Hws2 := Lib.hid hws2; clear hws2
      have V1 := Lib.hid v1; clear v1
      go_wp2_with fail
      refine Hc1.out.mono ?_
      rintro e w5 ⟨rfl, b5⟩
      have T5 := Lib.hid (Hb0.out.trans (b5.mono Hb0.out.size))
      have T6 := Lib.hid b5; clear b5
      go_wp2_with fail
      refine (Hc2.out w5 T6.out).mono ?_
      rintro e w6 ⟨rfl, b6⟩
      have T7 := Lib.hid (T5.out.trans (b6.mono T5.out.size)); clear b6
      go_wp2_with fail
      refine (Out.out _ T7.out).mono ?_
      rintro e w7 ⟨rfl, b7⟩
      go_wp2
      go_ret
      exact ⟨rfl, b7.out⟩
end Go.Proofs.Ytflojbohcippnaa
