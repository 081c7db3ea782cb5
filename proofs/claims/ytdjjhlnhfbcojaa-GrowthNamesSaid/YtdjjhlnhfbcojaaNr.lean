/-
  GrowthSums, the walk of the law: it returns true.
-/
import Derived.Test.YtdjjhlnhfbcojaaNq
import Derived.Test.YtdjjhlnhfbcojaaOp
namespace Go.Proofs.Ytdjjhlnhfbcojaa
open Go.RowKit Go.Sort

theorem great_mods {ms : List Mod} (h : greatF ms = false) : ms.length ≤ 10000 ∧ ∀ m ∈ ms, m.args.length ≤ 1000 := by
  unfold greatF at h
  rw [Bool.or_eq_false_iff, List.any_eq_false] at h
  exact ⟨by have := h.1; simp at this; omega, fun m hm => by have := h.2 m hm; simp at this; omega⟩

set_option maxRecDepth 100000 in
set_option maxHeartbeats 8000000 in
theorem growthSums_walk (A : Option Addr) (c : Nat) (rs : List Rul) (p : ByteArray) (B : Option Addr) (cb : Nat) (us : List Mod) (C : Option Addr) (cc : Nat) (vs : List Mod) (n : Int) (w : World) (h : SlAt pRul (Old w) w A c rs) (h1 : SlAt pMod (Old w) w B cb us) (h2 : SlAt pMod (Old w) w C cc vs) (hn : Fits .i64 n) :
    Calls Try.prog 5 #[.slice A rs.length c, .string p, .slice B us.length cb, .slice C vs.length cc, .int .i64 n] w (OkPost w) := by
  have hmx := h.lenle
  have hmy := h1.lenle
  have hmz := h2.lenle
  have H := Lib.hid h; clear h
  have H1 := Lib.hid h1; clear h1
  have H2 := Lib.hid h2; clear h2
  have out : ∀ (W : World), Below w.heap.size w W → Calls Try.prog 25 #[] W fun e W' => e = .returned (.bool true) ∧ Hid (Below w.heap.size w W') := fun W hW => (alive_calls W).mono fun e W' hh => ⟨hh.1, hW.trans (hh.2.mono hW.size)⟩
  have Out := Lib.hid out; clear out
  cases hv : validF rs p
  · go_enter Try.func5, Try.ntmps5
    go_wp2_with fail
    refine (valid_calls A c rs p w H.out).mono ?_
    rintro e w1 ⟨rfl, b1⟩
    rw [hv]
    go_wp2_with fail
    refine (Out.out w1 b1).mono ?_
    rintro e w2 ⟨rfl, b2⟩
    go_wp2
    go_ret
    exact ⟨rfl, b2.out⟩
  · obtain ⟨hs, hp, hk⟩ := validF_yes hv
    cases hg1 : greatF us
    · cases hg2 : greatF vs
      · obtain ⟨ha1, ha2⟩ := great_mods hg1
        obtain ⟨hb1, hb2⟩ := great_mods hg2
        have hlaw := fun hj => sums_law (a := us) (b := vs) (n := n) hs hk hj
        have hcx := counts_pos (p := p) (ms := us) (n := n) hs
        have hcy := counts_pos (p := p) (ms := vs) (n := n) hs
        have Hs := Lib.hid hs; clear hs
        have Hk := Lib.hid hk; clear hk
        have Ha2 := Lib.hid ha2; clear ha2
        have Hb2 := Lib.hid hb2; clear hb2
        have Hlaw := Lib.hid hlaw; clear hlaw
        have Hcx := Lib.hid hcx; clear hcx
        have Hcy := Lib.hid hcy; clear hcy
        go_enter Try.func5, Try.ntmps5
        go_wp2_with fail
        refine (valid_calls A c rs p w H.out).mono ?_
        rintro e w1 ⟨rfl, b1⟩
        rw [hv]
        have T1 := Lib.hid b1; clear b1
        go_wp2_with fail
        refine (great_calls B cb us w1 (H1.out.later T1.out)).mono ?_
        rintro e w' ⟨rfl, rfl⟩
        rw [hg1]
        go_wp2_with fail
        refine (great_calls C cc vs w1 (H2.out.later T1.out)).mono ?_
        rintro e w' ⟨rfl, rfl⟩
        rw [hg2]
        clear hg1 hg2 hv
        go_wp2_with fail
        refine (join_calls B C cb cc us vs w1 (H1.out.later T1.out) (H2.out.later T1.out) ha1 hb1 Ha2.out Hb2.out).mono ?_
        rintro e w2 ⟨A2, c2, rfl, o2, b2⟩
        have T2 := Lib.hid (T1.out.trans (b2.mono T1.out.size))
        have S2 : Hid (SlAt pMod (Old w2) w2 A2 c2 (joinRes us vs).1) := by
          obtain ⟨A3, c3, hv3, h3⟩ := o2.fresh
          simp only [Value.slice.injEq] at hv3
          obtain ⟨rfl, _, rfl⟩ := hv3
          exact slAt_modF (sl_old h3 fun q hq => hq.2)
        have hj2 : (joinRes us vs).1.length ≤ 9223372036854775807 := S2.out.lenle.1
        clear o2 b2
        obtain ⟨⟨js, ej⟩, hje⟩ : ∃ r, joinRes us vs = r := ⟨_, rfl⟩
        rw [hje] at S2 hj2 Hlaw ⊢
        dsimp only at S2 hj2 Hlaw ⊢
        clear hje
        go_wp2_with fail
        refine (gCounts_calls A c rs p B cb us n w2 (H.out.later T2.out) Hs.out hp (H1.out.later T2.out) hn).mono ?_
        rintro e w3 ⟨A3, c3, rfl, b3, s3⟩
        have T3 := Lib.hid (T2.out.trans (b3.mono T2.out.size))
        have S3 := Lib.hid (sl_old s3.out fun q hq => hq.2)
        have S23 := Lib.hid (S2.out.later b3)
        clear b3 s3 S2
        go_wp2_with fail
        refine (gCounts_calls A c rs p C cc vs n w3 (H.out.later T3.out) Hs.out hp (H2.out.later T3.out) hn).mono ?_
        rintro e w4 ⟨A4, c4, rfl, b4, s4⟩
        have T4 := Lib.hid (T3.out.trans (b4.mono T3.out.size))
        have S4 := Lib.hid (sl_old s4.out fun q hq => hq.2)
        have S24 := Lib.hid (S23.out.later b4)
        have S34 := Lib.hid (S3.out.later b4)
        clear b4 s4 S23 S3
        go_wp2_with fail
        refine (gCounts_calls A c rs p A2 c2 js n w4 (H.out.later T4.out) Hs.out hp S24.out hn).mono ?_
        rintro e w5 ⟨A5, c5, rfl, b5, s5⟩
        have T5 := Lib.hid (T4.out.trans (b5.mono T4.out.size))
        have S5 := Lib.hid (sl_old s5.out fun q hq => hq.2)
        have S35 := Lib.hid (S34.out.later b5)
        have S45 := Lib.hid (S4.out.later b5)
        clear b5 s5 S34 S4 S24
        have hcz := counts_pos (p := p) (ms := js) (n := n) Hs.out
        obtain ⟨⟨x, ef⟩, hxe⟩ : ∃ r, countsF rs p us n = r := ⟨_, rfl⟩
        obtain ⟨⟨y, eg⟩, hye⟩ : ∃ r, countsF rs p vs n = r := ⟨_, rfl⟩
        obtain ⟨⟨z, eh⟩, hze⟩ : ∃ r, countsF rs p js n = r := ⟨_, rfl⟩
        rw [hxe] at S35 Hcx ⊢
        rw [hye] at S45 Hcy ⊢
        rw [hze] at S5 hcz ⊢
        rw [hxe, hye, hze] at Hlaw
        dsimp only at S35 S45 S5 Hcx Hcy hcz Hlaw ⊢
        clear hxe hye hze
        have hl3 := S35.out.lenle.1
        have hl4 := S45.out.lenle.1
        have hl5 := S5.out.lenle.1
        have Hcz := Lib.hid hcz; clear hcz
        by_cases hej : ej = 0
        · subst hej
          have hlaw := Hlaw.out rfl
          by_cases heh : eh = 0
          · subst heh
            obtain ⟨hef, heg, hadd⟩ := hlaw.1 rfl
            subst hef heg
            obtain ⟨hx, hxl, hp12⟩ := Hcx.out rfl
            obtain ⟨hy, hyl, _⟩ := Hcy.out rfl
            have hxz := hadd.lx
            have hyz := hadd.ly
            clear hxl hyl hlaw
            clear Hcx Hcy Hcz Hlaw
            have e1 : ((x.length : Int) != (z.length : Int)) = false := by simp [hxz]
            have e2 : ((y.length : Int) != (z.length : Int)) = false := by simp [hyz]
            have Hx := Lib.hid hx; clear hx
            have Hy := Lib.hid hy; clear hy
            have Hxz := Lib.hid hxz; clear hxz
            have Hyz := Lib.hid hyz; clear hyz
            have Hadd := Lib.hid hadd; clear hadd
            go_wp2
            go_loopw [19] (fun i wr => ∃ k : Nat, k ≤ z.length ∧ i = .int .i64 k ∧ ∃ q, wr = w5.drewN q) (fun i _ => z.length - (intOf i).toNat)
            case atStart => exact ⟨0, Nat.zero_le _, rfl, 0, rfl⟩
            case round =>
              obtain ⟨k, hk, rfl, q, rfl⟩ := hrel
              by_cases hlt : k < z.length
              · have hltx : k < x.length := by rw [Hxz.out]; exact hlt
                have hlty : k < y.length := by rw [Hyz.out]; exact hlt
                obtain ⟨b1, o1, vx, hdx, rfl, _, hc1, _⟩ := S35.out.getI hltx
                obtain ⟨b2, o2, vy, hdy, rfl, _, hc2, _⟩ := S45.out.getI hlty
                obtain ⟨b3, o3, vz, hdz, rfl, _, hc3, _⟩ := S5.out.getI hlt
                have hvx := Hx.out vx (mem_of_drop hdx.out)
                have hvy := Hy.out vy (mem_of_drop hdy.out)
                have hev := Hadd.out.ev k
                rw [getD_of_drop hdx.out, getD_of_drop hdy.out, getD_of_drop hdz.out] at hev
                have e3 : (vz != vx + vy) = false := by simp [hev]
                clear hev
                go_wp2
                go_quiet (fail)
                go_wp2
                go_roundw
                case rel => exact ⟨k + 1, by omega, by go_num, _, rfl⟩
                case measure => simp [intOf]; omega
              · go_wp2_with fail
                refine (Out.out _ (below_drewN T5.out _)).mono ?_
                rintro e w7 ⟨rfl, b7⟩
                go_wp2
                go_ret
                exact ⟨rfl, b7.out⟩
          · have e0 : (eh != 0) = true := by simpa using heh
            by_cases hef : ef = 0
            · subst hef
              by_cases heg : eg = 0
              · subst heg
                obtain rfl : eh = 16 := (hlaw.2 rfl rfl).resolve_left heh
                clear hlaw e0 heh
                go_wp2_with fail
                refine (Out.out _ T5.out).mono ?_
                rintro e w7 ⟨rfl, b7⟩
                go_wp2
                go_ret
                exact ⟨rfl, b7.out⟩
              · have e1 : (eg != 0) = true := by simpa using heg
                clear hlaw heg heh
                go_wp2_with fail
                refine (Out.out _ T5.out).mono ?_
                rintro e w7 ⟨rfl, b7⟩
                go_wp2
                go_ret
                exact ⟨rfl, b7.out⟩
            · have e1 : (ef != 0) = true := by simpa using hef
              clear hlaw hef heh
              go_wp2_with fail
              refine (Out.out _ T5.out).mono ?_
              rintro e w7 ⟨rfl, b7⟩
              go_wp2
              go_ret
              exact ⟨rfl, b7.out⟩
        · have e0 : (ej != 0) = true := by simpa using hej
          clear hej
          go_wp2_with fail
          refine (Out.out _ T5.out).mono ?_
          rintro e w7 ⟨rfl, b7⟩
          go_wp2
          go_ret
          exact ⟨rfl, b7.out⟩
      · have Hs := Lib.hid hs; clear hs
        have Hk := Lib.hid hk; clear hk
        go_enter Try.func5, Try.ntmps5
        go_wp2_with fail
        refine (valid_calls A c rs p w H.out).mono ?_
        rintro e w1 ⟨rfl, b1⟩
        rw [hv]
        have T1 := Lib.hid b1; clear b1
        go_wp2_with fail
        refine (great_calls B cb us w1 (H1.out.later T1.out)).mono ?_
        rintro e w' ⟨rfl, rfl⟩
        rw [hg1]
        go_wp2_with fail
        refine (great_calls C cc vs w1 (H2.out.later T1.out)).mono ?_
        rintro e w' ⟨rfl, rfl⟩
        rw [hg2]
        go_wp2_with fail
        refine (Out.out _ T1.out).mono ?_
        rintro e w7 ⟨rfl, b7⟩
        go_wp2
        go_ret
        exact ⟨rfl, b7.out⟩
    · have Hs := Lib.hid hs; clear hs
      have Hk := Lib.hid hk; clear hk
      go_enter Try.func5, Try.ntmps5
      go_wp2_with fail
      refine (valid_calls A c rs p w H.out).mono ?_
      rintro e w1 ⟨rfl, b1⟩
      rw [hv]
      have T1 := Lib.hid b1; clear b1
      go_wp2_with fail
      refine (great_calls B cb us w1 (H1.out.later T1.out)).mono ?_
      rintro e w' ⟨rfl, rfl⟩
      rw [hg1]
      go_wp2_with fail
      refine (Out.out _ T1.out).mono ?_
      rintro e w7 ⟨rfl, b7⟩
      go_wp2
      go_ret
      exact ⟨rfl, b7.out⟩
end Go.Proofs.Ytdjjhlnhfbcojaa
