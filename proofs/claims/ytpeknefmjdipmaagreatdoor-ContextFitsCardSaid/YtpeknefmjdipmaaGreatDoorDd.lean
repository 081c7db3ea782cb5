/-
  Layer 8: the walk of Run.
-/
import Derived.Test.YtpeknefmjdipmaaGreatDoorDc
import Derived.Test.YtpeknefmjdipmaaGreatDoorDb
namespace Go.Proofs.YtpeknefmjdipmaaGreatDoor
open Go.RowKit Go.Sort

def CRunPost (rs : List Rul) (p : ByteArray) (ms : List Mod) (n : Int) (w : World) (e : Ending) (w' : World) : Prop :=
  ∃ A c, e = .returned (.tuple #[.slice A (cRunF rs p ms n).1.length c, .int .i64 (cRunF rs p ms n).2]) ∧ Own pModF 27 w.heap.size (w.heap.size ≤ ·) w' (.slice A (cRunF rs p ms n).1.length c) (cRunF rs p ms n).1 ∧ Below w.heap.size w w'
set_option maxRecDepth 100000 in
set_option maxHeartbeats 1000000 in
theorem cRun_calls (A : Option Addr) (c : Nat) (rs : List Rul) (p : ByteArray) (B : Option Addr) (cb : Nat) (ms : List Mod) (n : Int) (w : World) (h : SlAt pRul (Old w) w A c rs) (h' : SlAt pMod (Old w) w B cb ms) (hs : Small rs) (hp : p.size ≤ 1000) (hn : Fits .i64 n) :
    Calls Tryz.prog 41 #[.slice A rs.length c, .string p, .slice B ms.length cb, .int .i64 n] w (CRunPost rs p ms n w) := by
  have hck := cOpen_calls A c rs B cb ms p w h h' hs hp
  have hn64 := hn.i64
  have H := Lib.hid h; clear h
  have H' := Lib.hid h'; clear h'
  have Hck := Lib.hid hck; clear hck
  have Hn := Lib.hid hn; clear hn
  go_enter Tryz.func41, Tryz.ntmps41
  go_wp2_with fail
  refine Hck.out.mono ?_
  rintro e w1 ⟨X0, n0, d0, X1, n1, d1, X2, n2, c2, X3, n3, c3, rfl, hop, hb1⟩
  have hz1 := hb1.size
  obtain ⟨w2, hw2⟩ : ∃ w2, w2 = w1.alloc (.cells #[.slice X0 n0 d0, .slice X1 n1 d1, .slice X2 n2 c2, .slice X3 n3 c3] 55) := ⟨_, rfl⟩
  have hbw2 : Below w.heap.size w w2 := by rw [hw2]; exact hb1.alloc hz1 _
  have hz2 := hbw2.size
  clear hop hb1
  go_upto_region 2 with fail
  rw [← hw2]
  have Hw2 := Lib.hid hw2; clear hw2
  by_cases hr : openC rs p ms = 0
  case neg =>
    have e0 : (openC rs p ms != 0) = true := by simp [hr]
    have hff : cRunF rs p ms n = ([], openC rs p ms) := by unfold cRunF; rw [if_neg hr]
    have Hr := Lib.hid hr; clear hr
    have Hff := Lib.hid hff; clear hff
    have Hbw2 := Lib.hid hbw2; clear hbw2
    go_wp2
    go_ret2
    exact ⟨none, 0, by rw [Hff.out]; rfl, by rw [Hff.out]; exact Own.nil, Hbw2.out⟩
  case pos =>
  have e0 : (openC rs p ms != 0) = false := by simp [hr]
  obtain ⟨hr1, hf⟩ := openC_zero hr
  have hfine := checkF_fine hf
  have hle := checkF_le hf
  have Hr := Lib.hid hr; clear hr
  have Hr1 := Lib.hid hr1; clear hr1
  by_cases hbad : n < 0
  · have hff : cRunF rs p ms n = ([], 2) := by unfold cRunF; rw [if_pos Hr.out, if_pos (.inl hbad)]
    have Hbw2 := Lib.hid hbw2; clear hbw2
    have Hff := Lib.hid hff; clear hff
    have Hf := Lib.hid hf; clear hf
    clear hfine
    go_wp2
    go_ret2
    exact ⟨none, 0, by rw [Hff.out]; rfl, by rw [Hff.out]; exact Own.nil, Hbw2.out⟩
  by_cases hbad2 : 30 < n
  · have hff : cRunF rs p ms n = ([], 2) := by unfold cRunF; rw [if_pos Hr.out, if_pos (.inr hbad2)]
    have Hbw2 := Lib.hid hbw2; clear hbw2
    have Hff := Lib.hid hff; clear hff
    have Hf := Lib.hid hf; clear hf
    clear hfine
    go_wp2
    go_ret2
    exact ⟨none, 0, by rw [Hff.out]; rfl, by rw [Hff.out]; exact Own.nil, Hbw2.out⟩
  obtain ⟨N, rfl⟩ := Int.eq_ofNat_of_zero_le (Int.not_lt.1 hbad)
  have hN : N ≤ 30 := by omega
  have hff : cRunF rs p ms (N : Int) = iterC rs p N ms := by unfold cRunF; rw [if_pos Hr.out, if_neg (by omega)]; rfl
  have htw := twin_calls B cb ms w2 (H'.out.later hbw2) (by omega) (fun m hm => by have := (fine_args (hfine m hm)).2; omega)
  have Hbw2 := Lib.hid hbw2; clear hbw2
  have Hff := Lib.hid hff; clear hff
  have Hf := Lib.hid hf; clear hf
  have Htw := Lib.hid htw; clear htw
  clear hfine
  go_wp2_with fail
  refine Htw.out.mono ?_
  rintro e w3 ⟨A3, c4, rfl, ho3, hb3⟩
  have hbw3 := Hbw2.out.trans (hb3.mono hz2)
  have hz3 := hbw3.size
  have ho3' := ho3.mono (base' := w.heap.size) (G' := (w.heap.size ≤ ·)) hz2 (fun k hk => Nat.le_trans hz2 hk)
  have Hbw3 := Lib.hid hbw3; clear hbw3
  have Ho3' := Lib.hid ho3'; clear ho3'
  clear hb3 ho3
  go_wp2
  go_loopw [32, 2] (fun i wv wr => ∃ (k : Nat) (cur : List Mod) (Ac : Option Addr) (cc : Nat), k ≤ N ∧ i = .int .i64 k ∧ wv = .slice Ac cur.length cc ∧ Hid (Below w.heap.size w wr) ∧ w.heap.size ≤ wr.heap.size ∧ Hid (iterC rs p N ms = iterC rs p (N - k) cur) ∧
    Hid (Own pModF 27 w.heap.size (w.heap.size ≤ ·) wr (.slice Ac cur.length cc) cur)) (fun i _ _ => N - (intOf i).toNat)
  case atStart => exact ⟨0, ms, A3, c4, Nat.zero_le _, rfl, rfl, Hbw3, hz3, rfl, Ho3'⟩
  case round =>
    obtain ⟨k, cur, Ac, cc, hk, rfl, rfl, hb, hsz, hit, hown⟩ := hrel
    obtain ⟨wo, rfl⟩ : ∃ wo : World, wo = wr := ⟨_, rfl⟩
    by_cases hlt : k < N
    · obtain ⟨_, _, hv, hsl⟩ := hown.out.fresh; cases hv
      have hst := cStep_calls A c rs p Ac cc cur wo (H.out.later hb.out) ((slAt_modF hsl).wide fun q hq => hq.2) hs hp
      have hit2 : iterC rs p N ms = if (cStepF rs p cur).2 = 0 then iterC rs p (N - (k + 1)) (cStepF rs p cur).1 else ([], (cStepF rs p cur).2) := by
        rw [hit.out, show N - k = (N - (k + 1)) + 1 from by omega, iterC_step]
      unfold CStepPost at hst
      obtain ⟨⟨v, ee⟩, hr1⟩ : ∃ r1, cStepF rs p cur = r1 := ⟨_, rfl⟩
      rw [hr1] at hst hit2
      simp only at hst hit2
      have Hst := Lib.hid hst; clear hst
      have Hr1 := Lib.hid hr1; clear hr1
      clear hit hsl
      go_wp2_with fail
      refine Hst.out.mono ?_
      rintro e w4 ⟨A4, c5, rfl, ho4, hb4⟩
      have hz4 := hb4.size
      have hbw4 := hb.out.trans (hb4.mono hsz)
      have hz4' := hbw4.size
      have ho4' := ho4.mono (base' := w.heap.size) (G' := (w.heap.size ≤ ·)) hsz (fun k hk => Nat.le_trans hsz hk)
      by_cases hee : ee = 0
      · subst hee
        rw [if_pos rfl] at hit2
        have Hbw4 := Lib.hid hbw4; clear hbw4
        have Ho4' := Lib.hid ho4'; clear ho4'
        have Hit2 := Lib.hid hit2; clear hit2
        clear hb4 ho4
        go_wp2
        go_roundw
        case rel => exact ⟨k + 1, v, A4, c5, hlt, by go_num, rfl, Hbw4, hz4', Hit2, Ho4'⟩
        case measure => simp [intOf]; omega
      · rw [if_neg hee] at hit2
        have e5 : (ee != 0) = true := by simp [hee]
        have hff2 := Hff.out.trans hit2
        have Hbw4 := Lib.hid hbw4; clear hbw4
        have Hff2 := Lib.hid hff2; clear hff2
        clear hb4 ho4 ho4' hit2 hee
        go_wp2
        go_ret2
        exact ⟨none, 0, by rw [Hff2.out]; rfl, by rw [Hff2.out]; exact Own.nil, Hbw4.out⟩
    · obtain rfl : k = N := by omega
      have hff2 : cRunF rs p ms (k : Int) = (cur, 0) := by rw [Hff.out, hit.out, Nat.sub_self]; rfl
      have Hff2 := Lib.hid hff2; clear hff2
      go_wp2
      go_ret2
      exact ⟨Ac, cc, by rw [Hff2.out]; rfl, by rw [Hff2.out]; exact hown.out, hb.out⟩
end Go.Proofs.YtpeknefmjdipmaaGreatDoor
