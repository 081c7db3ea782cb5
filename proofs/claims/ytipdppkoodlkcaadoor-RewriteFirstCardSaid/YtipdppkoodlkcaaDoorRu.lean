/-
  Layer 7: the walks of check, Step and Run.
-/
import Derived.Test.YtipdppkoodlkcaaDoorRs
import Derived.Test.YtipdppkoodlkcaaDoorRt
import Derived.Test.YtipdppkoodlkcaaDoorWh
namespace Go.Proofs.YtipdppkoodlkcaaDoor
open Go.RowKit Go.Sort

theorem rOpen_calls (A : Option Addr) (c : Nat) (rs : List Rul) (B : Option Addr) (cb : Nat) (ms : List Mod) (w : World) (h : SlAt pRul (Old w) w A c rs) (h' : SlAt pMod (Old w) w B cb ms) (hs : Small rs) :
    Calls Tryd.prog 15 #[.slice A rs.length c, .slice B ms.length cb] w (IntPost (openR rs ms) w) := by
  have hck := rCheck_calls A c rs w h hs
  have H := Lib.hid h; clear h
  have H' := Lib.hid h'; clear h'
  have Hck := Lib.hid hck; clear hck
  go_enter Tryd.func15, Tryd.ntmps15
  go_wp2_with fail
  refine Hck.out.mono ?_
  rintro e w1 ⟨rfl, hb1⟩
  have hz1 := hb1.size
  by_cases hr : checkR rs = 0
  · have e0 : (checkR rs != 0) = false := by simp [hr]
    have hff : openR rs ms = checkF ms := by unfold openR; rw [if_pos hr]
    have hcw := wordCheck_calls B cb ms w1 (H'.out.later hb1)
    have Hb1 := Lib.hid hb1; clear hb1
    have Hff := Lib.hid hff; clear hff
    have Hr := Lib.hid hr; clear hr
    have Hcw := Lib.hid hcw; clear hcw
    go_wp2_with fail
    refine Hcw.out.mono ?_
    rintro e w2 ⟨rfl, hb2⟩
    have hbw2 := Hb1.out.trans (hb2.mono hz1)
    have Hbw2 := Lib.hid hbw2; clear hbw2
    clear hb2
    go_wp2
    go_ret
    exact ⟨ret_int Hff.out.symm, Hbw2.out⟩
  · have e0 : (checkR rs != 0) = true := by simp [hr]
    have hff : openR rs ms = checkR rs := by unfold openR; rw [if_neg hr]
    have Hb1 := Lib.hid hb1; clear hb1
    have Hff := Lib.hid hff; clear hff
    have Hr := Lib.hid hr; clear hr
    go_wp2
    go_ret
    exact ⟨ret_int Hff.out.symm, Hb1.out⟩

theorem openR_ok {rs : List Rul} {ms : List Mod} (h : openR rs ms = 0) : checkR rs = 0 ∧ checkF ms = 0 := by
  unfold openR at h
  by_cases hr : checkR rs = 0
  · rw [if_pos hr] at h; exact ⟨hr, h⟩
  · rw [if_neg hr] at h; exact absurd h hr

def RStepPost (rs : List Rul) (ms : List Mod) (w : World) (e : Ending) (w' : World) : Prop :=
  ∃ A c, e = .returned (.tuple #[.slice A (rStepF rs ms).1.length c, .int .i64 (rStepF rs ms).2]) ∧ Own pModF 38 w.heap.size (w.heap.size ≤ ·) w' (.slice A (rStepF rs ms).1.length c) (rStepF rs ms).1 ∧ Below w.heap.size w w'
set_option maxRecDepth 100000 in
theorem rStep_calls (A : Option Addr) (c : Nat) (rs : List Rul) (B : Option Addr) (cb : Nat) (ms : List Mod) (w : World) (h : SlAt pRul (Old w) w A c rs) (h' : SlAt pMod (Old w) w B cb ms) (hs : Small rs) :
    Calls Tryd.prog 6 #[.slice A rs.length c, .slice B ms.length cb] w (RStepPost rs ms w) := by
  have hck := rOpen_calls A c rs B cb ms w h h' hs
  have H := Lib.hid h; clear h
  have H' := Lib.hid h'; clear h'
  have Hck := Lib.hid hck; clear hck
  go_enter Tryd.func6, Tryd.ntmps6
  go_wp2_with fail
  refine Hck.out.mono ?_
  rintro e w1 ⟨rfl, hb1⟩
  have hz1 := hb1.size
  by_cases hr : openR rs ms = 0
  · have e0 : (openR rs ms != 0) = false := by simp [hr]
    have hff : rStepF rs ms = stepF rs ms := by unfold rStepF; rw [if_pos hr]
    obtain ⟨h1, h2⟩ := openR_ok hr
    have hcw := step_calls A c rs B cb ms w1 (H.out.later hb1) (H'.out.later hb1) (checkR_ok h1).1 (checkF_fine h2) hs.o (checkF_le h2)
    have Hb1 := Lib.hid hb1; clear hb1
    have Hff := Lib.hid hff; clear hff
    have Hr := Lib.hid hr; clear hr
    have Hcw := Lib.hid hcw; clear hcw
    clear h1 h2
    go_wp2_with fail
    refine Hcw.out.mono ?_
    rintro e w2 ⟨A2, c2, rfl, ho2, hb2⟩
    have hbw2 := Hb1.out.trans (hb2.mono hz1)
    have ho2' := ho2.mono (base' := w.heap.size) (G' := (w.heap.size ≤ ·)) hz1 (fun k hk => Nat.le_trans hz1 hk)
    obtain ⟨r1, hr1⟩ : ∃ r1, stepF rs ms = r1 := ⟨_, rfl⟩
    rw [hr1] at ho2' ⊢
    have hff' := Hff.out.trans hr1
    have Hbw2 := Lib.hid hbw2; clear hbw2
    have Ho2' := Lib.hid ho2'; clear ho2'
    have Hff' := Lib.hid hff'; clear hff'
    have Hr1 := Lib.hid hr1; clear hr1
    clear hb2 ho2
    go_wp2
    go_ret2
    exact ⟨A2, c2, by rw [Hff'.out]; rfl, by rw [Hff'.out]; exact Ho2'.out, Hbw2.out⟩
  · have e0 : (openR rs ms != 0) = true := by simp [hr]
    have hff : rStepF rs ms = ([], openR rs ms) := by unfold rStepF; rw [if_neg hr]
    have Hb1 := Lib.hid hb1; clear hb1
    have Hff := Lib.hid hff; clear hff
    have Hr := Lib.hid hr; clear hr
    go_wp2
    go_ret2
    exact ⟨none, 0, by rw [Hff.out]; rfl, by rw [Hff.out]; exact Own.nil, Hb1.out⟩

def RRunPost (rs : List Rul) (ms : List Mod) (n : Int) (w : World) (e : Ending) (w' : World) : Prop :=
  ∃ A c, e = .returned (.tuple #[.slice A (rRunF rs ms n).1.length c, .int .i64 (rRunF rs ms n).2]) ∧ Own pModF 38 w.heap.size (w.heap.size ≤ ·) w' (.slice A (rRunF rs ms n).1.length c) (rRunF rs ms n).1 ∧ Below w.heap.size w w'
theorem iterR_step {rs : List Rul} {n : Nat} {ms : List Mod} : iterR rs (n + 1) ms = if (stepF rs ms).2 = 0 then iterR rs n (stepF rs ms).1 else ([], (stepF rs ms).2) := rfl

set_option maxRecDepth 100000 in
set_option maxHeartbeats 1000000 in
theorem rRun_calls (A : Option Addr) (c : Nat) (rs : List Rul) (B : Option Addr) (cb : Nat) (ms : List Mod) (n : Int) (w : World) (h : SlAt pRul (Old w) w A c rs) (h' : SlAt pMod (Old w) w B cb ms) (hs : Small rs) (hn : Fits .i64 n) :
    Calls Tryd.prog 28 #[.slice A rs.length c, .slice B ms.length cb, .int .i64 n] w (RRunPost rs ms n w) := by
  have hck := rOpen_calls A c rs B cb ms w h h' hs
  have hn64 := hn.i64
  have H := Lib.hid h; clear h
  have H' := Lib.hid h'; clear h'
  have Hck := Lib.hid hck; clear hck
  have Hn := Lib.hid hn; clear hn
  go_enter Tryd.func28, Tryd.ntmps28
  go_wp2_with fail
  refine Hck.out.mono ?_
  rintro e w1 ⟨rfl, hb1⟩
  have hz1 := hb1.size
  by_cases hr : openR rs ms = 0
  case neg =>
    have e0 : (openR rs ms != 0) = true := by simp [hr]
    have hff : rRunF rs ms n = ([], openR rs ms) := by unfold rRunF; rw [if_neg hr]
    have Hb1 := Lib.hid hb1; clear hb1
    have Hff := Lib.hid hff; clear hff
    have Hr := Lib.hid hr; clear hr
    go_wp2
    go_ret2
    exact ⟨none, 0, by rw [Hff.out]; rfl, by rw [Hff.out]; exact Own.nil, Hb1.out⟩
  case pos =>
  have e0 : (openR rs ms != 0) = false := by simp [hr]
  obtain ⟨hr1, hr2⟩ := openR_ok hr
  have hcore := (checkR_ok hr1).1
  have hfine := checkF_fine hr2
  have hle := checkF_le hr2
  by_cases hbad : n < 0
  · have hff : rRunF rs ms n = ([], 2) := by unfold rRunF; rw [if_pos hr, if_pos (.inl hbad)]
    have Hb1 := Lib.hid hb1; clear hb1
    have Hff := Lib.hid hff; clear hff
    have Hr := Lib.hid hr; clear hr
    clear hr1 hr2 hcore hfine
    go_wp2
    go_ret2
    exact ⟨none, 0, by rw [Hff.out]; rfl, by rw [Hff.out]; exact Own.nil, Hb1.out⟩
  by_cases hbad2 : 30 < n
  · have hff : rRunF rs ms n = ([], 2) := by unfold rRunF; rw [if_pos hr, if_pos (.inr hbad2)]
    have Hb1 := Lib.hid hb1; clear hb1
    have Hff := Lib.hid hff; clear hff
    have Hr := Lib.hid hr; clear hr
    clear hr1 hr2 hcore hfine
    go_wp2
    go_ret2
    exact ⟨none, 0, by rw [Hff.out]; rfl, by rw [Hff.out]; exact Own.nil, Hb1.out⟩
  obtain ⟨N, rfl⟩ := Int.eq_ofNat_of_zero_le (Int.not_lt.1 hbad)
  have hN : N ≤ 30 := by omega
  have hff : rRunF rs ms (N : Int) = iterR rs N ms := by unfold rRunF; rw [if_pos hr, if_neg (by omega)]; rfl
  have htw := twin_calls B cb ms w1 (H'.out.later hb1) (by omega) (fun m hm => by have := (fine_args (hfine m hm)).2; omega)
  have Hb1 := Lib.hid hb1; clear hb1
  have Hff := Lib.hid hff; clear hff
  have Hr := Lib.hid hr; clear hr
  have Hcore := Lib.hid hcore; clear hcore
  have Htw := Lib.hid htw; clear htw
  have Hr2 := Lib.hid hr2; clear hr2
  clear hr1 hfine
  go_wp2_with fail
  refine Htw.out.mono ?_
  rintro e w2 ⟨A2, c2, rfl, ho2, hb2⟩
  have hbw2 := Hb1.out.trans (hb2.mono hz1)
  have hz2 := hbw2.size
  have ho2' := ho2.mono (base' := w.heap.size) (G' := (w.heap.size ≤ ·)) hz1 (fun k hk => Nat.le_trans hz1 hk)
  have Hbw2 := Lib.hid hbw2; clear hbw2
  have Ho2' := Lib.hid ho2'; clear ho2'
  clear hb2 ho2
  go_wp2
  go_loopw [25, 1] (fun i wv wr => ∃ (k : Nat) (cur : List Mod) (Ac : Option Addr) (cc : Nat), k ≤ N ∧ i = .int .i64 k ∧ wv = .slice Ac cur.length cc ∧ Hid (Below w.heap.size w wr) ∧ w.heap.size ≤ wr.heap.size ∧ Hid (checkF cur = 0) ∧ Hid (iterR rs N ms = iterR rs (N - k) cur) ∧
    Hid (Own pModF 38 w.heap.size (w.heap.size ≤ ·) wr (.slice Ac cur.length cc) cur)) (fun i _ _ => N - (intOf i).toNat)
  case atStart => exact ⟨0, ms, A2, c2, Nat.zero_le _, rfl, rfl, Hbw2, hz2, Hr2, rfl, Ho2'⟩
  case round =>
    obtain ⟨k, cur, Ac, cc, hk, rfl, rfl, hb, hsz, hcf, hit, hown⟩ := hrel
    obtain ⟨wo, rfl⟩ : ∃ wo : World, wo = wr := ⟨_, rfl⟩
    by_cases hlt : k < N
    · obtain ⟨_, _, hv, hsl⟩ := hown.out.fresh; cases hv
      have hst := step_calls A c rs Ac cc cur wo (H.out.later hb.out) ((slAt_modF hsl).wide fun q hq => hq.2) Hcore.out (checkF_fine hcf.out) hs.o (checkF_le hcf.out)
      have hval := step_valid Hcore.out hcf.out
      have hit2 : iterR rs N ms = if (stepF rs cur).2 = 0 then iterR rs (N - (k + 1)) (stepF rs cur).1 else ([], (stepF rs cur).2) := by
        rw [hit.out, show N - k = (N - (k + 1)) + 1 from by omega, iterR_step]
      obtain ⟨⟨v, ee⟩, hr1⟩ : ∃ r1, stepF rs cur = r1 := ⟨_, rfl⟩
      rw [hr1] at hval hit2
      simp only at hval hit2
      have Hst := Lib.hid hst; clear hst
      have Hr1 := Lib.hid hr1; clear hr1
      have Hcf := Lib.hid hcf; clear hcf
      clear hit hsl
      go_wp2_with fail
      refine Hst.out.mono ?_
      rintro e w3 ⟨A3, c3, rfl, ho3, hb3⟩
      rw [Hr1.out] at ho3 ⊢
      have hz3 := hb3.size
      have hbw3 := hb.out.trans (hb3.mono hsz)
      have hz3' := hbw3.size
      have ho3' := ho3.mono (base' := w.heap.size) (G' := (w.heap.size ≤ ·)) hsz (fun k hk => Nat.le_trans hsz hk)
      by_cases hee : ee = 0
      · subst hee
        rw [if_pos rfl] at hit2
        have hv0 := hval rfl
        have Hbw3 := Lib.hid hbw3; clear hbw3
        have Ho3' := Lib.hid ho3'; clear ho3'
        have Hit2 := Lib.hid hit2; clear hit2
        have Hv0 := Lib.hid hv0; clear hv0
        clear hb3 ho3 hval
        go_wp2
        go_roundw
        case rel => exact ⟨k + 1, v, A3, c3, hlt, by go_num, rfl, Hbw3, hz3', Hv0, Hit2, Ho3'⟩
        case measure => simp [intOf]; omega
      · rw [if_neg hee] at hit2
        have e5 : (ee != 0) = true := by simp [hee]
        have hff2 := Hff.out.trans hit2
        have Hbw3 := Lib.hid hbw3; clear hbw3
        have Hff2 := Lib.hid hff2; clear hff2
        clear hb3 ho3 ho3' hval hit2 hee
        go_wp2
        go_ret2
        exact ⟨none, 0, by rw [Hff2.out]; rfl, by rw [Hff2.out]; exact Own.nil, Hbw3.out⟩
    · obtain rfl : k = N := by omega
      have hff2 : rRunF rs ms (k : Int) = (cur, 0) := by rw [Hff.out, hit.out, Nat.sub_self]; rfl
      have Hff2 := Lib.hid hff2; clear hff2
      go_wp2
      go_ret2
      exact ⟨Ac, cc, by rw [Hff2.out]; rfl, by rw [Hff2.out]; exact hown.out, hb.out⟩

def RefRunPost (rs : List Rul) (ms : List Mod) (n : Int) (w : World) (e : Ending) (w' : World) : Prop :=
  ∃ A c, e = .returned (.tuple #[.slice A (rRunF rs ms n).1.length c, .int .i64 (rRunF rs ms n).2]) ∧ Own pMod 38 w.heap.size (w.heap.size ≤ ·) w' (.slice A (rRunF rs ms n).1.length c) (rRunF rs ms n).1 ∧ Below w.heap.size w w'
end Go.Proofs.YtipdppkoodlkcaaDoor
