/-
  Layer 7: the walks of check, Step and Run.
-/
import Derived.Test.YtpeknefmjdipmaaGreatDoorRs
import Derived.Test.YtpeknefmjdipmaaGreatDoorRt
import Derived.Test.YtpeknefmjdipmaaGreatDoorWh
namespace Go.Proofs.YtpeknefmjdipmaaGreatDoor
open Go.RowKit Go.Sort

theorem rOpen_calls (A : Option Addr) (c : Nat) (rs : List Rul) (B : Option Addr) (cb : Nat) (ms : List Mod) (w : World) (h : SlAt pRul (Old w) w A c rs) (h' : SlAt pMod (Old w) w B cb ms) (hs : Small rs) :
    Calls Tryz.prog 31 #[.slice A rs.length c, .slice B ms.length cb] w (IntPost (openR rs ms) w) := by
  have hck := rCheck_calls A c rs w h hs
  have H := Lib.hid h; clear h
  have H' := Lib.hid h'; clear h'
  have Hck := Lib.hid hck; clear hck
  go_enter Tryz.func31, Tryz.ntmps31
  go_wp2_with fail
  refine Hck.out.mono ?_
  rintro e w1 ⟨rfl, hb1⟩
  have hz1 := hb1.size
  by_cases hr : checkR rs = 0
  · have e0 : (checkR rs != 0) = false := by simp [hr]
    have hff : openR rs ms = checkF ms := by unfold openR; rw [if_pos hr]
    have hcw := wordCheck_calls B cb ms w1 (H'.out.later hb1)
    have Hb1 := Lib.hid hb1; clear hb1
    have Hff := Lib.hid hff; clear hff
    have Hr := Lib.hid hr; clear hr
    have Hcw := Lib.hid hcw; clear hcw
    go_wp2_with fail
    refine Hcw.out.mono ?_
    rintro e w2 ⟨rfl, hb2⟩
    have hbw2 := Hb1.out.trans (hb2.mono hz1)
    have Hbw2 := Lib.hid hbw2; clear hbw2
    clear hb2
    go_wp2
    go_ret
    exact ⟨ret_int Hff.out.symm, Hbw2.out⟩
  · have e0 : (checkR rs != 0) = true := by simp [hr]
    have hff : openR rs ms = checkR rs := by unfold openR; rw [if_neg hr]
    have Hb1 := Lib.hid hb1; clear hb1
    have Hff := Lib.hid hff; clear hff
    have Hr := Lib.hid hr; clear hr
    go_wp2
    go_ret
    exact ⟨ret_int Hff.out.symm, Hb1.out⟩

theorem openR_ok {rs : List Rul} {ms : List Mod} (h : openR rs ms = 0) : checkR rs = 0 ∧ checkF ms = 0 := by
  unfold openR at h
  by_cases hr : checkR rs = 0
  · rw [if_pos hr] at h; exact ⟨hr, h⟩
  · rw [if_neg hr] at h; exact absurd h hr

def RStepPost (rs : List Rul) (ms : List Mod) (w : World) (e : Ending) (w' : World) : Prop :=
  ∃ A c, e = .returned (.tuple #[.slice A (rStepF rs ms).1.length c, .int .i64 (rStepF rs ms).2]) ∧ Own pModF 27 w.heap.size (w.heap.size ≤ ·) w' (.slice A (rStepF rs ms).1.length c) (rStepF rs ms).1 ∧ Below w.heap.size w w'
set_option maxRecDepth 100000 in
theorem rStep_calls (A : Option Addr) (c : Nat) (rs : List Rul) (B : Option Addr) (cb : Nat) (ms : List Mod) (w : World) (h : SlAt pRul (Old w) w A c rs) (h' : SlAt pMod (Old w) w B cb ms) (hs : Small rs) :
    Calls Tryz.prog 14 #[.slice A rs.length c, .slice B ms.length cb] w (RStepPost rs ms w) := by
  have hck := rOpen_calls A c rs B cb ms w h h' hs
  have H := Lib.hid h; clear h
  have H' := Lib.hid h'; clear h'
  have Hck := Lib.hid hck; clear hck
  go_enter Tryz.func14, Tryz.ntmps14
  go_wp2_with fail
  refine Hck.out.mono ?_
  rintro e w1 ⟨rfl, hb1⟩
  have hz1 := hb1.size
  by_cases hr : openR rs ms = 0
  · have e0 : (openR rs ms != 0) = false := by simp [hr]
    have hff : rStepF rs ms = stepF rs ms := by unfold rStepF; rw [if_pos hr]
    obtain ⟨h1, h2⟩ := openR_ok hr
    have hcw := step_calls A c rs B cb ms w1 (H.out.later hb1) (H'.out.later hb1) (checkR_ok h1).1 (checkF_fine h2) hs.o (checkF_le h2)
    have Hb1 := Lib.hid hb1; clear hb1
    have Hff := Lib.hid hff; clear hff
    have Hr := Lib.hid hr; clear hr
    have Hcw := Lib.hid hcw; clear hcw
    clear h1 h2
    go_wp2_with fail
    refine Hcw.out.mono ?_
    rintro e w2 ⟨A2, c2, rfl, ho2, hb2⟩
    have hbw2 := Hb1.out.trans (hb2.mono hz1)
    have ho2' := ho2.mono (base' := w.heap.size) (G' := (w.heap.size ≤ ·)) hz1 (fun k hk => Nat.le_trans hz1 hk)
    obtain ⟨r1, hr1⟩ : ∃ r1, stepF rs ms = r1 := ⟨_, rfl⟩
    rw [hr1] at ho2' ⊢
    have hff' := Hff.out.trans hr1
    have Hbw2 := Lib.hid hbw2; clear hbw2
    have Ho2' := Lib.hid ho2'; clear ho2'
    have Hff' := Lib.hid hff'; clear hff'
    have Hr1 := Lib.hid hr1; clear hr1
    clear hb2 ho2
    go_wp2
    go_ret2
    exact ⟨A2, c2, by rw [Hff'.out]; rfl, by rw [Hff'.out]; exact Ho2'.out, Hbw2.out⟩
  · have e0 : (openR rs ms != 0) = true := by simp [hr]
    have hff : rStepF rs ms = ([], openR rs ms) := by unfold rStepF; rw [if_neg hr]
    have Hb1 := Lib.hid hb1; clear hb1
    have Hff := Lib.hid hff; clear hff
    have Hr := Lib.hid hr; clear hr
    go_wp2
    go_ret2
    exact ⟨none, 0, by rw [Hff.out]; rfl, by rw [Hff.out]; exact Own.nil, Hb1.out⟩

def RRunPost (rs : List Rul) (ms : List Mod) (n : Int) (w : World) (e : Ending) (w' : World) : Prop :=
  ∃ A c, e = .returned (.tuple #[.slice A (rRunF rs ms n).1.length c, .int .i64 (rRunF rs ms n).2]) ∧ Own pModF 27 w.heap.size (w.heap.size ≤ ·) w' (.slice A (rRunF rs ms n).1.length c) (rRunF rs ms n).1 ∧ Below w.heap.size w w'
theorem iterR_step {rs : List Rul} {n : Nat} {ms : List Mod} : iterR rs (n + 1) ms = if (stepF rs ms).2 = 0 then iterR rs n (stepF rs ms).1 else ([], (stepF rs ms).2) := rfl

def RefRunPost (rs : List Rul) (ms : List Mod) (n : Int) (w : World) (e : Ending) (w' : World) : Prop :=
  ∃ A c, e = .returned (.tuple #[.slice A (rRunF rs ms n).1.length c, .int .i64 (rRunF rs ms n).2]) ∧ Own pMod 27 w.heap.size (w.heap.size ≤ ·) w' (.slice A (rRunF rs ms n).1.length c) (rRunF rs ms n).1 ∧ Below w.heap.size w w'
end Go.Proofs.YtpeknefmjdipmaaGreatDoor
