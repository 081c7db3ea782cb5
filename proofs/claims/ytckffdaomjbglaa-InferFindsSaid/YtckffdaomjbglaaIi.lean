/-
  Layer 42: the walk of the reference's Replace.
-/
import Derived.Test.YtckffdaomjbglaaIh
namespace Go.Proofs.Ytckffdaomjbglaa
open Go.RowKit Go.Sort

def replF (ms : List Mod) (x y nm : Int) : List Int × Int := if plainF ms = 0 then (if (plainC x && plainC y && plainC nm) = true then (putF x y nm (ms.map Mod.name), 0) else ([], 2)) else ([], plainF ms)
def ReplPost (r : List Int × Int) (w : World) (e : Ending) (w' : World) : Prop :=
  ∃ A c, e = .returned (.tuple #[.slice A r.1.length c, .int .i64 r.2]) ∧ Own pMod 44 w.heap.size (w.heap.size ≤ ·) w' (.slice A r.1.length c) (r.1.map modOf) ∧ Below w.heap.size w w'
set_option maxRecDepth 100000 in
set_option maxHeartbeats 1000000 in
theorem refReplace_calls (A : Option Addr) (c : Nat) (ms : List Mod) (x y nm : Int) (w : World) (h : SlAt pMod (Old w) w A c ms) (hl : ms.length ≤ 100000) (hnm : Fits .u8 nm) :
    Calls Try.prog 9 #[.slice A ms.length c, .int .u8 x, .int .u8 y, .int .u8 nm] w (ReplPost (replF ms x y nm) w) := by
  have hmx := h.lenle
  have hck := refPlainW_calls A c ms w h
  have H := Lib.hid h; clear h
  have Hck := Lib.hid hck; clear hck
  go_enter Try.func9, Try.ntmps9
  go_wp2_with fail
  refine Hck.out.mono ?_
  rintro e w1 ⟨rfl, hb1⟩
  have hz1 := hb1.size
  by_cases hf : plainF ms = 0
  case neg =>
    have e0 : (plainF ms != 0) = true := by simp [hf]
    have hff : replF ms x y nm = ([], plainF ms) := by unfold replF; rw [if_neg hf]
    have hck1 := refPlainW_calls A c ms w1 (H.out.later hb1)
    have Hb1 := Lib.hid hb1; clear hb1
    have Hff := Lib.hid hff; clear hff
    have Hf := Lib.hid hf; clear hf
    have Hck1 := Lib.hid hck1; clear hck1
    go_wp2_with fail
    refine Hck1.out.mono ?_
    rintro e w2 ⟨rfl, hb2⟩
    have hbw2 := Hb1.out.trans (hb2.mono hz1)
    have Hbw2 := Lib.hid hbw2; clear hbw2
    clear hb2
    go_wp2
    go_ret2
    exact ⟨none, 0, by rw [Hff.out]; rfl, by rw [Hff.out]; exact Own.nil, Hbw2.out⟩
  case pos =>
  have e0 : (plainF ms != 0) = false := by simp [hf]
  have hff : replF ms x y nm = if (plainC x && plainC y && plainC nm) = true then (putF x y nm (ms.map Mod.name), 0) else ([], 2) := by unfold replF; rw [if_pos hf]
  have h1 := refPlainB_calls x w1
  have h2 := refPlainB_calls y w1
  have h3 := refPlainB_calls nm w1
  have hpt := refPut_calls A c ms x y nm w1 (H.out.later hb1) hl hnm
  cases p1 : plainC x <;> cases p2 : plainC y <;> cases p3 : plainC nm
  all_goals
    rw [p1] at h1 hff
    rw [p2] at h2 hff
    rw [p3] at h3 hff
    have Hb1 := Lib.hid hb1; clear hb1
    have Hff := Lib.hid hff; clear hff
    have Hf := Lib.hid hf; clear hf
    have H1 := Lib.hid h1; clear h1
    have H2 := Lib.hid h2; clear h2
    have H3 := Lib.hid h3; clear h3
    have Hpt := Lib.hid hpt; clear hpt
    have P1 := Lib.hid p1; clear p1
    have P2 := Lib.hid p2; clear p2
    have P3 := Lib.hid p3; clear p3
    go_wp2_with (first | (go_at_call 22; (with_reducible refine H1.out.mono ?_); rintro e w' ⟨rfl, rfl⟩) | (go_at_call 22; (with_reducible refine H2.out.mono ?_); rintro e w' ⟨rfl, rfl⟩) | (go_at_call 22; (with_reducible refine H3.out.mono ?_); rintro e w' ⟨rfl, rfl⟩))
    first
      | (go_ret2
         exact ⟨none, 0, by rw [Hff.out]; rfl, by rw [Hff.out]; exact Own.nil, Hb1.out⟩)
      | (refine Hpt.out.mono ?_
         rintro e w2 ⟨A2, c2, rfl, ho, hb2⟩
         have hbw2 := Hb1.out.trans (hb2.mono hz1)
         have ho' := ho.mono (base' := w.heap.size) (G' := (w.heap.size ≤ ·)) hz1 (fun k hk => Nat.le_trans hz1 hk)
         have Hbw2 := Lib.hid hbw2; clear hbw2
         have Ho' := Lib.hid ho'; clear ho'
         clear hb2 ho
         go_wp2
         go_ret2
         exact ⟨A2, c2, by rw [Hff.out]; rfl, by rw [Hff.out]; exact Ho'.out, Hbw2.out⟩)
end Go.Proofs.Ytckffdaomjbglaa
