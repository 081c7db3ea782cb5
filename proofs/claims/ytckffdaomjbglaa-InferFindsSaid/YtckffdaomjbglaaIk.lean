/-
  Layer 42: the walks of bracket and of the reference's Pair.
-/
import Derived.Test.YtckffdaomjbglaaIj
import Derived.Handy
namespace Go.Proofs.Ytckffdaomjbglaa
open Go.RowKit Go.Sort

def brkB (c : Int) : Bool := c == 91 || c == 93
theorem bracket_calls (c : Int) (w : World) : Calls Try.prog 29 #[.int .u8 c] w fun e w' => e = .returned (.bool (brkB c)) ∧ w = w' := by
  cases h1 : (c == 91)
  · have hy : brkB c = (c == 93) := by unfold brkB; rw [h1]; rfl
    have Hy := Lib.hid hy; clear hy
    go_enter Try.func29, Try.ntmps29
    go_wp2
    go_ret
    exact ⟨ret_bool Hy.out.symm, rfl⟩
  · have hy : brkB c = true := by unfold brkB; rw [h1]; rfl
    have Hy := Lib.hid hy; clear hy
    go_enter Try.func29, Try.ntmps29
    go_wp2
    go_ret
    exact ⟨ret_bool Hy.out.symm, rfl⟩
def PairP (ms : List Mod) (w : World) (e : Ending) (w' : World) : Prop :=
  ∃ a b n r, e = .returned (.tuple #[.int .u8 a, .int .u8 b, .int .i64 n, .int .i64 r]) ∧ Below w.heap.size w w' ∧
    ((plainF ms ≠ 0 ∧ a = 0 ∧ b = 0 ∧ n = 0 ∧ r = plainF ms) ∨ (plainF ms = 0 ∧ BestOf (PairAt (ms.map Mod.name) (ms.map Mod.name).length) (fun u v => cntR u v (ms.map Mod.name)) a b n ∧ r = if n = 0 then 6 else 0))
set_option maxRecDepth 100000 in
set_option maxHeartbeats 1000000 in
theorem refPair_calls (A : Option Addr) (c : Nat) (ms : List Mod) (w : World) (h : SlAt pMod (Old w) w A c ms) (hl : ms.length ≤ 100000) : Calls Try.prog 7 #[.slice A ms.length c] w (PairP ms w) := by
  have hmx := h.lenle
  have hck := refPlainW_calls A c ms w h
  have H := Lib.hid h; clear h
  have Hck := Lib.hid hck; clear hck
  go_enter Try.func7, Try.ntmps7
  go_wp2_with fail
  refine Hck.out.mono ?_
  rintro e w1 ⟨rfl, hb1⟩
  have hz1 := hb1.size
  by_cases hf : plainF ms = 0
  case neg =>
    have e0 : (plainF ms != 0) = true := by simp [hf]
    have hck1 := refPlainW_calls A c ms w1 (H.out.later hb1)
    have Hb1 := Lib.hid hb1; clear hb1
    have Hf := Lib.hid hf; clear hf
    have Hck1 := Lib.hid hck1; clear hck1
    go_wp2_with fail
    refine Hck1.out.mono ?_
    rintro e w2 ⟨rfl, hb2⟩
    have hbw2 := Hb1.out.trans (hb2.mono hz1)
    have Hbw2 := Lib.hid hbw2; clear hbw2
    clear hb2
    go_wp2
    go_returns
    exact ⟨0, 0, 0, plainF ms, rfl, Hbw2.out, .inl ⟨Hf.out, rfl, rfl, rfl, rfl⟩⟩
  case pos =>
  have e0 : (plainF ms != 0) = false := by simp [hf]
  have hbc := refBest_calls A c ms w1 (H.out.later hb1) hl
  have Hb1 := Lib.hid hb1; clear hb1
  have Hf := Lib.hid hf; clear hf
  have Hbc := Lib.hid hbc; clear hbc
  go_wp2_with fail
  refine Hbc.out.mono ?_
  rintro e w2 ⟨a, b, n, rfl, hbest, hn0, hn1, hb2⟩
  have hbw2 := Hb1.out.trans (hb2.mono hz1)
  have Hbw2 := Lib.hid hbw2; clear hbw2
  clear hb2
  by_cases hn : n = 0
  · subst hn
    obtain ⟨ha, hb, _⟩ := hbest.out.none rfl
    subst ha hb
    go_wp2
    go_returns
    exact ⟨0, 0, 0, 6, rfl, Hbw2.out, .inr ⟨Hf.out, hbest.out, rfl⟩⟩
  · have e1 : (n == 0) = false := by simpa using hn
    have Hn := Lib.hid hn; clear hn
    go_wp2
    go_returns
    exact ⟨a, b, n, 0, rfl, Hbw2.out, .inr ⟨Hf.out, hbest.out, by rw [if_neg Hn.out]⟩⟩
end Go.Proofs.Ytckffdaomjbglaa
