/-
  Layer 42: the walk of Replace.
-/
import Derived.Test.YtckffdaomjbglaaDoorIi
namespace Go.Proofs.YtckffdaomjbglaaDoor
open Go.RowKit Go.Sort

theorem putF_len {a b nm : Int} : ∀ n (l : List Int), l.length ≤ n → (putF a b nm l).length ≤ l.length
  | 0, l, h => by
    have : l = [] := List.length_eq_zero_iff.1 (by omega)
    subst this; simp [putF]
  | n + 1, [], _ => by simp [putF]
  | n + 1, [x], _ => by simp [putF]
  | n + 1, x :: y :: r, h => by
    simp only [List.length_cons] at h
    have h1 := putF_len (a := a) (b := b) (nm := nm) n (y :: r) (by simp only [List.length_cons]; omega)
    have h2 := putF_len (a := a) (b := b) (nm := nm) n r (by omega)
    rw [putF_two]
    simp only [List.length_cons] at h1 ⊢
    split <;> simp only [List.length_cons] <;> omega
theorem names_sl {w w' : World} {B : Nat} {A : Option Addr} {n c : Nat} {l : List Int} (h : Own (pI .u8) 5 B (B ≤ ·) w (.slice A n c) l) (hb : Below w.heap.size w w') : SlAt (pI .u8) (Old w') w' A c l := by
  obtain ⟨A', c', hv, hs⟩ := (h.later hb).fresh
  injection hv with h1 h2 h3
  subst h1 h2 h3
  exact hs.wide fun q hq => hq.2
set_option maxRecDepth 100000 in
set_option maxHeartbeats 1000000 in
theorem replaceW_calls (A : Option Addr) (c : Nat) (ms : List Mod) (x y nm : Int) (w : World) (h : SlAt pMod (Old w) w A c ms) (hl : ms.length ≤ 100000) (hx : Fits .u8 x) (hy : Fits .u8 y) (hnm : Fits .u8 nm) :
    Calls Tryd.prog 19 #[.slice A ms.length c, .int .u8 x, .int .u8 y, .int .u8 nm] w (ReplPost (replF ms x y nm) w) := by
  have hmx := h.lenle
  have hck := plainW_calls A c ms w h
  have H := Lib.hid h; clear h
  have Hck := Lib.hid hck; clear hck
  go_enter Tryd.func19, Tryd.ntmps19
  go_wp2_with fail
  refine Hck.out.mono ?_
  rintro e w1 ⟨rfl, hb1⟩
  have z1 := hb1.size
  by_cases hf : plainF ms = 0
  case neg =>
    have e0 : (plainF ms != 0) = true := by simp [hf]
    have hff : replF ms x y nm = ([], plainF ms) := by unfold replF; rw [if_neg hf]
    have Hb1 := Lib.hid hb1; clear hb1
    have Hff := Lib.hid hff; clear hff
    have Hf := Lib.hid hf; clear hf
    go_wp2
    go_ret2
    exact ⟨none, 0, by rw [Hff.out]; rfl, by rw [Hff.out]; exact Own.nil, Hb1.out⟩
  case pos =>
  have e0 : (plainF ms != 0) = false := by simp [hf]
  have hff : replF ms x y nm = if (plainC x && plainC y && plainC nm) = true then (putF x y nm (ms.map Mod.name), 0) else ([], 2) := by unfold replF; rw [if_pos hf]
  have no : (plainC x && plainC y && plainC nm) = false → replF ms x y nm = ([], 2) := fun hh => by rw [hff, hh]; rfl
  have Hb1 := Lib.hid hb1; clear hb1
  have Hf := Lib.hid hf; clear hf
  have No := Lib.hid no; clear no
  have Hff := Lib.hid hff; clear hff
  go_wp2_with fail
  refine (letter_calls' x w1 hx).mono ?_
  rintro e w2 ⟨rfl, hb2⟩
  have Hb2 := Lib.hid (Hb1.out.trans (hb2.mono z1)); clear hb2
  have z2 := Hb2.out.size
  cases p1 : plainC x
  case false =>
    have hn := No.out (by rw [p1]; rfl)
    have Hn := Lib.hid hn; clear hn
    have P1 := Lib.hid p1; clear p1
    go_wp2
    go_ret2
    exact ⟨none, 0, by rw [Hn.out]; rfl, by rw [Hn.out]; exact Own.nil, Hb2.out⟩
  case true =>
  go_wp2_with fail
  refine (letter_calls' y w2 hy).mono ?_
  rintro e w3 ⟨rfl, hb3⟩
  have Hb3 := Lib.hid (Hb2.out.trans (hb3.mono z2)); clear hb3
  have z3 := Hb3.out.size
  cases p2 : plainC y
  case false =>
    have hn := No.out (by rw [p1, p2]; rfl)
    have Hn := Lib.hid hn; clear hn
    have P1 := Lib.hid p1; clear p1
    have P2 := Lib.hid p2; clear p2
    go_wp2
    go_ret2
    exact ⟨none, 0, by rw [Hn.out]; rfl, by rw [Hn.out]; exact Own.nil, Hb3.out⟩
  case true =>
  go_wp2_with fail
  refine (letter_calls' nm w3 hnm).mono ?_
  rintro e w4 ⟨rfl, hb4⟩
  have Hb4 := Lib.hid (Hb3.out.trans (hb4.mono z3)); clear hb4
  have z4 := Hb4.out.size
  cases p3 : plainC nm
  case false =>
    have hn := No.out (by rw [p1, p2, p3]; rfl)
    have Hn := Lib.hid hn; clear hn
    have P1 := Lib.hid p1; clear p1
    have P2 := Lib.hid p2; clear p2
    have P3 := Lib.hid p3; clear p3
    go_wp2
    go_ret2
    exact ⟨none, 0, by rw [Hn.out]; rfl, by rw [Hn.out]; exact Own.nil, Hb4.out⟩
  case true =>
  have hy1 : replF ms x y nm = (putF x y nm (ms.map Mod.name), 0) := by rw [Hff.out, p1, p2, p3]; rfl
  have Hy1 := Lib.hid hy1; clear hy1
  have P1 := Lib.hid p1; clear p1
  have P2 := Lib.hid p2; clear p2
  have P3 := Lib.hid p3; clear p3
  have hnc := names_calls A c ms w4 (H.out.later Hb4.out) hl
  obtain ⟨l, hle⟩ : ∃ l, ms.map Mod.name = l := ⟨_, rfl⟩
  have hll : l.length ≤ 100000 := by rw [← hle, List.length_map]; exact hl
  rw [hle] at hnc
  have Hnc := Lib.hid hnc; clear hnc
  have Hle := Lib.hid hle; clear hle
  go_wp2_with fail
  refine Hnc.out.mono ?_
  rintro e w5 ⟨A5, c5, rfl, ho5, hb5⟩
  have hs5 := names_sl ho5 (Below.refl _ _)
  have Hb5 := Lib.hid (Hb4.out.trans (hb5.mono z4)); clear hb5 ho5
  have z5 := Hb5.out.size
  have hrc := replace_calls A5 c5 l x y nm w5 hs5 hll hnm
  have Hrc := Lib.hid hrc; clear hrc
  have Hs5 := Lib.hid hs5; clear hs5
  go_wp2_with fail
  refine Hrc.out.mono ?_
  rintro e w6 ⟨A6, c6, rfl, ho6, hb6⟩
  have hs6 := names_sl ho6 (Below.refl _ _)
  have Hb6 := Lib.hid (Hb5.out.trans (hb6.mono z5)); clear hb6 ho6
  have z6 := Hb6.out.size
  have hpl := putF_len (a := x) (b := y) (nm := nm) l.length l (Nat.le_refl _)
  have hmc := modules_calls A6 c6 (putF x y nm l) w6 hs6 (by omega)
  have Hmc := Lib.hid hmc; clear hmc
  have Hs6 := Lib.hid hs6; clear hs6
  go_wp2_with fail
  refine Hmc.out.mono ?_
  rintro e w7 ⟨A7, c7, rfl, ho7, hb7⟩
  have hb07 := Hb6.out.trans (hb7.mono z6)
  have ho7' := ho7.mono (base' := w.heap.size) (G' := (w.heap.size ≤ ·)) z6 (fun k hk => Nat.le_trans z6 hk)
  have Hb07 := Lib.hid hb07; clear hb07
  have Ho7' := Lib.hid ho7'; clear ho7'
  clear hb7 ho7
  go_wp2
  go_ret2
  exact ⟨A7, c7, by rw [Hy1.out, Hle.out]; rfl, by rw [Hy1.out, Hle.out]; exact Ho7'.out, Hb07.out⟩
end Go.Proofs.YtckffdaomjbglaaDoor
