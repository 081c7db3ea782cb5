/-
  Layer 42: the examples (alive), valid.
-/
import Derived.Test.YtckffdaomjbglaaDoorIt
import Derived.Test.YtckffdaomjbglaaDoorIv
namespace Go.Proofs.YtckffdaomjbglaaDoor
open Go.RowKit Go.Sort
set_option linter.unusedVariables false

def ruleS (r : Int × Int × Int) : ByteArray := ⟨#[b8 r.1, b8 r.2.1, b8 r.2.2]⟩
theorem want_new (w : World) (t : TypeId) (cells : Array Value) (rl : List (Int × Int × Int)) (h : cells.toList = rl.map fun r => Value.string (ruleS r)) : WantAt (w.alloc (.cells cells t)) (some ⟨w.heap.size, 0, none⟩) rl := by
  intro i r hr
  refine ⟨w.heap.size, rfl, by simp, ?_⟩
  have hb := (Blk.new w t cells).cell i
  rw [hb, ← Array.getElem?_toList, h, List.getElem?_map, hr]
  rfl
theorem want_none (w : World) : WantAt w none [] := fun i r hr => by simp at hr
/-- a word, what is inferred, and its text, all by reckoning -/
def chkI (s : ByteArray) (most : Int) (t : ByteArray) (l : List Int) (rl : List (Int × Int × Int)) : Bool :=
  decide (s.size ≤ 60000) && decide ((parseF s.data.toList).2 = 0) && decide (inferF (parseF s.data.toList).1 most = (l, rl, 0)) && decide (textF (l.map modOf) = (t.data.toList, 0)) && decide ((parseF s.data.toList).1.length ≤ 100000) && decide (rl.length ≤ 30) && decide (l.length ≤ 100000)
theorem infersV (s : ByteArray) (most : Int) (t : ByteArray) (Aw : Option Addr) (n cw : Nat) (l : List Int) (rl : List (Int × Int × Int)) (w : World) (hL : LibAt w) (hw : WantAt w Aw rl) (hn : rl.length = n) (hc : chkI s most t l rl = true) :
    Calls Tryd.prog 17 #[.string s, .int .i64 most, .string t, .slice Aw n cw] w (OkPost w) := by
  unfold chkI at hc
  simp only [Bool.and_eq_true, decide_eq_true_eq] at hc
  obtain ⟨⟨⟨⟨⟨⟨h1, h2⟩, h3⟩, h4⟩, h5⟩, h6⟩, h7⟩ := hc
  subst hn
  exact infers_calls s most t Aw cw (parseF s.data.toList).1 l rl w hL h1 hw (Prod.ext rfl h2) h3 h4 h5 h6 h7
theorem infersA (s : ByteArray) (most : Int) (t : ByteArray) (cells : Array Value) (n cw : Nat) (l : List Int) (rl : List (Int × Int × Int)) (w : World) (hL : LibAt w) (hw : cells.toList = rl.map fun r => Value.string (ruleS r)) (hn : rl.length = n) (hc : chkI s most t l rl = true) :
    Calls Tryd.prog 17 #[.string s, .int .i64 most, .string t, .slice (some ⟨w.heap.size, 0, none⟩) n cw] (w.alloc (.cells cells 9)) (OkPost w) := by
  have hb : Below w.heap.size w (w.alloc (.cells cells 9)) := (Below.refl _ _).alloc (Nat.le_refl _) _
  refine (infersV s most t _ n cw l rl _ (hL.later hb) (want_new w _ cells rl hw) hn hc).mono ?_
  rintro e w' ⟨rfl, h⟩
  exact ⟨rfl, hb.trans (h.mono hb.size)⟩
theorem pairV_calls (A : Option Addr) (c : Nat) (ms : List Mod) (a b n r : Int) (w : World) (h : SlAt pMod (Old w) w A c ms) (hl : ms.length ≤ 100000) (hf : plainF ms = 0) (hb : bestF (ms.map Mod.name) = (a, b, n)) (hr : (if n = 0 then (6 : Int) else 0) = r) :
    Calls Tryd.prog 15 #[.slice A ms.length c] w fun e w' => e = .returned (.tuple #[.int .u8 a, .int .u8 b, .int .i64 n, .int .i64 r]) ∧ Below w.heap.size w w' := by
  refine (pair_calls A c ms w h hl).mono ?_
  rintro e w' ⟨a', b', n', r', rfl, hbl, hp⟩
  rcases hp with ⟨hp, _⟩ | ⟨_, hp, hr'⟩
  · exact absurd hf hp
  · have := bestF_one hp
    rw [hb] at this
    simp only [Prod.mk.injEq] at this
    obtain ⟨rfl, rfl, rfl⟩ := this
    subst hr' hr
    exact ⟨rfl, hbl⟩
theorem pairE_calls (A : Option Addr) (c : Nat) (ms : List Mod) (r : Int) (w : World) (h : SlAt pMod (Old w) w A c ms) (hl : ms.length ≤ 100000) (hf : plainF ms = r) (hr : r ≠ 0) :
    Calls Tryd.prog 15 #[.slice A ms.length c] w fun e w' => e = .returned (.tuple #[.int .u8 0, .int .u8 0, .int .i64 0, .int .i64 r]) ∧ Below w.heap.size w w' := by
  refine (pair_calls A c ms w h hl).mono ?_
  rintro e w' ⟨a', b', n', r', rfl, hbl, hp⟩
  rcases hp with ⟨hp, rfl, rfl, rfl, rfl⟩ | ⟨hp, _⟩
  · rw [hf]; exact ⟨rfl, hbl⟩
  · exact absurd (hf.symm.trans hp) hr
def mFG : List Mod := [70, 71, 70, 71, 70, 71].map modOf
def mABC : List Mod := [97, 98, 99, 97, 98, 99, 97, 98, 99, 97, 98, 99].map modOf
def rABC : List (Int × Int × Int) := [(65, 97, 98), (66, 65, 99), (67, 66, 66)]
def bABC : ByteArray := ⟨#[97, 98, 99, 97, 98, 99, 97, 98, 99, 97, 98, 99]⟩
theorem pABC : parseF bABC.data.toList = (mABC, 0) := by decide +kernel
set_option maxRecDepth 100000 in
set_option maxHeartbeats 4000000 in
theorem alive_calls (w : World) (hL : LibAt w) : Calls Tryd.prog 8 #[] w (OkPost w) := by
  have eSz : sizeF ([67, 67].map modOf) (rABC.map rulO) = (8, 0) := by decide +kernel
  have eEx : rRunF (rABC.map rulO) ([67, 67].map modOf) 3 = (mABC, 0) := by decide +kernel
  have eIn : inferF mABC 30 = ([67, 67], rABC, 0) := by decide +kernel
  have hsm : Small (rABC.map rulO) := small_of (by decide +kernel)
  have HL := Lib.hid hL; clear hL
  have ESz := Lib.hid eSz; clear eSz
  have EEx := Lib.hid eEx; clear eEx
  have EIn := Lib.hid eIn; clear eIn
  have Hsm := Lib.hid hsm; clear hsm
  go_enter Tryd.func8, Tryd.ntmps8
  go_wp2_with fail
  refine (lawPlain_calls ⟨#[70, 71, 70, 71, 70, 71]⟩ mFG w HL.out (by decide) (by decide +kernel)).mono ?_
  rintro e w1 ⟨A1, c1, rfl, S1, b1⟩
  have T1 := Lib.hid b1; clear b1
  go_wp2_with fail
  refine (pairV_calls A1 c1 mFG 70 71 3 0 w1 S1.out (by decide) (by decide +kernel) (by decide +kernel) (by decide)).mono ?_
  rintro e w2 ⟨rfl, b2⟩
  have T2 := Lib.hid (T1.out.trans (b2.mono T1.out.size)); clear b2
  go_wp2_with fail
  refine (lawPlain_calls bABC mABC w2 (HL.out.later T2.out) (by decide) pABC).mono ?_
  rintro e w3 ⟨A3, c3, rfl, S3, b3⟩
  have T3 := Lib.hid (T2.out.trans (b3.mono T2.out.size)); clear b3
  have ic := infer_calls A3 c3 mABC 30 w3 S3.out (by decide)
  unfold InferPost at ic
  rw [EIn.out] at ic
  have Ic := Lib.hid ic; clear ic
  go_wp2_with fail
  refine Ic.out.mono ?_
  rintro e w4 ⟨A4, c4, B4, d4, rfl, om4, or4, b4⟩
  have T4 := Lib.hid (T3.out.trans (b4.mono T3.out.size)); clear b4
  have M4 := Lib.hid (own_mods om4 (Below.refl _ _)).2
  have R4 := Lib.hid (own_ruls or4 (Below.refl _ _))
  clear om4 or4
  have sc := size_calls A4 c4 ([67, 67].map modOf) B4 d4 (rABC.map rulO) w4 R4.out M4.out Hsm.out
  unfold PairPost at sc
  rw [ESz.out, List.length_map, List.length_map] at sc
  have Sc := Lib.hid sc; clear sc
  go_wp2_with fail
  refine Sc.out.mono ?_
  rintro e w5 ⟨rfl, b5⟩
  have T5 := Lib.hid (T4.out.trans (b5.mono T4.out.size))
  have ec := expand_calls A4 c4 ([67, 67].map modOf) B4 d4 (rABC.map rulO) w5 (R4.out.later b5) (M4.out.later b5) Hsm.out
  clear b5
  unfold RRunPost at ec
  rw [List.length_map, List.length_map, show (rABC.length : Int) = 3 from rfl, EEx.out] at ec
  have Ec := Lib.hid ec; clear ec
  go_wp2_with fail
  refine Ec.out.mono ?_
  rintro e w6 ⟨A6, c6, rfl, o6, b6⟩
  have T6 := Lib.hid (T5.out.trans (b6.mono T5.out.size)); clear b6
  have S6 := Lib.hid (ownF_sl o6); clear o6
  go_wp2_with fail
  refine (infersA ⟨#[70, 71, 70, 71, 70, 71]⟩ 30 ⟨#[65, 65, 65]⟩ #[.string ⟨#[65, 70, 71]⟩] 1 1 [65, 65, 65] [(65, 70, 71)] w6 (HL.out.later T6.out) rfl rfl (by decide +kernel)).mono ?_
  rintro e w7 ⟨rfl, b7⟩
  have T7 := Lib.hid (T6.out.trans (b7.mono T6.out.size))
  have S7 := Lib.hid (S6.out.later b7); clear b7
  go_wp2_with fail
  refine (infersA ⟨#[70, 70, 70, 70, 70]⟩ 30 ⟨#[65, 65, 70]⟩ #[.string ⟨#[65, 70, 70]⟩] 1 1 [65, 65, 70] [(65, 70, 70)] w7 (HL.out.later T7.out) rfl rfl (by decide +kernel)).mono ?_
  rintro e w8 ⟨rfl, b8⟩
  have T8 := Lib.hid (T7.out.trans (b8.mono T7.out.size))
  have S8 := Lib.hid (S7.out.later b8); clear b8
  go_wp2_with fail
  refine (infersA bABC 30 ⟨#[67, 67]⟩ #[.string ⟨#[65, 97, 98]⟩, .string ⟨#[66, 65, 99]⟩, .string ⟨#[67, 66, 66]⟩] 3 3 [67, 67] rABC w8 (HL.out.later T8.out) rfl rfl (by decide +kernel)).mono ?_
  rintro e w9 ⟨rfl, b9⟩
  have T9 := Lib.hid (T8.out.trans (b9.mono T8.out.size))
  have S9 := Lib.hid (S8.out.later b9); clear b9
  go_wp2_with fail
  refine (lawPlain_calls bABC mABC w9 (HL.out.later T9.out) (by decide) pABC).mono ?_
  rintro e w10 ⟨A10, c10, rfl, S10, b10⟩
  have T10 := Lib.hid (T9.out.trans (b10.mono T9.out.size))
  have sab := refSame_calls A6 A10 c6 c10 mABC mABC w10 (S9.out.later b10) S10.out
  rw [beq_self_eq_true] at sab
  have Sab := Lib.hid sab; clear sab
  clear b10
  go_wp2_with fail
  refine Sab.out.mono ?_
  rintro e w11 ⟨rfl, b11⟩
  have T11 := Lib.hid (T10.out.trans (b11.mono T10.out.size)); clear b11
  go_wp2
  go_ret
  exact ⟨rfl, T11.out⟩
end Go.Proofs.YtckffdaomjbglaaDoor
