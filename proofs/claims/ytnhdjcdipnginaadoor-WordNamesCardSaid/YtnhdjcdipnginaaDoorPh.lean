/-
  Layer 6: the examples: given, refused, alive; valid.
-/
import Derived.Test.YtnhdjcdipnginaaDoorPg
import Derived.Test.YtnhdjcdipnginaaDoorWr
import Derived.Test.YtnhdjcdipnginaaDoorLi
namespace Go.Proofs.YtnhdjcdipnginaaDoor
open Go.RowKit Go.Sort
set_option linter.unusedVariables false

theorem mod_R {F : Nat → Prop} {w : World} {c : Int} {A : Option Addr} {k cap : Nat} {xs : List Int} (hc : Fits .u8 c) (h : SlAt (pI .i64) F w A cap xs) (hk : xs.length = k) : pMod.R F w [.int .u8 c, .slice A k cap] ⟨c, xs⟩ := by
  subst hk; exact ⟨A, cap, rfl, hc, h⟩
theorem mod0_R {F : Nat → Prop} {w : World} {c : Int} (hc : Fits .u8 c) : pMod.R F w [.int .u8 c, .slice none 0 0] ⟨c, []⟩ := mod_R hc sl_none rfl
def bareW (cs : List Int) : List Mod := cs.map fun c => ⟨c, []⟩
def bareC (cs : List Int) : List Value := cs.flatMap fun c => [.int .u8 c, .slice none 0 0]
theorem bare_cells {F : Nat → Prop} {w : World} : ∀ {cs : List Int}, (∀ c ∈ cs, Fits .u8 c) → CellsAre pMod F w (bareC cs) (bareW cs)
  | [], _ => rfl
  | c :: cs, h => ⟨[.int .u8 c, .slice none 0 0], bareC cs, rfl, mod0_R (h c (by simp)), bare_cells fun x hx => h x (by simp [hx])⟩
theorem fits_bytes {cs : List Int} (h : (cs.all fun c => decide (0 ≤ c) && decide (c ≤ 255)) = true) : ∀ c ∈ cs, Fits .u8 c := by
  intro c hc
  have := List.all_eq_true.1 h c hc
  simp only [Bool.and_eq_true, decide_eq_true_eq] at this
  exact fits_u8 (by omega)
theorem own_sl {w : World} {e : TypeId} {B : Nat} {A : Option Addr} {n c : Nat} {xs : List Mod} (h : Own pMod e B (B ≤ ·) w (.slice A n c) xs) : SlAt pMod (Old w) w A c xs := (h.sl'.2).wide fun q hq => hq.2
theorem ownF_sl {w : World} {e : TypeId} {B : Nat} {A : Option Addr} {n c : Nat} {xs : List Mod} (h : Own pModF e B (B ≤ ·) w (.slice A n c) xs) : SlAt pMod (Old w) w A c xs := slAt_modF ((h.sl'.2).wide fun q hq => hq.2)

def givenW : List Mod := [⟨70, [1, -2]⟩, ⟨91, []⟩, ⟨43, []⟩, ⟨70, []⟩, ⟨93, []⟩, ⟨70, []⟩]
def trunkW : List Mod := [⟨70, [1, -2]⟩, ⟨70, []⟩]
theorem tx_given : textF givenW = ([70, 40, 49, 44, 45, 50, 41, 91, 43, 70, 93, 70], 0) := by decide +kernel
theorem tx_trunk : textF trunkW = ([70, 40, 49, 44, 45, 50, 41, 70], 0) := by decide +kernel
theorem px_given : parseF [70, 40, 49, 44, 45, 50, 41, 91, 43, 70, 93, 70] = (givenW, 0) := by decide +kernel
theorem dp_given : depthF givenW = (1, 0) := by decide +kernel
theorem st_given : stripF givenW = (trunkW, 0) := by decide +kernel
theorem cl_given {r : Int × Int} (h : CloseIs givenW 1 r) : r = (4, 0) := by
  refine closeIs_one h (.inr (.inr ⟨by decide +kernel, 1, ⟨91, []⟩, rfl, rfl, .inr (.inl ⟨rfl, 4, ⟨by decide, by decide, by decide, ?_⟩, rfl⟩)⟩))
  intro j h1 h2
  have : j = 1 ∨ j = 2 ∨ j = 3 := by omega
  rcases this with rfl | rfl | rfl <;> decide
def WordPost (R : List Mod) (k : Nat) (w : World) (e : Ending) (w' : World) : Prop := ∃ A c, e = .returned (.slice A k c) ∧ Hid (SlAt pMod (Old w') w' A c R) ∧ Below w.heap.size w w'
set_option maxRecDepth 100000 in
set_option maxHeartbeats 2000000 in
theorem given_calls (w : World) : Calls Tryd.prog 20 #[] w (WordPost givenW 6 w) := by
  go_enter Tryd.func20, Tryd.ntmps20
  go_wp2
  go_ret
  refine ⟨some ⟨w.heap.size + 1, 0, none⟩, 6, rfl, ?_, ((Below.refl _ _).alloc (Nat.le_refl _) _).alloc (by simp) _⟩
  obtain ⟨w1, hw1⟩ : ∃ w1, w1 = w.alloc (.cells #[.int .i64 1, .int .i64 (-2)] 3) := ⟨_, rfl⟩
  have hs1 : w1.heap.size = w.heap.size + 1 := by rw [hw1]; simp
  have hb1 : Blk w1 w.heap.size 3 #[.int .i64 1, .int .i64 (-2)] := by rw [hw1]; exact Blk.new _ _ _
  rw [← hw1, ← hs1]
  obtain ⟨w2, hw2⟩ : ∃ w2, w2 = w1.alloc (.cells #[.int .u8 70, .slice (some ⟨w.heap.size, 0, none⟩) 2 2, .int .u8 91, .slice none 0 0, .int .u8 43, .slice none 0 0, .int .u8 70, .slice none 0 0, .int .u8 93, .slice none 0 0, .int .u8 70, .slice none 0 0] 40) := ⟨_, rfl⟩
  have hs2 : w2.heap.size = w1.heap.size + 1 := by rw [hw2]; simp
  have hb2 : Blk w2 w1.heap.size 40 #[.int .u8 70, .slice (some ⟨w.heap.size, 0, none⟩) 2 2, .int .u8 91, .slice none 0 0, .int .u8 43, .slice none 0 0, .int .u8 70, .slice none 0 0, .int .u8 93, .slice none 0 0, .int .u8 70, .slice none 0 0] := by rw [hw2]; exact Blk.new _ _ _
  have hb12 : Blk w2 w.heap.size 3 #[.int .i64 1, .int .i64 (-2)] := by rw [hw2]; exact hb1.alloc _
  have hargs : SlAt (pI .i64) (Old w2) w2 (some ⟨w.heap.size, 0, none⟩) 2 [1, -2] := sl_lit hb12 (ints_lit (xs := [1, -2]) (by decide)) (by show w.heap.size < w2.heap.size; omega) (by decide) rfl
  have hcs : CellsAre pMod (Old w2) w2 [.int .u8 70, .slice (some ⟨w.heap.size, 0, none⟩) 2 2, .int .u8 91, .slice none 0 0, .int .u8 43, .slice none 0 0, .int .u8 70, .slice none 0 0, .int .u8 93, .slice none 0 0, .int .u8 70, .slice none 0 0] givenW :=
    ⟨[.int .u8 70, .slice (some ⟨w.heap.size, 0, none⟩) 2 2], _, rfl, mod_R (fits_u8 (n := 70) (by decide)) hargs rfl, bare_cells (cs := [91, 43, 70, 93, 70]) (fits_bytes (by decide))⟩
  have hfin : SlAt pMod (Old w2) w2 (some ⟨w1.heap.size, 0, none⟩) 6 givenW := sl_lit hb2 hcs (by show w1.heap.size < w2.heap.size; omega) (by decide) rfl
  rw [hw2] at hfin
  exact hfin
theorem refused_calls (s : ByteArray) (w : World) (hs : s.size ≤ 60000) (hL : LibAt w) (hr : parseF s.data.toList = ([], 12)) : Calls Tryd.prog 18 #[.string s] w (OkPost w) := by
  have hp := parse_calls s w hs hL
  unfold ParsePost at hp
  rw [hr] at hp
  have Hp := Lib.hid hp; clear hp
  have Hr := Lib.hid hr; clear hr
  go_enter Tryd.func18, Tryd.ntmps18
  go_wp2_with fail
  refine Hp.out.mono ?_
  rintro e w1 ⟨A, c, rfl, _, hb⟩
  have Hb := Lib.hid hb; clear hb
  go_wp2
  go_ret
  exact ⟨rfl, Hb.out⟩
set_option maxRecDepth 100000 in
set_option maxHeartbeats 4000000 in
theorem alive_calls (w : World) (hL : LibAt w) : Calls Tryd.prog 15 #[] w (OkPost w) := by
  have HL := Lib.hid hL; clear hL
  go_enter Tryd.func15, Tryd.ntmps15
  go_wp2_with fail
  refine (given_calls w).mono ?_
  rintro e w1 ⟨A1, c1, rfl, S1, b1⟩
  have T1 := Lib.hid b1; clear b1
  have p2 := text_calls A1 c1 givenW w1 S1.out (HL.out.later T1.out)
  unfold TextPost at p2
  rw [tx_given] at p2
  have P2 := Lib.hid p2; clear p2
  go_wp2_with fail
  refine P2.out.mono ?_
  rintro e w2 ⟨rfl, b2⟩
  have T2 := Lib.hid (T1.out.trans (b2.mono T1.out.size)); clear b2
  have p3 := parse_calls ⟨#[70, 40, 49, 44, 45, 50, 41, 91, 43, 70, 93, 70]⟩ w2 (by decide) (HL.out.later T2.out)
  unfold ParsePost at p3
  rw [show (ByteArray.mk #[70, 40, 49, 44, 45, 50, 41, 91, 43, 70, 93, 70]).data.toList = [70, 40, 49, 44, 45, 50, 41, 91, 43, 70, 93, 70] from rfl, px_given] at p3
  have P3 := Lib.hid p3; clear p3
  go_wp2_with fail
  refine P3.out.mono ?_
  rintro e w3 ⟨A3, c3, rfl, o3, b3⟩
  have S3 := Lib.hid (own_sl o3); clear o3
  have T3 := Lib.hid (T2.out.trans (b3.mono T2.out.size)); clear b3
  go_wp2_with fail
  refine (given_calls w3).mono ?_
  rintro e w4 ⟨A4, c4, rfl, S4, b4⟩
  have T4 := Lib.hid (T3.out.trans (b4.mono T3.out.size))
  have S34 := Lib.hid (S3.out.later b4); clear b4 S3
  go_wp2_with fail
  refine (close_calls A4 c4 givenW 1 w4 S4.out (fits_i64 (by decide))).mono ?_
  rintro e w5 ⟨r, hr, rfl, b5⟩
  rw [cl_given hr]
  have T5 := Lib.hid (T4.out.trans (b5.mono T4.out.size))
  have S35 := Lib.hid (S34.out.later b5); clear b5 S34 hr
  go_wp2_with fail
  refine (given_calls w5).mono ?_
  rintro e w6 ⟨A6, c6, rfl, S6, b6⟩
  have T6 := Lib.hid (T5.out.trans (b6.mono T5.out.size))
  have S36 := Lib.hid (S35.out.later b6); clear b6 S35
  have p7 := depth_calls A6 c6 givenW w6 S6.out
  rw [dp_given] at p7
  have P7 := Lib.hid p7; clear p7
  go_wp2_with fail
  refine P7.out.mono ?_
  rintro e w7 ⟨rfl, b7⟩
  have T7 := Lib.hid (T6.out.trans (b7.mono T6.out.size))
  have S37 := Lib.hid (S36.out.later b7); clear b7 S36
  go_wp2_with fail
  refine (given_calls w7).mono ?_
  rintro e w8 ⟨A8, c8, rfl, S8, b8⟩
  have T8 := Lib.hid (T7.out.trans (b8.mono T7.out.size))
  have S38 := Lib.hid (S37.out.later b8); clear b8 S37
  have p9 := strip_calls A8 c8 givenW w8 S8.out (by decide)
  unfold StripPost at p9
  rw [st_given] at p9
  have P9 := Lib.hid p9; clear p9
  go_wp2_with fail
  refine P9.out.mono ?_
  rintro e w9 ⟨A9, c9, rfl, o9, b9⟩
  have S9 := Lib.hid (ownF_sl o9); clear o9
  have T9 := Lib.hid (T8.out.trans (b9.mono T8.out.size))
  have S39 := Lib.hid (S38.out.later b9); clear b9 S38
  have p10 := text_calls A9 c9 trunkW w9 S9.out (HL.out.later T9.out)
  unfold TextPost at p10
  rw [tx_trunk] at p10
  have P10 := Lib.hid p10; clear p10
  go_wp2_with fail
  refine P10.out.mono ?_
  rintro e w10 ⟨rfl, b10⟩
  have T10 := Lib.hid (T9.out.trans (b10.mono T9.out.size))
  have S310 := Lib.hid (S39.out.later b10); clear b10 S39
  go_wp2_with fail
  refine (given_calls w10).mono ?_
  rintro e w11 ⟨A11, c11, rfl, S11, b11⟩
  have T11 := Lib.hid (T10.out.trans (b11.mono T10.out.size))
  have S311 := Lib.hid (S310.out.later b11); clear b11 S310
  have p12 := refSame_calls A3 A11 c3 c11 givenW givenW w11 S311.out S11.out
  rw [beq_self_eq_true] at p12
  have P12 := Lib.hid p12; clear p12
  go_wp2_with fail
  refine P12.out.mono ?_
  rintro e w12 ⟨rfl, b12⟩
  have T12 := Lib.hid (T11.out.trans (b12.mono T11.out.size)); clear b12
  go_wp2_with fail
  refine (refused_calls ⟨#[70, 40, 48, 49, 41]⟩ w12 (by decide) (HL.out.later T12.out) (by decide +kernel)).mono ?_
  rintro e w13 ⟨rfl, b13⟩
  have T13 := Lib.hid (T12.out.trans (b13.mono T12.out.size)); clear b13
  go_wp2_with fail
  refine (refused_calls ⟨#[70, 40, 41]⟩ w13 (by decide) (HL.out.later T13.out) (by decide +kernel)).mono ?_
  rintro e w14 ⟨rfl, b14⟩
  have T14 := Lib.hid (T13.out.trans (b14.mono T13.out.size)); clear b14
  go_wp2_with fail
  refine (refused_calls ⟨#[91, 70]⟩ w14 (by decide) (HL.out.later T14.out) (by decide +kernel)).mono ?_
  rintro e w15 ⟨rfl, b15⟩
  have T15 := Lib.hid (T14.out.trans (b15.mono T14.out.size)); clear b15
  go_wp2
  go_ret
  exact ⟨rfl, T15.out⟩

def validW (ms : List Mod) : Bool := !greatF ms && checkF ms == 0
set_option maxRecDepth 100000 in
set_option maxHeartbeats 2000000 in
theorem valid_calls (A : Option Addr) (c : Nat) (ms : List Mod) (w : World) (h : SlAt pMod (Old w) w A c ms) : Calls Tryd.prog 14 #[.slice A ms.length c] w (BoolPost (validW ms) w) := by
  have hmx := h.lenle
  have H := Lib.hid h; clear h
  cases hg : greatF ms
  · have hr : validW ms = (checkF ms == 0) := by unfold validW; rw [hg]; rfl
    have Hr := Lib.hid hr; clear hr
    go_enter Tryd.func14, Tryd.ntmps14
    go_wp2_with fail
    refine (great_calls A c ms w H.out).mono ?_
    rintro e w' ⟨rfl, rfl⟩
    rw [hg]
    go_wp2_with fail
    refine (refCheck_calls A c ms w H.out).mono ?_
    rintro e w1 ⟨rfl, hb1⟩
    have Hb1 := Lib.hid hb1; clear hb1
    go_wp2
    go_ret
    exact ⟨by rw [Hr.out]; rfl, Hb1.out⟩
  · have hr : validW ms = false := by unfold validW; rw [hg]; rfl
    have Hr := Lib.hid hr; clear hr
    go_enter Tryd.func14, Tryd.ntmps14
    go_wp2_with fail
    refine (great_calls A c ms w H.out).mono ?_
    rintro e w' ⟨rfl, rfl⟩
    rw [hg]
    go_wp2
    go_ret
    exact ⟨by rw [Hr.out]; rfl, Below.refl _ _⟩
end Go.Proofs.YtnhdjcdipnginaaDoor
