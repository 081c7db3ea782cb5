/-
  Layer 8: the examples: given, beside, becomes, alive; valid.
-/
import Derived.Test.YtpeknefmjdipmaaGreatDoorKc
import Derived.Test.YtpeknefmjdipmaaGreatDoorPh
import Derived.Test.YtpeknefmjdipmaaGreatDoorFi
import Derived.Test.YtpeknefmjdipmaaGreatDoorDd
import Derived.Test.YtpeknefmjdipmaaGreatDoorCf
import Derived.Test.YtpeknefmjdipmaaGreatDoorCd
namespace Go.Proofs.YtpeknefmjdipmaaGreatDoor
open Go.RowKit Go.Sort
set_option linter.unusedVariables false

theorem shpC_R {F : Nat → Prop} {w : World} {c : Int} {A : Option Addr} {k cap : Nat} {xs : List Frm} (hc : Fits .u8 c) (h : SlAt pFrm F w A cap xs) (hk : xs.length = k) : pShp.R F w [.int .u8 c, .slice A k cap] ⟨c, xs⟩ := by
  subst hk; exact ⟨A, cap, rfl, hc, h⟩
theorem rulC_R {F : Nat → Prop} {w : World} {c ar l r wt : Int} {A B : Option Addr} {k k2 cap cap2 : Nat} {g : List Frm} {o : List Shp} (hc : Fits .u8 c) (ha : Fits .i64 ar) (hl : Fits .u8 l) (hr : Fits .u8 r) (hw : Fits .i64 wt) (h : SlAt pFrm F w A cap g) (h2 : SlAt pShp F w B cap2 o) (hk : g.length = k) (hk2 : o.length = k2) :
    pRul.R F w [.int .u8 c, .int .i64 ar, .int .u8 l, .int .u8 r, .slice A k cap, .int .i64 wt, .slice B k2 cap2] ⟨c, ar, l, r, g, wt, o⟩ := by
  subst hk hk2
  exact ⟨A, cap, B, cap2, rfl, ⟨hc, ha, hl, hr, hw⟩, h, h2⟩
def givenC : List Rul := [⟨65, 0, 66, 0, [], 0, [⟨66, []⟩]⟩, ⟨66, 0, 0, 0, [], 0, [⟨65, []⟩]⟩]
def RulesPostC (R : List Rul) (k : Nat) (w : World) (e : Ending) (w' : World) : Prop := ∃ A c, e = .returned (.slice A k c) ∧ Hid (SlAt pRul (Old w') w' A c R) ∧ Below w.heap.size w w'
abbrev sh66 : Array Value := #[.int .u8 66, .slice none 0 0]
abbrev sh65 : Array Value := #[.int .u8 65, .slice none 0 0]
abbrev rulC2 (l : Int) (wt : Int) (g : Nat) : Array Value := #[.int .u8 65, .int .i64 0, .int .u8 l, .int .u8 0, .slice none 0 0, .int .i64 0, .slice (some ⟨g, 0, none⟩) 1 1, .int .u8 66, .int .i64 0, .int .u8 0, .int .u8 0, .slice none 0 0, .int .i64 wt, .slice (some ⟨g + 1, 0, none⟩) 1 1]
def givenWorld (w : World) : World := ((w.alloc (.cells sh66 64)).alloc (.cells sh65 64)).alloc (.cells (rulC2 66 0 w.heap.size) 38)
theorem givenWorld_size (w : World) : (givenWorld w).heap.size = w.heap.size + 3 := by unfold givenWorld; simp
theorem givenWorld_below (w : World) : Below w.heap.size w (givenWorld w) := (((Below.refl _ _).alloc (Nat.le_refl _) _).alloc (by simp) _).alloc (by simp; omega) _
theorem givenWorld_blk (w : World) : Blk (givenWorld w) w.heap.size 64 sh66 ∧ Blk (givenWorld w) (w.heap.size + 1) 64 sh65 ∧ Blk (givenWorld w) (w.heap.size + 2) 38 (rulC2 66 0 w.heap.size) := by
  have h1 := Blk.new w 64 sh66
  have h2 := Blk.new (w.alloc (.cells sh66 64)) 64 sh65
  have h3 := Blk.new ((w.alloc (.cells sh66 64)).alloc (.cells sh65 64)) 38 (rulC2 66 0 w.heap.size)
  rw [show (w.alloc (.cells sh66 64)).heap.size = w.heap.size + 1 from by simp] at h2
  rw [show ((w.alloc (.cells sh66 64)).alloc (.cells sh65 64)).heap.size = w.heap.size + 2 from by simp] at h3
  exact ⟨(h1.alloc _).alloc _, h2.alloc _, h3⟩
/-- two rules like the examples', in three blocks -/
theorem rulC2_sl {F : Nat → Prop} {W : World} {g : Nat} {l wt : Int} (hl : Fits .u8 l) (hw : Fits .i64 wt) (h1 : Blk W g 64 sh66) (h2 : Blk W (g + 1) 64 sh65) (h3 : Blk W (g + 2) 38 (rulC2 l wt g)) (hF : F g ∧ F (g + 1) ∧ F (g + 2)) :
    SlAt pRul F W (some ⟨g + 2, 0, none⟩) 2 [⟨65, 0, l, 0, [], 0, [⟨66, []⟩]⟩, ⟨66, 0, 0, 0, [], wt, [⟨65, []⟩]⟩] := by
  have f0 : Fits .i64 0 := fits_i64 (by decide)
  have u0 : Fits .u8 0 := fits_u8 (by decide)
  have u65 : Fits .u8 65 := fits_u8 (by decide)
  have u66 : Fits .u8 66 := fits_u8 (by decide)
  have s1 : SlAt pShp F W (some ⟨g, 0, none⟩) 1 [⟨66, []⟩] := sl_lit (E := pShp) (xs := [⟨66, []⟩]) h1 ⟨_, [], rfl, shpC_R u66 sl_none rfl, rfl⟩ hF.1 (by decide) rfl
  have s2 : SlAt pShp F W (some ⟨g + 1, 0, none⟩) 1 [⟨65, []⟩] := sl_lit (E := pShp) (xs := [⟨65, []⟩]) h2 ⟨_, [], rfl, shpC_R u65 sl_none rfl, rfl⟩ hF.2.1 (by decide) rfl
  exact sl_lit (E := pRul) (xs := [⟨65, 0, l, 0, [], 0, [⟨66, []⟩]⟩, ⟨66, 0, 0, 0, [], wt, [⟨65, []⟩]⟩]) h3 ⟨_, [.int .u8 66, .int .i64 0, .int .u8 0, .int .u8 0, .slice none 0 0, .int .i64 wt, .slice (some ⟨g + 1, 0, none⟩) 1 1], rfl, rulC_R u65 f0 hl u0 f0 sl_none s1 rfl rfl, _, [], rfl, rulC_R u66 f0 u0 u0 hw sl_none s2 rfl rfl, rfl⟩ hF.2.2 (by show 2 ≤ maxLen; decide) rfl
set_option maxRecDepth 100000 in
set_option maxHeartbeats 4000000 in
theorem givenC_raw (w : World) : Calls Tryz.prog 42 #[] w fun e w' => e = .returned (.slice (some ⟨w.heap.size + 2, 0, none⟩) 2 2) ∧ w' = givenWorld w := by
  go_enter Tryz.func42, Tryz.ntmps42
  go_wp2
  go_ret
  exact ⟨rfl, rfl⟩
theorem givenC_calls (w : World) : Calls Tryz.prog 42 #[] w (RulesPostC givenC 2 w) := by
  refine (givenC_raw w).mono ?_
  rintro e w' ⟨rfl, rfl⟩
  obtain ⟨h1, h2, h3⟩ := givenWorld_blk w
  have hz := givenWorld_size w
  exact ⟨_, _, rfl, rulC2_sl (fits_u8 (n := 66) (by decide)) (fits_i64 (n := 0) (by decide)) h1 h2 h3 ⟨by show _ < _; omega, by show _ < _; omega, by show _ < _; omega⟩, givenWorld_below w⟩
set_option maxRecDepth 100000 in
set_option maxHeartbeats 2000000 in
theorem beside_calls (s : ByteArray) (i : Int) (p : ByteArray) (l r : Int) (ms : List Mod) (w : World) (hL : LibAt w) (hs : s.size ≤ 60000) (hi : Fits .i64 i) (hp : p.size ≤ 1000) (h1 : parseF s.data.toList = (ms, 0)) (h2 : sideF (leftF p ms) ms i p = (l, 0)) (h3 : sideF (rightF p ms) ms i p = (r, 0)) :
    Calls Tryz.prog 20 #[.string s, .int .i64 i, .string p, .int .i64 l, .int .i64 r] w (OkPost w) := by
  have hpp := parse_calls s w hs hL
  unfold ParsePost at hpp
  rw [h1] at hpp
  have Hpp := Lib.hid hpp; clear hpp
  have HL := Lib.hid hL; clear hL
  have H1 := Lib.hid h1; clear h1
  go_enter Tryz.func20, Tryz.ntmps20
  go_wp2_with fail
  refine Hpp.out.mono ?_
  rintro e w1 ⟨A1, c1, rfl, o1, b1⟩
  have S1 := Lib.hid (own_sl o1)
  have T1 := Lib.hid b1; clear b1 o1
  have p2 := left_calls A1 c1 ms i p w1 S1.out hi hp
  rw [h2] at p2
  have P2 := Lib.hid p2; clear p2
  go_wp2_with fail
  refine P2.out.mono ?_
  rintro e w2 ⟨rfl, b2⟩
  have T2 := Lib.hid (T1.out.trans (b2.mono T1.out.size))
  have S12 := Lib.hid (S1.out.later b2); clear b2 S1
  have p3 := right_calls A1 c1 ms i p w2 S12.out hi hp
  rw [h3] at p3
  have P3 := Lib.hid p3; clear p3
  go_wp2_with fail
  refine P3.out.mono ?_
  rintro e w3 ⟨rfl, b3⟩
  have T3 := Lib.hid (T2.out.trans (b3.mono T2.out.size)); clear b3
  go_wp2
  go_ret
  exact ⟨rfl, T3.out⟩
set_option maxRecDepth 100000 in
set_option maxHeartbeats 2000000 in
theorem becomesC_calls (s : ByteArray) (n : Int) (t : ByteArray) (ms vs : List Mod) (w : World) (hL : LibAt w) (hs : s.size ≤ 60000) (hn : Fits .i64 n) (h1 : parseF s.data.toList = (ms, 0)) (h2 : cRunF givenC ⟨#[]⟩ ms n = (vs, 0)) (h3 : textF vs = (t.data.toList, 0)) :
    Calls Tryz.prog 21 #[.string s, .int .i64 n, .string t] w (OkPost w) := by
  have hp := parse_calls s w hs hL
  unfold ParsePost at hp
  rw [h1] at hp
  have hsm : Small givenC := small_of (by decide +kernel)
  have Hp := Lib.hid hp; clear hp
  have HL := Lib.hid hL; clear hL
  have H1 := Lib.hid h1; clear h1
  have Hsm := Lib.hid hsm; clear hsm
  go_enter Tryz.func21, Tryz.ntmps21
  go_wp2_with fail
  refine Hp.out.mono ?_
  rintro e w1 ⟨A1, c1, rfl, o1, b1⟩
  have S1 := Lib.hid (own_sl o1)
  have T1 := Lib.hid b1; clear b1 o1
  go_wp2_with fail
  refine (givenC_calls w1).mono ?_
  rintro e w2 ⟨A2, c2, rfl, S2, b2⟩
  have T2 := Lib.hid (T1.out.trans (b2.mono T1.out.size))
  have S12 := Lib.hid (S1.out.later b2); clear b2 S1
  have p3 := cRun_calls A2 c2 givenC ⟨#[]⟩ A1 c1 ms n w2 S2.out S12.out Hsm.out (by decide) hn
  unfold CRunPost at p3
  rw [h2] at p3
  have P3 := Lib.hid p3; clear p3
  have H2 := Lib.hid h2; clear h2
  go_wp2_with fail
  refine P3.out.mono ?_
  rintro e w3 ⟨A3, c3, rfl, o3, b3⟩
  have S3 := Lib.hid (ownF_sl o3)
  have T3 := Lib.hid (T2.out.trans (b3.mono T2.out.size)); clear b3 o3
  have p4 := text_calls A3 c3 vs w3 S3.out (HL.out.later T3.out)
  unfold TextPost at p4
  rw [h3, show (⟨t.data.toList.toArray⟩ : ByteArray) = t from Lib.mk_data t] at p4
  have eb : (t.toList == t.toList) = true := beq_self_eq_true _
  have P4 := Lib.hid p4; clear p4
  have H3 := Lib.hid h3; clear h3
  go_wp2_with fail
  refine P4.out.mono ?_
  rintro e w4 ⟨rfl, b4⟩
  have T4 := Lib.hid (T3.out.trans (b4.mono T3.out.size)); clear b4
  go_wp2
  go_ret
  exact ⟨rfl, T4.out⟩

set_option maxRecDepth 100000 in
set_option maxHeartbeats 4000000 in
theorem aliveC_calls (w : World) (hL : LibAt w) : Calls Tryz.prog 7 #[] w (OkPost w) := by
  have HL := Lib.hid hL; clear hL
  go_enter Tryz.func7, Tryz.ntmps7
  go_wp2_with fail
  refine (beside_calls ⟨#[65, 91, 66, 93, 67, 91, 68, 91, 69, 93, 70, 93]⟩ 0 ⟨#[]⟩ (-1) 4 [⟨65, []⟩, ⟨91, []⟩, ⟨66, []⟩, ⟨93, []⟩, ⟨67, []⟩, ⟨91, []⟩, ⟨68, []⟩, ⟨91, []⟩, ⟨69, []⟩, ⟨93, []⟩, ⟨70, []⟩, ⟨93, []⟩] w HL.out (by decide) (fits_i64 (by decide)) (by decide) (by decide +kernel) (by decide +kernel) (by decide +kernel)).mono ?_
  rintro e w1 ⟨rfl, b1⟩
  have T1 := Lib.hid b1; clear b1
  go_wp2_with fail
  refine (beside_calls ⟨#[65, 91, 66, 93, 67, 91, 68, 91, 69, 93, 70, 93]⟩ 2 ⟨#[]⟩ 0 (-1) [⟨65, []⟩, ⟨91, []⟩, ⟨66, []⟩, ⟨93, []⟩, ⟨67, []⟩, ⟨91, []⟩, ⟨68, []⟩, ⟨91, []⟩, ⟨69, []⟩, ⟨93, []⟩, ⟨70, []⟩, ⟨93, []⟩] w1 (HL.out.later T1.out) (by decide) (fits_i64 (by decide)) (by decide) (by decide +kernel) (by decide +kernel) (by decide +kernel)).mono ?_
  rintro e w2 ⟨rfl, b2⟩
  have T2 := Lib.hid (T1.out.trans (b2.mono T1.out.size)); clear b2
  go_wp2_with fail
  refine (beside_calls ⟨#[65, 91, 66, 93, 67, 91, 68, 91, 69, 93, 70, 93]⟩ 4 ⟨#[]⟩ 0 (-1) [⟨65, []⟩, ⟨91, []⟩, ⟨66, []⟩, ⟨93, []⟩, ⟨67, []⟩, ⟨91, []⟩, ⟨68, []⟩, ⟨91, []⟩, ⟨69, []⟩, ⟨93, []⟩, ⟨70, []⟩, ⟨93, []⟩] w2 (HL.out.later T2.out) (by decide) (fits_i64 (by decide)) (by decide) (by decide +kernel) (by decide +kernel) (by decide +kernel)).mono ?_
  rintro e w3 ⟨rfl, b3⟩
  have T3 := Lib.hid (T2.out.trans (b3.mono T2.out.size)); clear b3
  go_wp2_with fail
  refine (beside_calls ⟨#[65, 91, 66, 93, 67, 91, 68, 91, 69, 93, 70, 93]⟩ 6 ⟨#[]⟩ 4 10 [⟨65, []⟩, ⟨91, []⟩, ⟨66, []⟩, ⟨93, []⟩, ⟨67, []⟩, ⟨91, []⟩, ⟨68, []⟩, ⟨91, []⟩, ⟨69, []⟩, ⟨93, []⟩, ⟨70, []⟩, ⟨93, []⟩] w3 (HL.out.later T3.out) (by decide) (fits_i64 (by decide)) (by decide) (by decide +kernel) (by decide +kernel) (by decide +kernel)).mono ?_
  rintro e w4 ⟨rfl, b4⟩
  have T4 := Lib.hid (T3.out.trans (b4.mono T3.out.size)); clear b4
  go_wp2_with fail
  refine (beside_calls ⟨#[65, 91, 66, 93, 67, 91, 68, 91, 69, 93, 70, 93]⟩ 8 ⟨#[]⟩ 6 (-1) [⟨65, []⟩, ⟨91, []⟩, ⟨66, []⟩, ⟨93, []⟩, ⟨67, []⟩, ⟨91, []⟩, ⟨68, []⟩, ⟨91, []⟩, ⟨69, []⟩, ⟨93, []⟩, ⟨70, []⟩, ⟨93, []⟩] w4 (HL.out.later T4.out) (by decide) (fits_i64 (by decide)) (by decide) (by decide +kernel) (by decide +kernel) (by decide +kernel)).mono ?_
  rintro e w5 ⟨rfl, b5⟩
  have T5 := Lib.hid (T4.out.trans (b5.mono T4.out.size)); clear b5
  go_wp2_with fail
  refine (beside_calls ⟨#[65, 91, 66, 93, 67, 91, 68, 91, 69, 93, 70, 93]⟩ 10 ⟨#[]⟩ 6 (-1) [⟨65, []⟩, ⟨91, []⟩, ⟨66, []⟩, ⟨93, []⟩, ⟨67, []⟩, ⟨91, []⟩, ⟨68, []⟩, ⟨91, []⟩, ⟨69, []⟩, ⟨93, []⟩, ⟨70, []⟩, ⟨93, []⟩] w5 (HL.out.later T5.out) (by decide) (fits_i64 (by decide)) (by decide) (by decide +kernel) (by decide +kernel) (by decide +kernel)).mono ?_
  rintro e w6 ⟨rfl, b6⟩
  have T6 := Lib.hid (T5.out.trans (b6.mono T5.out.size)); clear b6
  go_wp2_with fail
  refine (becomesC_calls ⟨#[66, 65, 65, 65]⟩ 1 ⟨#[65, 66, 65, 65]⟩ [⟨66, []⟩, ⟨65, []⟩, ⟨65, []⟩, ⟨65, []⟩] [⟨65, []⟩, ⟨66, []⟩, ⟨65, []⟩, ⟨65, []⟩] w6 (HL.out.later T6.out) (by decide) (fits_i64 (by decide)) (by decide +kernel) (by decide +kernel) (by decide +kernel)).mono ?_
  rintro e w7 ⟨rfl, b7⟩
  have T7 := Lib.hid (T6.out.trans (b7.mono T6.out.size)); clear b7
  go_wp2_with fail
  refine (becomesC_calls ⟨#[66, 65, 65, 65]⟩ 2 ⟨#[65, 65, 66, 65]⟩ [⟨66, []⟩, ⟨65, []⟩, ⟨65, []⟩, ⟨65, []⟩] [⟨65, []⟩, ⟨65, []⟩, ⟨66, []⟩, ⟨65, []⟩] w7 (HL.out.later T7.out) (by decide) (fits_i64 (by decide)) (by decide +kernel) (by decide +kernel) (by decide +kernel)).mono ?_
  rintro e w8 ⟨rfl, b8⟩
  have T8 := Lib.hid (T7.out.trans (b8.mono T7.out.size)); clear b8
  go_wp2_with fail
  refine (becomesC_calls ⟨#[66, 65, 65, 65]⟩ 3 ⟨#[65, 65, 65, 66]⟩ [⟨66, []⟩, ⟨65, []⟩, ⟨65, []⟩, ⟨65, []⟩] [⟨65, []⟩, ⟨65, []⟩, ⟨65, []⟩, ⟨66, []⟩] w8 (HL.out.later T8.out) (by decide) (fits_i64 (by decide)) (by decide +kernel) (by decide +kernel) (by decide +kernel)).mono ?_
  rintro e w9 ⟨rfl, b9⟩
  have T9 := Lib.hid (T8.out.trans (b9.mono T8.out.size)); clear b9
  go_wp2_with fail
  refine (beside_calls ⟨#[65, 43, 66]⟩ 2 ⟨#[43]⟩ 0 (-1) [⟨65, []⟩, ⟨43, []⟩, ⟨66, []⟩] w9 (HL.out.later T9.out) (by decide) (fits_i64 (by decide)) (by decide) (by decide +kernel) (by decide +kernel) (by decide +kernel)).mono ?_
  rintro e w10 ⟨rfl, b10⟩
  have T10 := Lib.hid (T9.out.trans (b10.mono T9.out.size)); clear b10
  go_wp2_with fail
  refine (beside_calls ⟨#[65, 43, 66]⟩ 1 ⟨#[43]⟩ 0 2 [⟨65, []⟩, ⟨43, []⟩, ⟨66, []⟩] w10 (HL.out.later T10.out) (by decide) (fits_i64 (by decide)) (by decide) (by decide +kernel) (by decide +kernel) (by decide +kernel)).mono ?_
  rintro e w11 ⟨rfl, b11⟩
  have T11 := Lib.hid (T10.out.trans (b11.mono T10.out.size)); clear b11
  go_wp2
  go_ret
  exact ⟨rfl, T11.out⟩

def validC (rs : List Rul) (p : ByteArray) (ms : List Mod) : Bool := !greatR rs && decide (p.size ≤ 100) && checkC rs p == 0 && (!greatF ms && decide (ms.length ≤ 300) && checkF ms == 0)
theorem validC_yes {rs : List Rul} {p : ByteArray} {ms : List Mod} (h : validC rs p ms = true) : Small rs ∧ p.size ≤ 100 ∧ checkC rs p = 0 ∧ ms.length ≤ 300 ∧ checkF ms = 0 := by
  unfold validC at h
  simp only [Bool.and_eq_true, beq_iff_eq, Bool.not_eq_true', decide_eq_true_eq] at h
  exact ⟨small_of h.1.1.1, h.1.1.2, h.1.2, h.2.1.2, h.2.2⟩
set_option maxRecDepth 100000 in
set_option maxHeartbeats 2000000 in
theorem validC_calls (A : Option Addr) (c : Nat) (rs : List Rul) (p : ByteArray) (B : Option Addr) (cb : Nat) (ms : List Mod) (w : World) (h : SlAt pRul (Old w) w A c rs) (h1 : SlAt pMod (Old w) w B cb ms) : Calls Tryz.prog 6 #[.slice A rs.length c, .string p, .slice B ms.length cb] w (BoolPost (validC rs p ms) w) := by
  have hmx := h.lenle
  have hmy := h1.lenle
  have hgr := greatR_calls A c rs w h
  have H := Lib.hid h; clear h
  have H1 := Lib.hid h1; clear h1
  have Hgr := Lib.hid hgr; clear hgr
  cases hg : greatR rs
  case true =>
    have hr : validC rs p ms = false := by unfold validC; rw [hg]; rfl
    have Hr := Lib.hid hr; clear hr
    go_enter Tryz.func6, Tryz.ntmps6
    go_wp2_with fail
    refine Hgr.out.mono ?_
    rintro e w' ⟨rfl, rfl⟩
    rw [hg]
    go_wp2
    go_ret
    exact ⟨by rw [Hr.out]; rfl, Below.refl _ _⟩
  case false =>
  have hs := small_of hg
  by_cases hp : 100 < p.size
  · have hp' : ¬ (p.size : Int) ≤ 100 := by omega
    have hr : validC rs p ms = false := by unfold validC; rw [decide_eq_false (show ¬ p.size ≤ 100 by omega)]; simp
    have Hr := Lib.hid hr; clear hr
    have Hs := Lib.hid hs; clear hs
    go_enter Tryz.func6, Tryz.ntmps6
    go_wp2_with fail
    refine Hgr.out.mono ?_
    rintro e w' ⟨rfl, rfl⟩
    rw [hg]
    go_wp2
    go_ret
    exact ⟨by rw [Hr.out]; rfl, Below.refl _ _⟩
  have hp' : (p.size : Int) ≤ 100 := by omega
  have hp1 : decide (p.size ≤ 100) = true := decide_eq_true (by omega)
  by_cases hc : checkC rs p = 0
  case neg =>
    have e0 : (checkC rs p == 0) = false := by simpa using hc
    have hr : validC rs p ms = false := by unfold validC; rw [e0]; simp
    have Hr := Lib.hid hr; clear hr
    have Hc := Lib.hid hc; clear hc
    have Hs := Lib.hid hs; clear hs
    go_enter Tryz.func6, Tryz.ntmps6
    go_wp2_with fail
    refine Hgr.out.mono ?_
    rintro e w' ⟨rfl, rfl⟩
    rw [hg]
    go_wp2_with fail
    refine (refCCheck_calls A c rs p w H.out Hs.out (by omega)).mono ?_
    rintro e w1 ⟨rfl, hb1⟩
    have z1 := hb1.size
    have Hb1 := Lib.hid hb1; clear hb1
    go_wp2
    go_ret
    exact ⟨by rw [Hr.out]; rfl, Hb1.out⟩
  case pos =>
  have e0 : (checkC rs p == 0) = true := by simpa using hc
  cases hgw : greatF ms
  case true =>
    have hr : validC rs p ms = false := by unfold validC; rw [hgw]; simp
    have Hr := Lib.hid hr; clear hr
    have Hc := Lib.hid hc; clear hc
    have Hs := Lib.hid hs; clear hs
    go_enter Tryz.func6, Tryz.ntmps6
    go_wp2_with fail
    refine Hgr.out.mono ?_
    rintro e w' ⟨rfl, rfl⟩
    rw [hg]
    go_wp2_with fail
    refine (refCCheck_calls A c rs p w H.out Hs.out (by omega)).mono ?_
    rintro e w1 ⟨rfl, hb1⟩
    have z1 := hb1.size
    have Hb1 := Lib.hid hb1; clear hb1
    go_wp2_with fail
    refine (great_calls B cb ms w1 (H1.out.later Hb1.out)).mono ?_
    rintro e w' ⟨rfl, rfl⟩
    rw [hgw]
    go_wp2
    go_ret
    exact ⟨by rw [Hr.out]; rfl, Hb1.out⟩
  case false =>
  by_cases hl : 300 < ms.length
  · have hl' : ¬ (ms.length : Int) ≤ 300 := by omega
    have hr : validC rs p ms = false := by unfold validC; rw [decide_eq_false (show ¬ ms.length ≤ 300 by omega)]; simp
    have Hr := Lib.hid hr; clear hr
    have Hs := Lib.hid hs; clear hs
    have Hc := Lib.hid hc; clear hc
    go_enter Tryz.func6, Tryz.ntmps6
    go_wp2_with fail
    refine Hgr.out.mono ?_
    rintro e w' ⟨rfl, rfl⟩
    rw [hg]
    go_wp2_with fail
    refine (refCCheck_calls A c rs p w H.out Hs.out (by omega)).mono ?_
    rintro e w1 ⟨rfl, hb1⟩
    have z1 := hb1.size
    have Hb1 := Lib.hid hb1; clear hb1
    go_wp2_with fail
    refine (great_calls B cb ms w1 (H1.out.later Hb1.out)).mono ?_
    rintro e w' ⟨rfl, rfl⟩
    rw [hgw]
    go_wp2
    go_ret
    exact ⟨by rw [Hr.out]; rfl, Hb1.out⟩
  · have hl' : (ms.length : Int) ≤ 300 := by omega
    have hr : validC rs p ms = (checkF ms == 0) := by unfold validC; rw [hgw, hg, e0, hp1, decide_eq_true (show ms.length ≤ 300 by omega)]; rfl
    have Hr := Lib.hid hr; clear hr
    have Hc := Lib.hid hc; clear hc
    have Hs := Lib.hid hs; clear hs
    go_enter Tryz.func6, Tryz.ntmps6
    go_wp2_with fail
    refine Hgr.out.mono ?_
    rintro e w' ⟨rfl, rfl⟩
    rw [hg]
    go_wp2_with fail
    refine (refCCheck_calls A c rs p w H.out Hs.out (by omega)).mono ?_
    rintro e w1 ⟨rfl, hb1⟩
    have z1 := hb1.size
    have Hb1 := Lib.hid hb1; clear hb1
    go_wp2_with fail
    refine (great_calls B cb ms w1 (H1.out.later Hb1.out)).mono ?_
    rintro e w' ⟨rfl, rfl⟩
    rw [hgw]
    go_wp2_with fail
    refine (refCheck_calls B cb ms w1 (H1.out.later Hb1.out)).mono ?_
    rintro e w2 ⟨rfl, hb2⟩
    have Hb2 := Lib.hid (Hb1.out.trans (hb2.mono z1)); clear hb2
    have z2 := Hb2.out.size
    go_wp2
    go_ret
    exact ⟨by rw [Hr.out]; rfl, Hb2.out⟩
end Go.Proofs.YtpeknefmjdipmaaGreatDoor
