/-
  Layer 7: the examples: form, given, becomes, alive; valid.
-/
import Derived.Test.YtipdppkoodlkcaaDoorQa
import Derived.Test.YtipdppkoodlkcaaDoorFi
import Derived.Laws.Rows
namespace Go.Proofs.YtipdppkoodlkcaaDoor
open Go.RowKit Go.Sort
set_option linter.unusedVariables false

theorem lit_new {α : Type} {E : Rp α} {w : World} {t : TypeId} {cells : Array Value} {xs : List α} (h : CellsAre E (Old w) w cells.toList xs) (hm : xs.length ≤ maxLen) {n : Nat} (hn : xs.length = n) :
    SlAt E (Old (w.alloc (.cells cells t))) (w.alloc (.cells cells t)) (some ⟨w.heap.size, 0, none⟩) n xs :=
  sl_lit (Blk.new w t cells) ((CellsAre.keep (fun k hk => Below.heap_alloc _ _ _ hk) h).wide fun k hk => by unfold Old at *; simp; omega) (by show w.heap.size < _; simp) hm hn
theorem frm_R {F : Nat → Prop} {w : World} {c : Int} {A : Option Addr} {k cap : Nat} {xs : List Int} (hc : Fits .i64 c) (h : SlAt (pI .i64) F w A cap xs) (hk : xs.length = k) : pFrm.R F w [.int .i64 c, .slice A k cap] ⟨c, xs⟩ := by
  subst hk; exact ⟨A, cap, rfl, hc, h⟩
theorem shp_R {F : Nat → Prop} {w : World} {c : Int} {A : Option Addr} {k cap : Nat} {xs : List Frm} (hc : Fits .u8 c) (h : SlAt pFrm F w A cap xs) (hk : xs.length = k) : pShp.R F w [.int .u8 c, .slice A k cap] ⟨c, xs⟩ := by
  subst hk; exact ⟨A, cap, rfl, hc, h⟩
theorem rul_R {F : Nat → Prop} {w : World} {c ar : Int} {A B : Option Addr} {k k2 cap cap2 : Nat} {g : List Frm} {o : List Shp} (hc : Fits .u8 c) (ha : Fits .i64 ar) (h : SlAt pFrm F w A cap g) (h2 : SlAt pShp F w B cap2 o) (hk : g.length = k) (hk2 : o.length = k2) :
    pRul.R F w [.int .u8 c, .int .i64 ar, .int .u8 0, .int .u8 0, .slice A k cap, .int .i64 0, .slice B k2 cap2] ⟨c, ar, 0, 0, g, 0, o⟩ := by
  subst hk hk2
  exact ⟨A, cap, B, cap2, rfl, ⟨hc, ha, fits_u8 (n := 0) (by decide), fits_u8 (n := 0) (by decide), fits_i64 (n := 0) (by decide)⟩, h, h2⟩
theorem bl {w : World} (o : Obj) : Below w.heap.size w (w.alloc o) := (Below.refl _ _).alloc (Nat.le_refl _) _

def validQ (rs : List Rul) (ms : List Mod) : Bool := !greatR rs && checkR rs == 0 && (!greatF ms && checkF ms == 0)
theorem validQ_yes {rs : List Rul} {ms : List Mod} (h : validQ rs ms = true) : Small rs ∧ checkR rs = 0 ∧ checkF ms = 0 := by
  unfold validQ at h
  simp only [Bool.and_eq_true, beq_iff_eq, Bool.not_eq_true'] at h
  exact ⟨small_of h.1.1, h.1.2, h.2.2⟩

def LawFormPost (c x : Int) (w : World) (e : Ending) (w' : World) : Prop := ∃ g, e = .returned (.agg #[.int .i64 c, .slice (some ⟨g, 0, none⟩) 1 1]) ∧ Hid (SlAt (pI .i64) (Old w') w' (some ⟨g, 0, none⟩) 1 [x]) ∧ Below w.heap.size w w'
set_option maxRecDepth 100000 in
set_option maxHeartbeats 1000000 in
theorem lawForm_calls (c x : Int) (w : World) (hc : Fits .i64 c) (hx : Fits .i64 x) : Calls Tryd.prog 42 #[.int .i64 c, .int .i64 x] w (LawFormPost c x w) := by
  have hx' := hx.i64
  go_enter Tryd.func42, Tryd.ntmps42
  go_wp2
  (try simp only [Exit.inBlock, Exit.then])
  obtain ⟨v1, hv1⟩ : ∃ v1, v1 = w.alloc (.cells #[.int .i64 c, .slice (some ⟨w.heap.size + 1, 0, none⟩) 1 1] 43) := ⟨_, rfl⟩
  have hz1 : v1.heap.size = w.heap.size + 1 := by rw [hv1]; simp
  have hb1 : Blk v1 w.heap.size 43 #[.int .i64 c, .slice (some ⟨w.heap.size + 1, 0, none⟩) 1 1] := by rw [hv1]; exact Blk.new _ _ _
  have hw1 : Below w.heap.size w v1 := by rw [hv1]; exact bl _
  rw [← hv1]
  refine bodyPost_ret (results_cell_row rfl _ _ w.heap.size 43 #[.int .i64 c, .slice (some ⟨w.heap.size + 1, 0, none⟩) 1 1] (0, 0) _ rfl (hb1.alloc _) Tryd.underlying43 rfl (by kernel_rfl)) rfl ?_
  refine ⟨w.heap.size + 1, rfl, ?_, hw1.trans ((bl _).mono hw1.size)⟩
  rw [← hz1]
  exact lit_new (E := pI .i64) (cells := #[.int .i64 x]) (ints_lit (xs := [x]) (by simp; omega)) (by unfold maxLen; simp) (n := 1) rfl
def givenR : List Rul := [⟨65, 1, 0, 0, [⟨-1, [1]⟩], 0, [⟨70, [⟨0, [1]⟩]⟩, ⟨91, []⟩, ⟨43, []⟩, ⟨65, [⟨-1, [1]⟩]⟩, ⟨93, []⟩]⟩, ⟨65, 1, 0, 0, [], 0, [⟨70, [⟨0, [0]⟩]⟩]⟩]
def RulesPost (R : List Rul) (k : Nat) (w : World) (e : Ending) (w' : World) : Prop := ∃ A c, e = .returned (.slice A k c) ∧ Hid (SlAt pRul (Old w') w' A c R) ∧ Below w.heap.size w w'
set_option maxRecDepth 100000 in
set_option maxHeartbeats 4000000 in
theorem given_calls (w : World) : Calls Tryd.prog 29 #[] w (RulesPost givenR 2 w) := by
  have fm1 : Fits .i64 (-1) := fits_i64 (by decide)
  have f0 : Fits .i64 0 := fits_i64 (by decide)
  have f1 : Fits .i64 1 := fits_i64 (by decide)
  have u65 : Fits .u8 65 := fits_u8 (by decide)
  have u70 : Fits .u8 70 := fits_u8 (by decide)
  have u91 : Fits .u8 91 := fits_u8 (by decide)
  have u43 : Fits .u8 43 := fits_u8 (by decide)
  have u93 : Fits .u8 93 := fits_u8 (by decide)
  go_enter Tryd.func29, Tryd.ntmps29
  go_wp2_with fail
  refine (lawForm_calls (-1) 1 w fm1 f1).mono ?_
  rintro e w1 ⟨g1, rfl, s1, b1⟩
  have G1 := Lib.hid (lit_new (E := pFrm) (w := w1) (t := 43) (cells := #[.int .i64 (-1), .slice (some ⟨g1, 0, none⟩) 1 1]) (xs := [⟨-1, [1]⟩]) ⟨_, [], rfl, frm_R fm1 s1.out rfl, rfl⟩ (by decide) (n := 1) rfl)
  have T1 := Lib.hid (b1.trans ((bl (.cells #[.int .i64 (-1), .slice (some ⟨g1, 0, none⟩) 1 1] 43)).mono b1.size))
  obtain ⟨v1, hv1⟩ : ∃ v1, v1 = w1.alloc (.cells #[.int .i64 (-1), .slice (some ⟨g1, 0, none⟩) 1 1] 43) := ⟨_, rfl⟩
  rw [← hv1] at G1 T1
  clear b1 s1
  go_wp2_with fail
  rw [← hv1]
  refine (lawForm_calls 0 1 v1 f0 f1).mono ?_
  rintro e w2 ⟨g2, rfl, s2, b2⟩
  have G2 := Lib.hid (lit_new (E := pFrm) (w := w2) (t := 43) (cells := #[.int .i64 0, .slice (some ⟨g2, 0, none⟩) 1 1]) (xs := [⟨0, [1]⟩]) ⟨_, [], rfl, frm_R f0 s2.out rfl, rfl⟩ (by decide) (n := 1) rfl)
  have k2 := bl (w := w2) (.cells #[.int .i64 0, .slice (some ⟨g2, 0, none⟩) 1 1] 43)
  obtain ⟨v2, hv2⟩ : ∃ v2, v2 = w2.alloc (.cells #[.int .i64 0, .slice (some ⟨g2, 0, none⟩) 1 1] 43) := ⟨_, rfl⟩
  rw [← hv2] at G2 k2
  have m2 := b2.trans (k2.mono b2.size)
  have T2 := Lib.hid (T1.out.trans (m2.mono T1.out.size))
  have G12 := Lib.hid (G1.out.later m2)
  clear b2 s2 k2 m2 G1
  have Hv1 := Lib.hid hv1; clear hv1
  go_wp2_with fail
  rw [← hv2]
  refine (lawForm_calls (-1) 1 v2 fm1 f1).mono ?_
  rintro e w3 ⟨g3, rfl, s3, b3⟩
  have G3 := Lib.hid (lit_new (E := pFrm) (w := w3) (t := 43) (cells := #[.int .i64 (-1), .slice (some ⟨g3, 0, none⟩) 1 1]) (xs := [⟨-1, [1]⟩]) ⟨_, [], rfl, frm_R fm1 s3.out rfl, rfl⟩ (by decide) (n := 1) rfl)
  have k3 := bl (w := w3) (.cells #[.int .i64 (-1), .slice (some ⟨g3, 0, none⟩) 1 1] 43)
  obtain ⟨v3, hv3⟩ : ∃ v3, v3 = w3.alloc (.cells #[.int .i64 (-1), .slice (some ⟨g3, 0, none⟩) 1 1] 43) := ⟨_, rfl⟩
  rw [← hv3] at G3 k3
  have m3 := b3.trans (k3.mono b3.size)
  have T3 := Lib.hid (T2.out.trans (m3.mono T2.out.size))
  have G13 := G12.out.later m3
  have G23 := G2.out.later m3
  clear b3 s3 k3 m3 G12 G2
  have G4 := lit_new (E := pShp) (w := v3) (t := 40) (cells := #[.int .u8 70, .slice (some ⟨w2.heap.size, 0, none⟩) 1 1, .int .u8 91, .slice none 0 0, .int .u8 43, .slice none 0 0, .int .u8 65, .slice (some ⟨w3.heap.size, 0, none⟩) 1 1, .int .u8 93, .slice none 0 0])
    (xs := [⟨70, [⟨0, [1]⟩]⟩, ⟨91, []⟩, ⟨43, []⟩, ⟨65, [⟨-1, [1]⟩]⟩, ⟨93, []⟩])
    ⟨_, [.int .u8 91, .slice none 0 0, .int .u8 43, .slice none 0 0, .int .u8 65, .slice (some ⟨w3.heap.size, 0, none⟩) 1 1, .int .u8 93, .slice none 0 0], rfl, shp_R u70 G23 rfl,
     _, [.int .u8 43, .slice none 0 0, .int .u8 65, .slice (some ⟨w3.heap.size, 0, none⟩) 1 1, .int .u8 93, .slice none 0 0], rfl, shp_R u91 sl_none rfl,
     _, [.int .u8 65, .slice (some ⟨w3.heap.size, 0, none⟩) 1 1, .int .u8 93, .slice none 0 0], rfl, shp_R u43 sl_none rfl,
     _, [.int .u8 93, .slice none 0 0], rfl, shp_R u65 G3.out rfl, _, [], rfl, shp_R u93 sl_none rfl, rfl⟩ (by decide) (n := 5) rfl
  have k4 := bl (w := v3) (.cells #[.int .u8 70, .slice (some ⟨w2.heap.size, 0, none⟩) 1 1, .int .u8 91, .slice none 0 0, .int .u8 43, .slice none 0 0, .int .u8 65, .slice (some ⟨w3.heap.size, 0, none⟩) 1 1, .int .u8 93, .slice none 0 0] 40)
  obtain ⟨v4, hv4⟩ : ∃ v4, v4 = v3.alloc (.cells #[.int .u8 70, .slice (some ⟨w2.heap.size, 0, none⟩) 1 1, .int .u8 91, .slice none 0 0, .int .u8 43, .slice none 0 0, .int .u8 65, .slice (some ⟨w3.heap.size, 0, none⟩) 1 1, .int .u8 93, .slice none 0 0] 40) := ⟨_, rfl⟩
  rw [← hv4] at G4 k4
  have T4 := Lib.hid (T3.out.trans (k4.mono T3.out.size))
  have G14 := G13.later k4
  clear G13 G23 G3 k4
  have Hv3 := Lib.hid hv3; clear hv3
  go_wp2_with fail
  rw [← Hv3.out, ← hv4]
  refine (lawForm_calls 0 0 v4 f0 f0).mono ?_
  rintro e w5 ⟨g5, rfl, s5, b5⟩
  have G5 := lit_new (E := pFrm) (w := w5) (t := 43) (cells := #[.int .i64 0, .slice (some ⟨g5, 0, none⟩) 1 1]) (xs := [⟨0, [0]⟩]) ⟨_, [], rfl, frm_R f0 s5.out rfl, rfl⟩ (by decide) (n := 1) rfl
  have k5 := bl (w := w5) (.cells #[.int .i64 0, .slice (some ⟨g5, 0, none⟩) 1 1] 43)
  obtain ⟨v5, hv5⟩ : ∃ v5, v5 = w5.alloc (.cells #[.int .i64 0, .slice (some ⟨g5, 0, none⟩) 1 1] 43) := ⟨_, rfl⟩
  rw [← hv5] at G5 k5
  have m5 := b5.trans (k5.mono b5.size)
  have T5 := T4.out.trans (m5.mono T4.out.size)
  have G15 := G14.later m5
  have G45 := G4.later m5
  have G6 := lit_new (E := pShp) (w := v5) (t := 40) (cells := #[.int .u8 70, .slice (some ⟨w5.heap.size, 0, none⟩) 1 1]) (xs := [⟨70, [⟨0, [0]⟩]⟩]) ⟨_, [], rfl, shp_R u70 G5 rfl, rfl⟩ (by decide) (n := 1) rfl
  have k6 := bl (w := v5) (.cells #[.int .u8 70, .slice (some ⟨w5.heap.size, 0, none⟩) 1 1] 40)
  obtain ⟨v6, hv6⟩ : ∃ v6, v6 = v5.alloc (.cells #[.int .u8 70, .slice (some ⟨w5.heap.size, 0, none⟩) 1 1] 40) := ⟨_, rfl⟩
  rw [← hv6] at G6 k6
  have T6 := T5.trans (k6.mono T5.size)
  have G16 := G15.later k6
  have G46 := G45.later k6
  have G7 := lit_new (E := pRul) (w := v6) (t := 27) (cells := #[.int .u8 65, .int .i64 1, .int .u8 0, .int .u8 0, .slice (some ⟨w1.heap.size, 0, none⟩) 1 1, .int .i64 0, .slice (some ⟨v3.heap.size, 0, none⟩) 5 5, .int .u8 65, .int .i64 1, .int .u8 0, .int .u8 0, .slice none 0 0, .int .i64 0, .slice (some ⟨v5.heap.size, 0, none⟩) 1 1]) (xs := givenR)
    ⟨_, [.int .u8 65, .int .i64 1, .int .u8 0, .int .u8 0, .slice none 0 0, .int .i64 0, .slice (some ⟨v5.heap.size, 0, none⟩) 1 1], rfl, rul_R u65 f1 G16 G46 rfl rfl, _, [], rfl, rul_R u65 f1 sl_none G6 rfl rfl, rfl⟩ (by decide) (n := 2) rfl
  have k7 := bl (w := v6) (.cells #[.int .u8 65, .int .i64 1, .int .u8 0, .int .u8 0, .slice (some ⟨w1.heap.size, 0, none⟩) 1 1, .int .i64 0, .slice (some ⟨v3.heap.size, 0, none⟩) 5 5, .int .u8 65, .int .i64 1, .int .u8 0, .int .u8 0, .slice none 0 0, .int .i64 0, .slice (some ⟨v5.heap.size, 0, none⟩) 1 1] 27)
  have T7 := T6.trans (k7.mono T6.size)
  clear b5 s5 k5 m5 T5 G15 G45 G5 G6 k6 T6 G16 G46 k7 G4 G14
  obtain ⟨g7, t7⟩ : Hid (SlAt pRul _ _ (some ⟨v6.heap.size, 0, none⟩) 2 givenR) ∧ Hid (Below w.heap.size w _) := ⟨G7, T7⟩
  clear G7 T7
  have z3 : v3.heap.size = w3.heap.size + 1 := by rw [Hv3.out]; simp
  have z5 : v5.heap.size = w5.heap.size + 1 := by rw [hv5]; simp
  have z6 : v6.heap.size = w5.heap.size + 1 + 1 := by rw [hv6]; simp [z5]
  rw [z6, z3, z5] at g7
  rw [z3, z5] at t7
  go_wp2
  rw [← hv5, ← hv6]
  go_ret
  exact ⟨_, _, rfl, g7, t7.out⟩
def bA2 : ByteArray := ⟨#[65, 40, 50, 41]⟩
set_option maxRecDepth 100000 in
set_option maxHeartbeats 2000000 in
theorem becomes_calls (s : ByteArray) (n : Int) (t : ByteArray) (ms vs : List Mod) (w : World) (hL : LibAt w) (hs : s.size ≤ 60000) (hn : Fits .i64 n) (h1 : parseF s.data.toList = (ms, 0)) (h2 : rRunF givenR ms n = (vs, 0)) (h3 : textF vs = (t.data.toList, 0)) :
    Calls Tryd.prog 14 #[.string s, .int .i64 n, .string t] w (OkPost w) := by
  have hp := parse_calls s w hs hL
  unfold ParsePost at hp
  rw [h1] at hp
  have hsm : Small givenR := small_of (by decide +kernel)
  have Hp := Lib.hid hp; clear hp
  have HL := Lib.hid hL; clear hL
  have H1 := Lib.hid h1; clear h1
  have Hsm := Lib.hid hsm; clear hsm
  go_enter Tryd.func14, Tryd.ntmps14
  go_wp2_with fail
  refine Hp.out.mono ?_
  rintro e w1 ⟨A1, c1, rfl, o1, b1⟩
  have S1 := Lib.hid (own_sl o1)
  have T1 := Lib.hid b1; clear b1 o1
  go_wp2_with fail
  refine (given_calls w1).mono ?_
  rintro e w2 ⟨A2, c2, rfl, S2, b2⟩
  have T2 := Lib.hid (T1.out.trans (b2.mono T1.out.size))
  have S12 := Lib.hid (S1.out.later b2); clear b2 S1
  have p3 := rRun_calls A2 c2 givenR A1 c1 ms n w2 S2.out S12.out Hsm.out hn
  unfold RRunPost at p3
  rw [h2] at p3
  have P3 := Lib.hid p3; clear p3
  have H2 := Lib.hid h2; clear h2
  go_wp2_with fail
  refine P3.out.mono ?_
  rintro e w3 ⟨A3, c3, rfl, o3, b3⟩
  have S3 := Lib.hid (ownF_sl o3)
  have T3 := Lib.hid (T2.out.trans (b3.mono T2.out.size)); clear b3 o3
  have p4 := text_calls A3 c3 vs w3 S3.out (HL.out.later T3.out)
  unfold TextPost at p4
  rw [h3, show (⟨t.data.toList.toArray⟩ : ByteArray) = t from Lib.mk_data t] at p4
  have eb : (t.toList == t.toList) = true := beq_self_eq_true _
  have P4 := Lib.hid p4; clear p4
  have H3 := Lib.hid h3; clear h3
  go_wp2_with fail
  refine P4.out.mono ?_
  rintro e w4 ⟨rfl, b4⟩
  have T4 := Lib.hid (T3.out.trans (b4.mono T3.out.size)); clear b4
  go_wp2
  go_ret
  exact ⟨rfl, T4.out⟩
def vW1 : List Mod := [⟨70, [2]⟩, ⟨91, []⟩, ⟨43, []⟩, ⟨65, [1]⟩, ⟨93, []⟩]
def vW2 : List Mod := [⟨70, [2]⟩, ⟨91, []⟩, ⟨43, []⟩, ⟨70, [1]⟩, ⟨91, []⟩, ⟨43, []⟩, ⟨65, [0]⟩, ⟨93, []⟩, ⟨93, []⟩]
def vW3 : List Mod := [⟨70, [2]⟩, ⟨91, []⟩, ⟨43, []⟩, ⟨70, [1]⟩, ⟨91, []⟩, ⟨43, []⟩, ⟨70, [0]⟩, ⟨93, []⟩, ⟨93, []⟩]
theorem pA2 : parseF [65, 40, 50, 41] = ([⟨65, [2]⟩], 0) := by decide +kernel
set_option maxRecDepth 100000 in
set_option maxHeartbeats 2000000 in
theorem alive_calls (w : World) (hL : LibAt w) : Calls Tryd.prog 5 #[] w (OkPost w) := by
  have HL := Lib.hid hL; clear hL
  go_enter Tryd.func5, Tryd.ntmps5
  go_wp2_with fail
  refine (becomes_calls ⟨#[65, 40, 50, 41]⟩ 1 ⟨#[70, 40, 50, 41, 91, 43, 65, 40, 49, 41, 93]⟩ [⟨65, [2]⟩] vW1 w HL.out (by decide) (fits_i64 (by decide)) pA2 (by decide +kernel) (by decide +kernel)).mono ?_
  rintro e w1 ⟨rfl, b1⟩
  have T1 := Lib.hid b1; clear b1
  go_wp2_with fail
  refine (becomes_calls ⟨#[65, 40, 50, 41]⟩ 2 ⟨#[70, 40, 50, 41, 91, 43, 70, 40, 49, 41, 91, 43, 65, 40, 48, 41, 93, 93]⟩ [⟨65, [2]⟩] vW2 w1 (HL.out.later T1.out) (by decide) (fits_i64 (by decide)) pA2 (by decide +kernel) (by decide +kernel)).mono ?_
  rintro e w2 ⟨rfl, b2⟩
  have T2 := Lib.hid (T1.out.trans (b2.mono T1.out.size)); clear b2
  go_wp2_with fail
  refine (becomes_calls ⟨#[65, 40, 50, 41]⟩ 3 ⟨#[70, 40, 50, 41, 91, 43, 70, 40, 49, 41, 91, 43, 70, 40, 48, 41, 93, 93]⟩ [⟨65, [2]⟩] vW3 w2 (HL.out.later T2.out) (by decide) (fits_i64 (by decide)) pA2 (by decide +kernel) (by decide +kernel)).mono ?_
  rintro e w3 ⟨rfl, b3⟩
  have T3 := Lib.hid (T2.out.trans (b3.mono T2.out.size)); clear b3
  go_wp2_with fail
  refine (becomes_calls ⟨#[65, 40, 50, 41]⟩ 9 ⟨#[70, 40, 50, 41, 91, 43, 70, 40, 49, 41, 91, 43, 70, 40, 48, 41, 93, 93]⟩ [⟨65, [2]⟩] vW3 w3 (HL.out.later T3.out) (by decide) (fits_i64 (by decide)) pA2 (by decide +kernel) (by decide +kernel)).mono ?_
  rintro e w4 ⟨rfl, b4⟩
  have T4 := Lib.hid (T3.out.trans (b4.mono T3.out.size)); clear b4
  go_wp2
  go_ret
  exact ⟨rfl, T4.out⟩
set_option maxRecDepth 100000 in
set_option maxHeartbeats 2000000 in
theorem valid_calls (A : Option Addr) (c : Nat) (rs : List Rul) (B : Option Addr) (cb : Nat) (ms : List Mod) (w : World) (h : SlAt pRul (Old w) w A c rs) (h1 : SlAt pMod (Old w) w B cb ms) : Calls Tryd.prog 4 #[.slice A rs.length c, .slice B ms.length cb] w (BoolPost (validQ rs ms) w) := by
  have hmx := h.lenle
  have hmy := h1.lenle
  have hgr := greatR_calls A c rs w h
  have H := Lib.hid h; clear h
  have H1 := Lib.hid h1; clear h1
  have Hgr := Lib.hid hgr; clear hgr
  cases hg : greatR rs
  case true =>
    have hr : validQ rs ms = false := by unfold validQ; rw [hg]; rfl
    have Hr := Lib.hid hr; clear hr
    go_enter Tryd.func4, Tryd.ntmps4
    go_wp2_with fail
    refine Hgr.out.mono ?_
    rintro e w' ⟨rfl, rfl⟩
    rw [hg]
    go_wp2
    go_ret
    exact ⟨by rw [Hr.out]; rfl, Below.refl _ _⟩
  case false =>
  have hs := small_of hg
  by_cases hc : checkR rs = 0
  case neg =>
    have hr : validQ rs ms = false := by unfold validQ; rw [hg, show (checkR rs == 0) = false from by simpa using hc]; rfl
    have e0 : (checkR rs == 0) = false := by simpa using hc
    have Hr := Lib.hid hr; clear hr
    have Hc := Lib.hid hc; clear hc
    have Hs := Lib.hid hs; clear hs
    go_enter Tryd.func4, Tryd.ntmps4
    go_wp2_with fail
    refine Hgr.out.mono ?_
    rintro e w' ⟨rfl, rfl⟩
    rw [hg]
    go_wp2_with fail
    refine (refRCheck_calls A c rs w H.out Hs.out).mono ?_
    rintro e w1 ⟨rfl, hb1⟩
    have z1 := hb1.size
    have Hb1 := Lib.hid hb1; clear hb1
    go_wp2
    go_ret
    exact ⟨by rw [Hr.out]; rfl, Hb1.out⟩
  case pos =>
  have e0 : (checkR rs == 0) = true := by simpa using hc
  cases hgw : greatF ms
  case true =>
    have hr : validQ rs ms = false := by unfold validQ; rw [hgw]; simp
    have Hr := Lib.hid hr; clear hr
    have Hc := Lib.hid hc; clear hc
    have Hs := Lib.hid hs; clear hs
    go_enter Tryd.func4, Tryd.ntmps4
    go_wp2_with fail
    refine Hgr.out.mono ?_
    rintro e w' ⟨rfl, rfl⟩
    rw [hg]
    go_wp2_with fail
    refine (refRCheck_calls A c rs w H.out Hs.out).mono ?_
    rintro e w1 ⟨rfl, hb1⟩
    have z1 := hb1.size
    have Hb1 := Lib.hid hb1; clear hb1
    go_wp2_with fail
    refine (great_calls B cb ms w1 (H1.out.later Hb1.out)).mono ?_
    rintro e w' ⟨rfl, rfl⟩
    rw [hgw]
    go_wp2
    go_ret
    exact ⟨by rw [Hr.out]; rfl, Hb1.out⟩
  case false =>
    have hr : validQ rs ms = (checkF ms == 0) := by unfold validQ; rw [hgw, hg, e0]; rfl
    have Hr := Lib.hid hr; clear hr
    have Hc := Lib.hid hc; clear hc
    have Hs := Lib.hid hs; clear hs
    go_enter Tryd.func4, Tryd.ntmps4
    go_wp2_with fail
    refine Hgr.out.mono ?_
    rintro e w' ⟨rfl, rfl⟩
    rw [hg]
    go_wp2_with fail
    refine (refRCheck_calls A c rs w H.out Hs.out).mono ?_
    rintro e w1 ⟨rfl, hb1⟩
    have z1 := hb1.size
    have Hb1 := Lib.hid hb1; clear hb1
    go_wp2_with fail
    refine (great_calls B cb ms w1 (H1.out.later Hb1.out)).mono ?_
    rintro e w' ⟨rfl, rfl⟩
    rw [hgw]
    go_wp2_with fail
    refine (refCheck_calls B cb ms w1 (H1.out.later Hb1.out)).mono ?_
    rintro e w2 ⟨rfl, hb2⟩
    have Hb2 := Lib.hid (Hb1.out.trans (hb2.mono z1)); clear hb2
    have z2 := Hb2.out.size
    go_wp2
    go_ret
    exact ⟨by rw [Hr.out]; rfl, Hb2.out⟩
end Go.Proofs.YtipdppkoodlkcaaDoor
