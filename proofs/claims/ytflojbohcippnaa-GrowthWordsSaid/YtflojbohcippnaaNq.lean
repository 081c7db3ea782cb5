/-
  Layer 10: the walks of alive and valid.
-/
import Derived.Test.YtflojbohcippnaaNp
namespace Go.Proofs.Ytflojbohcippnaa
open Go.RowKit Go.Sort

theorem lit_ints (w : World) (t : TypeId) (xs : List Int) (h : (xs.all fun x => decide (-9223372036854775808 ≤ x) && decide (x ≤ 9223372036854775807)) = true) (hl : xs.length ≤ 100) :
    SlAt (pI .i64) (Old (w.alloc (.cells (xs.map (Value.int .i64)).toArray t))) (w.alloc (.cells (xs.map (Value.int .i64)).toArray t)) (some ⟨w.heap.size, 0, none⟩) xs.length xs :=
  sl_lit (Blk.new w t _) (by simpa using ints_lit h) (by unfold Old; simp) (by unfold maxLen; omega) rfl
/-- a list of lists of numbers, laid by a literal: rows first, then the list of rows -/
theorem lit_rows {W : World} {g : Nat} {t t2 : TypeId} {a b : List Int} (ha : Blk W g t (a.map (Value.int .i64)).toArray) (hb : Blk W (g + 1) t (b.map (Value.int .i64)).toArray) (ht : Blk W (g + 2) t2 #[.slice (some ⟨g, 0, none⟩) a.length a.length, .slice (some ⟨g + 1, 0, none⟩) b.length b.length])
    (h : (a.all fun x => decide (-9223372036854775808 ≤ x) && decide (x ≤ 9223372036854775807)) = true) (h' : (b.all fun x => decide (-9223372036854775808 ≤ x) && decide (x ≤ 9223372036854775807)) = true) (hl : a.length ≤ 100) (hl' : b.length ≤ 100) :
    SlAt (pSl (pI .i64)) (Old W) W (some ⟨g + 2, 0, none⟩) 2 [a, b] := by
  have s1 : SlAt (pI .i64) (Old W) W (some ⟨g, 0, none⟩) a.length a := sl_lit ha (by simpa using ints_lit h) ha.lt (by unfold maxLen; omega) rfl
  have s2 : SlAt (pI .i64) (Old W) W (some ⟨g + 1, 0, none⟩) b.length b := sl_lit hb (by simpa using ints_lit h') hb.lt (by unfold maxLen; omega) rfl
  have hcs : CellsAre (pSl (pI .i64)) (Old W) W [.slice (some ⟨g, 0, none⟩) a.length a.length, .slice (some ⟨g + 1, 0, none⟩) b.length b.length] [a, b] :=
    ⟨[.slice (some ⟨g, 0, none⟩) a.length a.length], [.slice (some ⟨g + 1, 0, none⟩) b.length b.length], rfl, ⟨_, _, rfl, s1⟩, [.slice (some ⟨g + 1, 0, none⟩) b.length b.length], [], rfl, ⟨_, _, rfl, s2⟩, rfl⟩
  exact sl_lit ht hcs ht.lt (by unfold maxLen; simp) rfl

set_option maxRecDepth 100000 in
set_option maxHeartbeats 4000000 in
theorem alive_calls (w : World) : Calls Try.prog 6 #[] w (OkPost w) := by
  have f30 : Fits .i64 30 := fits_i64 (by decide)
  have f65 : Fits .u8 65 := fits_u8 (by decide)
  go_enter Try.func6, Try.ntmps6
  go_wp2_with fail
  refine (given_calls w).mono ?_
  rintro e w1 ⟨A1, c1, rfl, b1, s1⟩
  have S1 := Lib.hid (sl_old s1.out fun q hq => hq.2); clear s1
  have T1 := Lib.hid b1; clear b1
  go_wp2_with fail
  refine (gMatrix_calls A1 c1 givenR pAB w1 S1.out small_given (by decide)).mono ?_
  rintro e w2 ⟨A2, c2, rfl, b2, s2⟩
  rw [m0] at s2 ⊢
  have S2 := Lib.hid (sl_old s2.out fun q hq => hq.2); clear s2
  have T2 := Lib.hid ((T1.out).trans (b2.mono (T1.out).size)); clear b2
  go_wp2_with fail
  refine (given_calls w2).mono ?_
  rintro e w3 ⟨A3, c3, rfl, b3, s3⟩
  have S3 := Lib.hid (sl_old s3.out fun q hq => hq.2); clear s3
  have U3 := Lib.hid ((Below.refl w2.heap.size w2).trans (b3.mono (Below.refl w2.heap.size w2).size))
  have T3 := Lib.hid ((T2.out).trans (b3.mono (T2.out).size)); clear b3
  have V3 : SlAt pRul (Old (modW w3 65)) (modW w3 65) A3 c3 givenR := S3.out.later ((Below.refl _ _).alloc (Nat.le_refl _) _)
  go_wp2_with fail
  refine (gLength_calls A3 c3 givenR pAB (some ⟨w3.heap.size, 0, none⟩) 1 oneA 30 (modW w3 65) V3 small_given (by decide) (mod_boxed 65 f65) f30).mono ?_
  rintro e w4 ⟨rfl, b4⟩
  rw [c30]
  clear V3
  have U4 := Lib.hid ((((U3.out).alloc (U3.out).size (.cells #[.int .u8 65, .slice none 0 0] 41))).trans (b4.mono (((U3.out).alloc (U3.out).size (.cells #[.int .u8 65, .slice none 0 0] 41))).size))
  have T4 := Lib.hid ((T3.out.alloc T3.out.size (.cells #[.int .u8 65, .slice none 0 0] 41)).trans (b4.mono (T3.out.alloc T3.out.size (.cells #[.int .u8 65, .slice none 0 0] 41)).size)); clear b4
  go_wp2_with fail
  refine (bush_calls w4).mono ?_
  rintro e w5 ⟨A5, c5, rfl, b5, s5⟩
  have S5 := Lib.hid (sl_old s5.out fun q hq => hq.2); clear s5
  have U5 := Lib.hid ((U4.out).trans (b5.mono (U4.out).size))
  have T5 := Lib.hid ((T4.out).trans (b5.mono (T4.out).size)); clear b5
  have V5 : SlAt pRul (Old (modW w5 65)) (modW w5 65) A5 c5 bushR := S5.out.later ((Below.refl _ _).alloc (Nat.le_refl _) _)
  go_wp2_with fail
  refine (gCounts_calls A5 c5 bushR pA (some ⟨w5.heap.size, 0, none⟩) 1 oneA 32 (modW w5 65) V5 small_bush (by decide) (mod_boxed 65 f65) (fits_i64 (by decide))).mono ?_
  rintro e w6 ⟨A6, c6, rfl, b6, s6⟩
  rw [c32]
  clear V5 s6
  have U6 := Lib.hid ((((U5.out).alloc (U5.out).size (.cells #[.int .u8 65, .slice none 0 0] 41))).trans (b6.mono (((U5.out).alloc (U5.out).size (.cells #[.int .u8 65, .slice none 0 0] 41))).size))
  have T6 := Lib.hid ((T5.out.alloc T5.out.size (.cells #[.int .u8 65, .slice none 0 0] 41)).trans (b6.mono (T5.out.alloc T5.out.size (.cells #[.int .u8 65, .slice none 0 0] 41)).size)); clear b6
  obtain ⟨W6, hW6⟩ : ∃ W, W = (((w6.alloc (.cells #[.int .i64 1, .int .i64 1] 2)).alloc (.cells #[.int .i64 1, .int .i64 0] 2)).alloc (.cells #[.slice (some ⟨w6.heap.size, 0, none⟩) 2 2, .slice (some ⟨w6.heap.size + 1, 0, none⟩) 2 2] 27)) := ⟨_, rfl⟩
  have tl6 : Below w6.heap.size w6 W6 := by rw [hW6]; exact (((Below.refl _ _).alloc (Nat.le_refl _) _).alloc (by simp) _).alloc (by simp; omega) _
  have lm6 : SlAt (pSl (pI .i64)) (Old W6) W6 (some ⟨w6.heap.size + 2, 0, none⟩) 2 [[1, 1], [1, 0]] := by
    refine lit_rows (g := w6.heap.size) (t := 2) (t2 := 27) ?_ ?_ ?_ (by decide) (by decide) (by decide) (by decide)
    · rw [hW6]; exact ((Blk.new _ _ _).alloc _).alloc _
    · rw [hW6]
      have := (Blk.new (w6.alloc (.cells #[.int .i64 1, .int .i64 1] 2)) 2 #[.int .i64 1, .int .i64 0]).alloc (.cells #[.slice (some ⟨w6.heap.size, 0, none⟩) 2 2, .slice (some ⟨w6.heap.size + 1, 0, none⟩) 2 2] 27)
      rwa [show (w6.alloc (.cells #[.int .i64 1, .int .i64 1] 2)).heap.size = w6.heap.size + 1 from by simp] at this
    · rw [hW6]
      have := Blk.new ((w6.alloc (.cells #[.int .i64 1, .int .i64 1] 2)).alloc (.cells #[.int .i64 1, .int .i64 0] 2)) 27 #[.slice (some ⟨w6.heap.size, 0, none⟩) 2 2, .slice (some ⟨w6.heap.size + 1, 0, none⟩) 2 2]
      rwa [show ((w6.alloc (.cells #[.int .i64 1, .int .i64 1] 2)).alloc (.cells #[.int .i64 1, .int .i64 0] 2)).heap.size = w6.heap.size + 2 from by simp] at this
  have sm6 : SlAt (pSl (pI .i64)) (Old W6) W6 A2 c2 [[1, 1], [1, 0]] := (S2.out.later U6.out).later tl6
  have Tl6 := Lib.hid tl6; clear tl6
  have Lm6 := Lib.hid lm6; clear lm6
  have Sm6 := Lib.hid sm6; clear sm6
  have HW6 := Lib.hid hW6; clear hW6
  clear U6
  go_wp2_with fail
  rw [← HW6.out]
  refine (sameRows_calls A2 (some ⟨w6.heap.size + 2, 0, none⟩) c2 2 [[1, 1], [1, 0]] [[1, 1], [1, 0]] W6 Sm6.out Lm6.out).mono ?_
  rintro e w7 ⟨rfl, n7, hw7⟩
  rw [show (([[1, 1], [1, 0]] : List (List Int)) == [[1, 1], [1, 0]]) = true from by decide]
  have T7 := Lib.hid (show Below w.heap.size w w7 by rw [hw7]; exact below_drewN (T6.out.trans (Tl6.out.mono T6.out.size)) _)
  clear hw7
  go_wp2_with fail
  refine (given_calls w7).mono ?_
  rintro e w8 ⟨A8, c8, rfl, b8, s8⟩
  have S8 := Lib.hid (sl_old s8.out fun q hq => hq.2); clear s8
  have T8 := Lib.hid ((T7.out).trans (b8.mono (T7.out).size)); clear b8
  have V8 : SlAt pRul (Old (w8.alloc (.cells #[.int .i64 1, .int .i64 0] 2))) (w8.alloc (.cells #[.int .i64 1, .int .i64 0] 2)) A8 c8 givenR := S8.out.later ((Below.refl _ _).alloc (Nat.le_refl _) _)
  go_wp2_with fail
  refine (counted_calls A8 c8 givenR pAB 0 (some ⟨w8.heap.size, 0, none⟩) 2 [1, 0] (w8.alloc (.cells #[.int .i64 1, .int .i64 0] 2)) V8 small_given (by decide) (lit_ints w8 2 [1, 0] (by decide) (by decide)) (fits_i64 (by decide)) k0).mono ?_
  rintro e w9 ⟨rfl, b9⟩
  clear V8
  have T9 := Lib.hid ((T8.out.alloc T8.out.size (.cells #[.int .i64 1, .int .i64 0] 2)).trans (b9.mono (T8.out.alloc T8.out.size (.cells #[.int .i64 1, .int .i64 0] 2)).size)); clear b9
  go_wp2_with fail
  refine (given_calls w9).mono ?_
  rintro e w10 ⟨A10, c10, rfl, b10, s10⟩
  have S10 := Lib.hid (sl_old s10.out fun q hq => hq.2); clear s10
  have T10 := Lib.hid ((T9.out).trans (b10.mono (T9.out).size)); clear b10
  have V10 : SlAt pRul (Old (w10.alloc (.cells #[.int .i64 5, .int .i64 3] 2))) (w10.alloc (.cells #[.int .i64 5, .int .i64 3] 2)) A10 c10 givenR := S10.out.later ((Below.refl _ _).alloc (Nat.le_refl _) _)
  go_wp2_with fail
  refine (counted_calls A10 c10 givenR pAB 4 (some ⟨w10.heap.size, 0, none⟩) 2 [5, 3] (w10.alloc (.cells #[.int .i64 5, .int .i64 3] 2)) V10 small_given (by decide) (lit_ints w10 2 [5, 3] (by decide) (by decide)) (fits_i64 (by decide)) k4).mono ?_
  rintro e w11 ⟨rfl, b11⟩
  clear V10
  have T11 := Lib.hid ((T10.out.alloc T10.out.size (.cells #[.int .i64 5, .int .i64 3] 2)).trans (b11.mono (T10.out.alloc T10.out.size (.cells #[.int .i64 5, .int .i64 3] 2)).size)); clear b11
  go_wp2_with fail
  refine (given_calls w11).mono ?_
  rintro e w12 ⟨A12, c12, rfl, b12, s12⟩
  have S12 := Lib.hid (sl_old s12.out fun q hq => hq.2); clear s12
  have T12 := Lib.hid ((T11.out).trans (b12.mono (T11.out).size)); clear b12
  have V12 : SlAt pRul (Old (w12.alloc (.cells #[.int .i64 8, .int .i64 5] 2))) (w12.alloc (.cells #[.int .i64 8, .int .i64 5] 2)) A12 c12 givenR := S12.out.later ((Below.refl _ _).alloc (Nat.le_refl _) _)
  go_wp2_with fail
  refine (counted_calls A12 c12 givenR pAB 5 (some ⟨w12.heap.size, 0, none⟩) 2 [8, 5] (w12.alloc (.cells #[.int .i64 8, .int .i64 5] 2)) V12 small_given (by decide) (lit_ints w12 2 [8, 5] (by decide) (by decide)) (fits_i64 (by decide)) k5).mono ?_
  rintro e w13 ⟨rfl, b13⟩
  clear V12
  have T13 := Lib.hid ((T12.out.alloc T12.out.size (.cells #[.int .i64 8, .int .i64 5] 2)).trans (b13.mono (T12.out.alloc T12.out.size (.cells #[.int .i64 8, .int .i64 5] 2)).size)); clear b13
  go_wp2_with fail
  refine (bush_calls w13).mono ?_
  rintro e w14 ⟨A14, c14, rfl, b14, s14⟩
  have S14 := Lib.hid (sl_old s14.out fun q hq => hq.2); clear s14
  have T14 := Lib.hid ((T13.out).trans (b14.mono (T13.out).size)); clear b14
  have V14 : SlAt pRul (Old (w14.alloc (.cells #[.int .i64 617673396283947] 2))) (w14.alloc (.cells #[.int .i64 617673396283947] 2)) A14 c14 bushR := S14.out.later ((Below.refl _ _).alloc (Nat.le_refl _) _)
  go_wp2_with fail
  refine (counted_calls A14 c14 bushR pA 31 (some ⟨w14.heap.size, 0, none⟩) 1 [617673396283947] (w14.alloc (.cells #[.int .i64 617673396283947] 2)) V14 small_bush (by decide) (lit_ints w14 2 [617673396283947] (by decide) (by decide)) (fits_i64 (by decide)) k31).mono ?_
  rintro e w15 ⟨rfl, b15⟩
  clear V14
  have T15 := Lib.hid ((T14.out.alloc T14.out.size (.cells #[.int .i64 617673396283947] 2)).trans (b15.mono (T14.out.alloc T14.out.size (.cells #[.int .i64 617673396283947] 2)).size)); clear b15
  go_wp2
  go_ret
  exact ⟨rfl, T15.out⟩

def validF (rs : List Rul) (p : ByteArray) : Bool := !greatR rs && decide (p.size ≤ 100) && checkG rs p == 0
theorem validF_yes {rs : List Rul} {p : ByteArray} (h : validF rs p = true) : Small rs ∧ p.size ≤ 100 ∧ checkG rs p = 0 := by
  unfold validF at h
  simp only [Bool.and_eq_true, decide_eq_true_eq, beq_iff_eq, Bool.not_eq_true'] at h
  exact ⟨small_of h.1.1, h.1.2, h.2⟩
set_option maxRecDepth 100000 in
set_option maxHeartbeats 2000000 in
theorem valid_calls (A : Option Addr) (c : Nat) (rs : List Rul) (p : ByteArray) (w : World) (h : SlAt pRul (Old w) w A c rs) :
    Calls Try.prog 4 #[.slice A rs.length c, .string p] w (BoolPost (validF rs p) w) := by
  have hmx := h.lenle
  have hgr := greatR_calls A c rs w h
  have H := Lib.hid h; clear h
  have Hgr := Lib.hid hgr; clear hgr
  cases hg : greatR rs
  · by_cases hp : p.size ≤ 100
    · have hr : validF rs p = (checkG rs p == 0) := by unfold validF; rw [hg, decide_eq_true hp]; rfl
      have hs := small_of hg
      have Hr := Lib.hid hr; clear hr
      have Hs := Lib.hid hs; clear hs
      go_enter Try.func4, Try.ntmps4
      go_wp2_with fail
      refine Hgr.out.mono ?_
      rintro e w' ⟨rfl, rfl⟩
      rw [hg]
      clear hg
      go_wp2_with fail
      refine (refGCheck_calls A c rs p w H.out Hs.out hp).mono ?_
      rintro e w1 ⟨rfl, hb1⟩
      have z1 := hb1.size
      have Hb1 := Lib.hid hb1; clear hb1
      go_wp2
      go_ret
      exact ⟨by rw [Hr.out]; rfl, Hb1.out⟩
    · have hr : validF rs p = false := by unfold validF; rw [decide_eq_false hp]; simp
      have Hr := Lib.hid hr; clear hr
      go_enter Try.func4, Try.ntmps4
      go_wp2_with fail
      refine Hgr.out.mono ?_
      rintro e w' ⟨rfl, rfl⟩
      rw [hg]
      clear hg
      go_wp2
      go_ret
      exact ⟨by rw [Hr.out]; rfl, Below.refl _ _⟩
  · have hr : validF rs p = false := by unfold validF; rw [hg]; rfl
    have Hr := Lib.hid hr; clear hr
    go_enter Try.func4, Try.ntmps4
    go_wp2_with fail
    refine Hgr.out.mono ?_
    rintro e w' ⟨rfl, rfl⟩
    rw [hg]
    clear hg
    go_wp2
    go_ret
    exact ⟨by rw [Hr.out]; rfl, Below.refl _ _⟩
end Go.Proofs.Ytflojbohcippnaa
