/-
  ContextNames, the walk of the law (printed by kf.py).
-/
import Derived.Test.YtpeknefmjdipmaaDoorKd
import Derived.Test.YtpeknefmjdipmaaDoorDc
import Derived.Test.YtpeknefmjdipmaaDoorCj
import Derived.Test.YtpeknefmjdipmaaDoorCe
import Derived.Laws.Rows
namespace Go.Proofs.YtpeknefmjdipmaaDoor
open Go.RowKit Go.Sort
set_option linter.unusedVariables false
theorem lit_newC {α : Type} {E : Rp α} {w : World} {t : TypeId} {cells : Array Value} {xs : List α} (h : CellsAre E (Old w) w cells.toList xs) (hm : xs.length ≤ maxLen) {n : Nat} (hn : xs.length = n) :
    SlAt E (Old (w.alloc (.cells cells t))) (w.alloc (.cells cells t)) (some ⟨w.heap.size, 0, none⟩) n xs :=
  sl_lit (Blk.new w t cells) ((CellsAre.keep (fun k hk => Below.heap_alloc _ _ _ hk) h).wide fun k hk => by unfold Old at *; simp; omega) (by show w.heap.size < _; simp) hm hn
theorem blC {w : World} (o : Obj) : Below w.heap.size w (w.alloc o) := (Below.refl _ _).alloc (Nat.le_refl _) _
theorem madeQC {α : Type} {E : Rp α} {F : Nat → Prop} {w : World} {g n : Nat} {t : TypeId} {z : Value} {x : α} (h : Blk w g t (madeCells z.cells (n * E.n))) (hR : E.R F w z.cells.toList x) (hF : F g) (hn : n ≤ maxLen) : SlAt E F w (some ⟨g, 0, none⟩) n (List.replicate n x) := by
  refine ⟨by simp, hn, (fun e => by cases e), fun i y hy => ?_⟩
  obtain ⟨hi, hye⟩ := List.getElem?_eq_some_iff.1 hy
  simp at hi hye
  subst hye
  refine ⟨g, 0, z.cells.toList, rfl, hF, hR, fun j c hj => ?_⟩
  have hj2 : j < z.cells.toList.length := (List.getElem?_eq_some_iff.1 hj).1
  have hl := E.len hR
  rw [h.cell]
  have hm : 0 + i * E.n + j < n * E.n := by
    have : (i + 1) * E.n ≤ n * E.n := Nat.mul_le_mul_right _ hi
    rw [Nat.add_mul] at this; omega
  have hz : z.cells[(0 + i * E.n + j) % z.cells.size]! = c := by
    have hs : z.cells.size = E.n := by simpa using hl
    rw [hs, Nat.zero_add, Nat.add_comm, Nat.add_mul_mod_self_right, Nat.mod_eq_of_lt (by omega)]
    have hj3 : z.cells[j]? = some c := by simpa using hj
    rw [getElem!_def, hj3]
  unfold madeCells
  rw [Array.getElem?_map, Array.getElem?_range, if_pos hm]
  exact congrArg some hz
def zeroRC : Value := .agg #[.int .u8 0, .int .i64 0, .int .u8 0, .int .u8 0, .slice none 0 0, .int .i64 0, .slice none 0 0]
def bigCC : Array Value := madeCells zeroRC.cells (41 * 7)
def bigRC : List Rul := List.replicate 41 ⟨0, 0, 0, 0, [], 0, []⟩
theorem info_rulCC : (Tryd.prog.info? 39).map (fun i => (i.zero, i.size, i.bytes)) = some (some zeroRC, 7, 80) := by kernel_rfl
theorem make_bigC (wx : World) : (Instr.makeSlice 40 (.int .i64 41) (.int .i64 41)).run Tryd.prog wx = .ok (.slice (some ⟨wx.heap.size, 0, none⟩) 41 41) (wx.alloc (.cells bigCC 39)) :=
  run_make_rowN Tryd.underlying40 info_rulCC 41 (by omega) (by omega) wx
theorem bigC_sl (w : World) : SlAt pRul (Old (w.alloc (.cells bigCC 39))) (w.alloc (.cells bigCC 39)) (some ⟨w.heap.size, 0, none⟩) 41 bigRC :=
  have h := Blk.new w 39 bigCC
  madeQC (E := pRul) (z := zeroRC) h ⟨none, 0, none, 0, rfl, ⟨fits_u8 (n := 0) (by decide), fits_i64 (n := 0) (by decide), fits_u8 (n := 0) (by decide), fits_u8 (n := 0) (by decide), fits_i64 (n := 0) (by decide)⟩, sl_none, sl_none⟩ h.lt (by unfold maxLen; omega)
abbrev bothC : List Rul := [⟨70, 0, 65, 66, [], 0, [⟨71, []⟩]⟩]
abbrev wrongC : List Rul := [⟨65, 0, 91, 0, [], 0, [⟨66, []⟩]⟩, ⟨66, 0, 0, 0, [], 0, [⟨65, []⟩]⟩]
abbrev twiceC : List Rul := [⟨65, 0, 66, 0, [], 0, [⟨66, []⟩]⟩, ⟨66, 0, 0, 0, [], 1, [⟨65, []⟩]⟩]
abbrev wordC : List Mod := [⟨65, []⟩, ⟨70, []⟩, ⟨91, []⟩, ⟨70, []⟩, ⟨93, []⟩, ⟨43, []⟩, ⟨66, []⟩, ⟨91, []⟩, ⟨70, []⟩, ⟨66, []⟩, ⟨93, []⟩, ⟨70, []⟩]
theorem small_both : Small bothC := small_of (by decide +kernel)
theorem small_wrong : Small wrongC := small_of (by decide +kernel)
theorem small_twice : Small twiceC := small_of (by decide +kernel)
theorem small_given : Small givenC := small_of (by decide +kernel)
theorem small_bigC : Small bigRC := small_of (by decide +kernel)
set_option maxRecDepth 100000 in
set_option maxHeartbeats 16000000 in
theorem contextNames_walk (w : World) (hL : LibAt w) : Calls Tryd.prog 4 #[] w (OkPost w) := by
  have T0 := Lib.hid (Below.refl w.heap.size w)
  have hmk := make_bigC
  have HL := Lib.hid hL; clear hL
  go_enter Tryd.func4, Tryd.ntmps4
  go_wp2_with fail
  refine (beside_calls ⟨#[91, 91, 70, 93, 93, 71]⟩ 5 ⟨#[]⟩ (-1) (-1) [⟨91, []⟩, ⟨91, []⟩, ⟨70, []⟩, ⟨93, []⟩, ⟨93, []⟩, ⟨71, []⟩] w (HL.out.later T0.out) (by decide) (fits_i64 (by decide)) (by decide) (by decide +kernel) (by decide +kernel) (by decide +kernel)).mono ?_
  rintro e w1 ⟨rfl, b1⟩
  have T1 := Lib.hid (T0.out.trans (b1.mono T0.out.size))
  clear b1
  go_wp2_with fail
  refine (beside_calls ⟨#[65, 91, 43, 91, 45, 66, 93, 93, 67]⟩ 5 ⟨#[43, 45]⟩ 0 (-1) [⟨65, []⟩, ⟨91, []⟩, ⟨43, []⟩, ⟨91, []⟩, ⟨45, []⟩, ⟨66, []⟩, ⟨93, []⟩, ⟨93, []⟩, ⟨67, []⟩] w1 (HL.out.later T1.out) (by decide) (fits_i64 (by decide)) (by decide) (by decide +kernel) (by decide +kernel) (by decide +kernel)).mono ?_
  rintro e w2 ⟨rfl, b2⟩
  have T2 := Lib.hid (T1.out.trans (b2.mono T1.out.size))
  clear b2
  go_wp2_with fail
  refine (beside_calls ⟨#[65, 91, 43, 91, 45, 66, 93, 93, 67]⟩ 5 ⟨#[]⟩ 4 (-1) [⟨65, []⟩, ⟨91, []⟩, ⟨43, []⟩, ⟨91, []⟩, ⟨45, []⟩, ⟨66, []⟩, ⟨93, []⟩, ⟨93, []⟩, ⟨67, []⟩] w2 (HL.out.later T2.out) (by decide) (fits_i64 (by decide)) (by decide) (by decide +kernel) (by decide +kernel) (by decide +kernel)).mono ?_
  rintro e w3 ⟨rfl, b3⟩
  have T3 := Lib.hid (T2.out.trans (b3.mono T2.out.size))
  clear b3
  go_wp2_with fail
  refine (beside_calls ⟨#[65, 91, 43, 91, 45, 66, 93, 93, 67]⟩ 0 ⟨#[]⟩ (-1) 8 [⟨65, []⟩, ⟨91, []⟩, ⟨43, []⟩, ⟨91, []⟩, ⟨45, []⟩, ⟨66, []⟩, ⟨93, []⟩, ⟨93, []⟩, ⟨67, []⟩] w3 (HL.out.later T3.out) (by decide) (fits_i64 (by decide)) (by decide) (by decide +kernel) (by decide +kernel) (by decide +kernel)).mono ?_
  rintro e w4 ⟨rfl, b4⟩
  have T4 := Lib.hid (T3.out.trans (b4.mono T3.out.size))
  clear b4
  go_wp2_with fail
  refine (beside_calls ⟨#[65, 43, 91, 66, 93, 43]⟩ 0 ⟨#[43]⟩ (-1) (-1) [⟨65, []⟩, ⟨43, []⟩, ⟨91, []⟩, ⟨66, []⟩, ⟨93, []⟩, ⟨43, []⟩] w4 (HL.out.later T4.out) (by decide) (fits_i64 (by decide)) (by decide) (by decide +kernel) (by decide +kernel) (by decide +kernel)).mono ?_
  rintro e w5 ⟨rfl, b5⟩
  have T5 := Lib.hid (T4.out.trans (b5.mono T4.out.size))
  clear b5
  have k1 := lit_newC (E := pShp) (w := w5) (t := 36) (cells := #[.int .u8 71, .slice none 0 0]) (xs := [⟨71, []⟩]) ⟨_, [], rfl, shpC_R (fits_u8 (n := 71) (by decide)) sl_none rfl, rfl⟩ (by decide) (n := 1) rfl
  obtain ⟨v1, hv1⟩ : ∃ v1, v1 = w5.alloc (.cells #[.int .u8 71, .slice none 0 0] 36) := ⟨_, rfl⟩
  have d1 : Below w5.heap.size w5 v1 := by rw [hv1]; exact blC _
  have z1 : v1.heap.size = w5.heap.size + 1 := by rw [hv1]; simp
  rw [← hv1] at k1
  have S6 := lit_newC (E := pRul) (w := v1) (t := 39) (cells := #[.int .u8 70, .int .i64 0, .int .u8 65, .int .u8 66, .slice none 0 0, .int .i64 0, .slice (some ⟨w5.heap.size, 0, none⟩) 1 1]) (xs := bothC) ⟨_, [], rfl, rulC_R (fits_u8 (n := 70) (by decide)) (fits_i64 (n := 0) (by decide)) (fits_u8 (n := 65) (by decide)) (fits_u8 (n := 66) (by decide)) (fits_i64 (n := 0) (by decide)) sl_none k1 rfl rfl, rfl⟩ (by show 1 ≤ maxLen; decide) (n := 1) rfl
  obtain ⟨w6, hw6⟩ : ∃ w6, w6 = v1.alloc (.cells #[.int .u8 70, .int .i64 0, .int .u8 65, .int .u8 66, .slice none 0 0, .int .i64 0, .slice (some ⟨w5.heap.size, 0, none⟩) 1 1] 39) := ⟨_, rfl⟩
  have d2 : Below v1.heap.size v1 w6 := by rw [hw6]; exact blC _
  rw [← hw6, z1] at S6
  have T6 := Lib.hid (T5.out.trans ((d1.trans (d2.mono d1.size)).mono T5.out.size))
  have SB := Lib.hid S6; clear S6
  have Hv1 := Lib.hid hv1; clear hv1
  clear k1 d1 d2 z1
  go_wp2_with fail
  rw [← Hv1.out, ← hw6]
  have Z6 : Hid (w5.heap.size + 2 ≤ w6.heap.size) := by unfold Hid; rw [hw6, Hv1.out]; simp
  clear hw6 Hv1
  have p7 := parse_calls ⟨#[65, 70, 91, 70, 93, 43, 66, 91, 70, 66, 93, 70]⟩ w6 (by decide) (HL.out.later T6.out)
  unfold ParsePost at p7
  rw [show parseF (ByteArray.data ⟨#[65, 70, 91, 70, 93, 43, 66, 91, 70, 66, 93, 70]⟩).toList = (wordC, 0) from by decide +kernel] at p7
  have P7 := Lib.hid p7; clear p7
  refine P7.out.mono ?_
  rintro e w7 ⟨A7, c7, rfl, o7, b7⟩
  have SW := Lib.hid (own_sl o7); clear o7 P7
  have Z7 := Lib.hid (Nat.le_trans Z6.out b7.size)
  have T7 := Lib.hid (T6.out.trans (b7.mono T6.out.size))
  have SB := Lib.hid (SB.out.later b7)
  clear b7
  have p8 := cStep_calls (some ⟨w5.heap.size + 1, 0, none⟩) 1 bothC ⟨#[43]⟩ A7 c7 wordC w7 SB.out SW.out small_both (by decide)
  unfold CStepPost at p8
  rw [show cStepF bothC ⟨#[43]⟩ wordC = ([⟨65, []⟩, ⟨71, []⟩, ⟨91, []⟩, ⟨70, []⟩, ⟨93, []⟩, ⟨43, []⟩, ⟨66, []⟩, ⟨91, []⟩, ⟨70, []⟩, ⟨66, []⟩, ⟨93, []⟩, ⟨70, []⟩], 0) from by decide +kernel] at p8
  have P8 := Lib.hid p8; clear p8
  go_wp2_with fail
  refine P8.out.mono ?_
  rintro e w8 ⟨A8, c8, rfl, o8, b8⟩
  have SV := Lib.hid (ownF_sl o8); clear o8 P8
  have Z8 := Lib.hid (Nat.le_trans Z7.out b8.size)
  have T8 := Lib.hid (T7.out.trans (b8.mono T7.out.size))
  have SB := Lib.hid (SB.out.later b8)
  have SW := Lib.hid (SW.out.later b8)
  clear b8
  have p9 := text_calls A8 c8 _ w8 SV.out (HL.out.later T8.out)
  unfold TextPost at p9
  rw [show textF [⟨65, []⟩, ⟨71, []⟩, ⟨91, []⟩, ⟨70, []⟩, ⟨93, []⟩, ⟨43, []⟩, ⟨66, []⟩, ⟨91, []⟩, ⟨70, []⟩, ⟨66, []⟩, ⟨93, []⟩, ⟨70, []⟩] = (ByteArray.data ⟨#[65, 71, 91, 70, 93, 43, 66, 91, 70, 66, 93, 70]⟩ |>.toList, 0) from by decide +kernel] at p9
  have P9 := Lib.hid p9; clear p9
  go_wp2_with fail
  refine P9.out.mono ?_
  rintro e w9 ⟨rfl, b9⟩
  clear P9
  clear SV
  have Z9 := Lib.hid (Nat.le_trans Z8.out b9.size)
  have T9 := Lib.hid (T8.out.trans (b9.mono T8.out.size))
  have SB := Lib.hid (SB.out.later b9)
  have SW := Lib.hid (SW.out.later b9)
  clear b9
  go_wp2_with fail
  refine (givenC_raw w9).mono ?_
  rintro e w10 ⟨rfl, hw10⟩
  obtain ⟨g1, hg1⟩ : ∃ g, w9.heap.size = g := ⟨_, rfl⟩
  have b10 : Below w9.heap.size w9 w10 := by rw [hw10]; exact givenWorld_below _
  have y10 : w10.heap.size = g1 + 3 := by rw [hw10, givenWorld_size, hg1]
  obtain ⟨q1, q2, q3⟩ := givenWorld_blk w9
  rw [← hw10, hg1] at q1 q2 q3
  rw [hg1]
  have ng1 : w.heap.size ≤ g1 := by rw [← hg1]; exact T9.out.size
  have SB9 := SB
  have SW9 := SW
  have b910 := b10
  have T10 := Lib.hid (T9.out.trans (b10.mono T9.out.size))
  have SB := Lib.hid (SB.out.later b10)
  have SW := Lib.hid (SW.out.later b10)
  obtain ⟨r1, r2, r3⟩ : Blk w10 g1 36 sh66 ∧ Blk w10 (g1 + 1) 36 sh65 ∧ Blk w10 (g1 + 2) 39 (rulC2 66 0 g1) := ⟨q1, q2, q3⟩
  clear q1 q2 q3 b10
  clear hw10
  go_wp2_with fail
  refine (givenC_raw w10).mono ?_
  rintro e w11 ⟨rfl, hw11⟩
  obtain ⟨g2, hg2⟩ : ∃ g, w10.heap.size = g := ⟨_, rfl⟩
  have b11 : Below w10.heap.size w10 w11 := by rw [hw11]; exact givenWorld_below _
  have y11 : w11.heap.size = g2 + 3 := by rw [hw11, givenWorld_size, hg2]
  obtain ⟨q1, q2, q3⟩ := givenWorld_blk w10
  rw [← hw11, hg2] at q1 q2 q3
  rw [hg2]
  have ng2 : w.heap.size ≤ g2 := by rw [← hg2]; exact T10.out.size
  have r1 := r1.same (b11.block _ (by omega))
  have r2 := r2.same (b11.block _ (by omega))
  have r3 := r3.same (b11.block _ (by omega))
  have hgg : g2 = g1 + 3 := by rw [← hg2, y10]
  have b911 := b910.trans (b11.mono b910.size)
  clear b910
  have T11 := Lib.hid (T10.out.trans (b11.mono T10.out.size))
  have SB := Lib.hid (SB.out.later b11)
  have SW := Lib.hid (SW.out.later b11)
  clear hw11 b11
  obtain ⟨w12, hw12⟩ : ∃ W, W = w11.setCell ⟨g1 + 2, 2, none⟩ (.int .u8 91) := ⟨_, rfl⟩
  obtain ⟨w13, hw13⟩ : ∃ W, W = w12.setCell ⟨g2 + 2, 12, none⟩ (.int .i64 1) := ⟨_, rfl⟩
  have m3 : Blk w12 (g1 + 2) 39 (rulC2 91 0 g1) := by rw [hw12]; exact r3.set 2 _
  have m1 := fun (k : Nat) (hk : k ≠ g1 + 2) => show w12.heap[k]? = w11.heap[k]? from by rw [hw12]; exact Below.heap_setCell _ _ _ _ hk
  have m2 := fun (k : Nat) (hk : k ≠ g2 + 2) => show w13.heap[k]? = w12.heap[k]? from by rw [hw13]; exact Below.heap_setCell _ _ _ _ hk
  have e3 : Blk w13 (g2 + 2) 39 (rulC2 66 1 g2) := by rw [hw13]; exact (q3.same (m1 _ (by omega))).set 12 _
  have u1 := (r1.same (m1 _ (by omega))).same (m2 _ (by omega))
  have u2 := (r2.same (m1 _ (by omega))).same (m2 _ (by omega))
  have u3 := m3.same (m2 _ (by omega))
  have x1 := (q1.same (m1 _ (by omega))).same (m2 _ (by omega))
  have x2 := (q2.same (m1 _ (by omega))).same (m2 _ (by omega))
  have s12 : w12.heap.size = w11.heap.size := by rw [hw12]; simp [World.setCell]
  have s13 : w13.heap.size = w11.heap.size := by rw [hw13, ← s12]; simp [World.setCell]
  have SA := Lib.hid (rulC2_sl (F := Old w13) (fits_u8 (n := 91) (by decide)) (fits_i64 (n := 0) (by decide)) u1 u2 u3 ⟨by show _ < _; omega, by show _ < _; omega, by show _ < _; omega⟩)
  have ST := Lib.hid (rulC2_sl (F := Old w13) (fits_u8 (n := 66) (by decide)) (fits_i64 (n := 1) (by decide)) x1 x2 e3 ⟨by show _ < _; omega, by show _ < _; omega, by show _ < _; omega⟩)
  have z9 : w5.heap.size + 2 ≤ g1 := by rw [← hg1]; exact Z9.out
  have c1 := r3.cell 2
  have f1 := r3.free 2
  have c2 : (w11.setCell ⟨g1 + 2, 2, none⟩ (.int .u8 91)).cell? ⟨g2 + 2, 12, none⟩ = some (.int .i64 0) := by rw [← hw12]; exact (q3.same (m1 _ (by omega))).cell 12
  have f2 : (w11.setCell ⟨g1 + 2, 2, none⟩ (.int .u8 91)).frozen? ⟨g2 + 2, 12, none⟩ = false := by rw [← hw12]; exact (q3.same (m1 _ (by omega))).free 12
  have c3 := q3.cell 12
  have f3 := q3.free 12
  have kp : ∀ k, k < g1 → w13.heap[k]? = w11.heap[k]? := fun k hk => (m2 k (by omega)).trans (m1 k (by omega))
  have SB := Lib.hid ((SB9.out.keep (w' := w13) fun k hk => (kp k (by have : k < w9.heap.size := hk; omega)).trans (b911.block k hk)).wide (F' := Old w13) fun k hk => by have : k < w9.heap.size := hk; show k < _; omega)
  have SW := Lib.hid ((SW9.out.keep (w' := w13) fun k hk => (kp k (by have : k < w9.heap.size := hk; omega)).trans (b911.block k hk)).wide (F' := Old w13) fun k hk => by have : k < w9.heap.size := hk; show k < _; omega)
  have T13 := Lib.hid (show Below w.heap.size w w13 by rw [hw13, hw12]; exact (T11.out.setCell (by show w.heap.size ≤ g1 + 2; omega) _).setCell (by show w.heap.size ≤ g2 + 2; omega) _)
  clear r1 r2 r3 q1 q2 q3 m1 m2 m3 e3 u1 u2 u3 x1 x2 kp SB9 SW9 b911 hgg hg1 hg2 y10 y11 s12 s13 z9
  go_wp2_with fail
  rw [← hw12, ← hw13]
  have Hw12 := Lib.hid hw12; clear hw12
  have Hw13 := Lib.hid hw13; clear hw13
  clear c1 f1 c2 f2 c3 f3 Hw12 Hw13
  have pk := cCheck_calls (some ⟨g1 + 2, 0, none⟩) 2 wrongC ⟨#[]⟩ w13 SA.out small_wrong (by decide)
  rw [show checkC wrongC ⟨#[]⟩ = 8 from by decide +kernel] at pk
  have Pk := Lib.hid pk; clear pk
  refine Pk.out.mono ?_
  rintro e w14 ⟨rfl, b14⟩
  clear Pk
  clear SA
  have T14 := Lib.hid (T13.out.trans (b14.mono T13.out.size))
  have SB := Lib.hid (SB.out.later b14)
  have SW := Lib.hid (SW.out.later b14)
  have ST := Lib.hid (ST.out.later b14)
  clear b14
  have pk := cCheck_calls (some ⟨g2 + 2, 0, none⟩) 2 twiceC ⟨#[]⟩ w14 ST.out small_twice (by decide)
  rw [show checkC twiceC ⟨#[]⟩ = 8 from by decide +kernel] at pk
  have Pk := Lib.hid pk; clear pk
  go_wp2_with fail
  refine Pk.out.mono ?_
  rintro e w15 ⟨rfl, b15⟩
  clear Pk
  clear ST
  have T15 := Lib.hid (T14.out.trans (b15.mono T14.out.size))
  have SB := Lib.hid (SB.out.later b15)
  have SW := Lib.hid (SW.out.later b15)
  clear b15
  go_wp2_with fail
  refine (givenC_calls w15).mono ?_
  rintro e w16 ⟨Ag, cg, rfl, SG, b16⟩
  have T16 := Lib.hid (T15.out.trans (b16.mono T15.out.size))
  have SB := Lib.hid (SB.out.later b16)
  have SW := Lib.hid (SW.out.later b16)
  clear b16
  have pk := cCheck_calls Ag cg givenC ⟨#[43, 43]⟩ w16 SG.out small_given (by decide)
  rw [show checkC givenC ⟨#[43, 43]⟩ = 8 from by decide +kernel] at pk
  have Pk := Lib.hid pk; clear pk
  go_wp2_with fail
  refine Pk.out.mono ?_
  rintro e w17 ⟨rfl, b17⟩
  clear Pk
  clear SG
  have T17 := Lib.hid (T16.out.trans (b17.mono T16.out.size))
  have SB := Lib.hid (SB.out.later b17)
  have SW := Lib.hid (SW.out.later b17)
  clear b17
  go_wp2_with fail
  refine (givenC_calls w17).mono ?_
  rintro e w18 ⟨Ag, cg, rfl, SG, b18⟩
  have T18 := Lib.hid (T17.out.trans (b18.mono T17.out.size))
  have SB := Lib.hid (SB.out.later b18)
  have SW := Lib.hid (SW.out.later b18)
  clear b18
  have pk := cCheck_calls Ag cg givenC ⟨#[91]⟩ w18 SG.out small_given (by decide)
  rw [show checkC givenC ⟨#[91]⟩ = 8 from by decide +kernel] at pk
  have Pk := Lib.hid pk; clear pk
  go_wp2_with fail
  refine Pk.out.mono ?_
  rintro e w19 ⟨rfl, b19⟩
  clear Pk
  clear SG
  have T19 := Lib.hid (T18.out.trans (b19.mono T18.out.size))
  have SB := Lib.hid (SB.out.later b19)
  have SW := Lib.hid (SW.out.later b19)
  clear b19
  go_wp2_with fail
  refine (givenC_calls w19).mono ?_
  rintro e w20 ⟨Ag, cg, rfl, SG, b20⟩
  have T20 := Lib.hid (T19.out.trans (b20.mono T19.out.size))
  have SB := Lib.hid (SB.out.later b20)
  have SW := Lib.hid (SW.out.later b20)
  clear b20
  have pk := cCheck_calls Ag cg givenC ⟨#[97, 98, 99, 100, 101, 102, 103, 104, 105, 106, 107, 108, 109, 110, 111, 112, 113, 114, 115, 116]⟩ w20 SG.out small_given (by decide)
  rw [show checkC givenC ⟨#[97, 98, 99, 100, 101, 102, 103, 104, 105, 106, 107, 108, 109, 110, 111, 112, 113, 114, 115, 116]⟩ = 0 from by decide +kernel] at pk
  have Pk := Lib.hid pk; clear pk
  go_wp2_with fail
  refine Pk.out.mono ?_
  rintro e w21 ⟨rfl, b21⟩
  clear Pk
  clear SG
  have T21 := Lib.hid (T20.out.trans (b21.mono T20.out.size))
  have SB := Lib.hid (SB.out.later b21)
  have SW := Lib.hid (SW.out.later b21)
  clear b21
  go_wp2_with fail
  refine (givenC_calls w21).mono ?_
  rintro e w22 ⟨Ag, cg, rfl, SG, b22⟩
  have T22 := Lib.hid (T21.out.trans (b22.mono T21.out.size))
  have SB := Lib.hid (SB.out.later b22)
  have SW := Lib.hid (SW.out.later b22)
  clear b22
  have pk := cCheck_calls Ag cg givenC ⟨#[97, 98, 99, 100, 101, 102, 103, 104, 105, 106, 107, 108, 109, 110, 111, 112, 113, 114, 115, 116, 117]⟩ w22 SG.out small_given (by decide)
  rw [show checkC givenC ⟨#[97, 98, 99, 100, 101, 102, 103, 104, 105, 106, 107, 108, 109, 110, 111, 112, 113, 114, 115, 116, 117]⟩ = 8 from by decide +kernel] at pk
  have Pk := Lib.hid pk; clear pk
  go_wp2_with fail
  refine Pk.out.mono ?_
  rintro e w23 ⟨rfl, b23⟩
  clear Pk
  clear SG
  have T23 := Lib.hid (T22.out.trans (b23.mono T22.out.size))
  have SB := Lib.hid (SB.out.later b23)
  have SW := Lib.hid (SW.out.later b23)
  clear b23
  have pk := cCheck_calls (some ⟨w23.heap.size, 0, none⟩) 41 bigRC ⟨#[91]⟩ _ (bigC_sl w23) small_bigC (by decide)
  rw [show checkC bigRC ⟨#[91]⟩ = 4 from by decide +kernel] at pk
  have Pk := Lib.hid pk; clear pk
  go_wp2_with fail
  refine Pk.out.mono ?_
  rintro e w24 ⟨rfl, bx⟩
  have b24 : Below w23.heap.size w23 w24 := (blC _).trans (bx.mono (blC _).size)
  clear Pk bx
  have T24 := Lib.hid (T23.out.trans (b24.mono T23.out.size))
  have SB := Lib.hid (SB.out.later b24)
  have SW := Lib.hid (SW.out.later b24)
  clear b24
  have pk := left_calls A7 c7 wordC 2 ⟨#[]⟩ w24 SW.out (fits_i64 (by decide)) (by decide)
  rw [show sideF (leftF ⟨#[]⟩ wordC) wordC 2 ⟨#[]⟩ = (0, 2) from by decide +kernel] at pk
  have Pk := Lib.hid pk; clear pk
  go_wp2_with fail
  refine Pk.out.mono ?_
  rintro e w25 ⟨rfl, b25⟩
  clear Pk
  have T25 := Lib.hid (T24.out.trans (b25.mono T24.out.size))
  have SB := Lib.hid (SB.out.later b25)
  have SW := Lib.hid (SW.out.later b25)
  clear b25
  have pk := right_calls A7 c7 wordC 99 ⟨#[]⟩ w25 SW.out (fits_i64 (by decide)) (by decide)
  rw [show sideF (rightF ⟨#[]⟩ wordC) wordC 99 ⟨#[]⟩ = (0, 2) from by decide +kernel] at pk
  have Pk := Lib.hid pk; clear pk
  go_wp2_with fail
  refine Pk.out.mono ?_
  rintro e w26 ⟨rfl, b26⟩
  clear Pk
  have T26 := Lib.hid (T25.out.trans (b26.mono T25.out.size))
  have SB := Lib.hid (SB.out.later b26)
  have SW := Lib.hid (SW.out.later b26)
  clear b26
  have pk := right_calls A7 c7 wordC 0 ⟨#[60]⟩ w26 SW.out (fits_i64 (by decide)) (by decide)
  rw [show sideF (rightF ⟨#[60]⟩ wordC) wordC 0 ⟨#[60]⟩ = (0, 8) from by decide +kernel] at pk
  have Pk := Lib.hid pk; clear pk
  go_wp2_with fail
  refine Pk.out.mono ?_
  rintro e w27 ⟨rfl, b27⟩
  clear Pk
  have T27 := Lib.hid (T26.out.trans (b27.mono T26.out.size))
  have SB := Lib.hid (SB.out.later b27)
  have SW := Lib.hid (SW.out.later b27)
  clear b27
  have pk := cFind_calls (some ⟨w5.heap.size + 1, 0, none⟩) 1 bothC A7 c7 wordC ⟨#[]⟩ (-1) w27 SB.out SW.out small_both (fits_i64 (by decide)) (by decide)
  rw [show cFindF bothC ⟨#[]⟩ wordC (-1) = (0, 2) from by decide +kernel] at pk
  have Pk := Lib.hid pk; clear pk
  go_wp2_with fail
  refine Pk.out.mono ?_
  rintro e w28 ⟨rfl, b28⟩
  clear Pk
  have T28 := Lib.hid (T27.out.trans (b28.mono T27.out.size))
  have SB := Lib.hid (SB.out.later b28)
  have SW := Lib.hid (SW.out.later b28)
  clear b28
  have pk := cFind_calls (some ⟨w5.heap.size + 1, 0, none⟩) 1 bothC A7 c7 wordC ⟨#[]⟩ 2 w28 SB.out SW.out small_both (fits_i64 (by decide)) (by decide)
  rw [show cFindF bothC ⟨#[]⟩ wordC 2 = (-1, 0) from by decide +kernel] at pk
  have Pk := Lib.hid pk; clear pk
  go_wp2_with fail
  refine Pk.out.mono ?_
  rintro e w29 ⟨rfl, b29⟩
  clear Pk
  have T29 := Lib.hid (T28.out.trans (b29.mono T28.out.size))
  have SB := Lib.hid (SB.out.later b29)
  have SW := Lib.hid (SW.out.later b29)
  clear b29
  have pk := cRun_calls (some ⟨w5.heap.size + 1, 0, none⟩) 1 bothC ⟨#[]⟩ A7 c7 wordC 31 w29 SB.out SW.out small_both (by decide) (fits_i64 (by decide))
  unfold CRunPost at pk
  rw [show cRunF bothC ⟨#[]⟩ wordC 31 = ([], 2) from by decide +kernel] at pk
  have Pk := Lib.hid pk; clear pk
  go_wp2_with fail
  refine Pk.out.mono ?_
  rintro e w30 ⟨Ar, cr, rfl, _, b30⟩
  clear Pk
  have T30 := Lib.hid (T29.out.trans (b30.mono T29.out.size))
  have SB := Lib.hid (SB.out.later b30)
  have SW := Lib.hid (SW.out.later b30)
  clear b30
  have sm := lit_newC (E := pMod) (w := w30) (t := 27) (cells := #[.int .u8 91, .slice none 0 0]) (xs := [⟨91, []⟩]) ⟨_, [], rfl, mod0_R (fits_u8 (n := 91) (by decide)), rfl⟩ (by decide) (n := 1) rfl
  have pk := cStep_calls (some ⟨w5.heap.size + 1, 0, none⟩) 1 bothC ⟨#[]⟩ (some ⟨w30.heap.size, 0, none⟩) 1 [⟨91, []⟩] _ (SB.out.later (blC _)) sm small_both (by decide)
  unfold CStepPost at pk
  rw [show cStepF bothC ⟨#[]⟩ [⟨91, []⟩] = ([], 28) from by decide +kernel] at pk
  have Pk := Lib.hid pk; clear pk
  clear sm
  go_wp2_with fail
  refine Pk.out.mono ?_
  rintro e w31 ⟨Ar, cr, rfl, _, bx⟩
  have b31 : Below w30.heap.size w30 w31 := (blC _).trans (bx.mono (blC _).size)
  clear Pk bx
  have T31 := Lib.hid (T30.out.trans (b31.mono T30.out.size))
  clear b31 SB SW
  go_wp2_with fail
  refine (aliveC_calls w31 (HL.out.later T31.out)).mono ?_
  rintro e w32 ⟨rfl, b32⟩
  have T32 := Lib.hid (T31.out.trans (b32.mono T31.out.size))
  go_wp2
  go_ret
  exact ⟨rfl, T32.out⟩
end Go.Proofs.YtpeknefmjdipmaaDoor
