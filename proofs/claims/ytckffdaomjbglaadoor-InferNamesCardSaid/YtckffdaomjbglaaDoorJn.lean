/-
  InferNames, the walk of the law: it returns true.
-/
import Derived.Test.YtckffdaomjbglaaDoorIx
import Derived.Deep.DeepCutAuto
namespace Go.Proofs.YtckffdaomjbglaaDoor
open Go.RowKit Go.Sort
set_option linter.unusedVariables false

theorem madeQ {α : Type} {E : Rp α} {F : Nat → Prop} {w : World} {g n : Nat} {t : TypeId} {z : Value} {x : α} (h : Blk w g t (madeCells z.cells (n * E.n))) (hR : E.R F w z.cells.toList x) (hF : F g) (hn : n ≤ maxLen) : SlAt E F w (some ⟨g, 0, none⟩) n (List.replicate n x) := by
  refine ⟨by simp, hn, (fun e => by cases e), fun i y hy => ?_⟩
  obtain ⟨hi, hye⟩ := List.getElem?_eq_some_iff.1 hy
  simp at hi hye
  subst hye
  refine ⟨g, 0, z.cells.toList, rfl, hF, hR, fun j c hj => ?_⟩
  have hj2 : j < z.cells.toList.length := (List.getElem?_eq_some_iff.1 hj).1
  have hl := E.len hR
  rw [h.cell]
  have hm : 0 + i * E.n + j < n * E.n := by
    have : (i + 1) * E.n ≤ n * E.n := Nat.mul_le_mul_right _ hi
    rw [Nat.add_mul] at this; omega
  have hz : z.cells[(0 + i * E.n + j) % z.cells.size]! = c := by
    have hs : z.cells.size = E.n := by simpa using hl
    rw [hs, Nat.zero_add, Nat.add_comm, Nat.add_mul_mod_self_right, Nat.mod_eq_of_lt (by omega)]
    have hj3 : z.cells[j]? = some c := by simpa using hj
    rw [getElem!_def, hj3]
  unfold madeCells
  rw [Array.getElem?_map, Array.getElem?_range, if_pos hm]
  exact congrArg some hz
def zeroR : Value := .agg #[.int .u8 0, .int .i64 0, .int .u8 0, .int .u8 0, .slice none 0 0, .int .i64 0, .slice none 0 0]
def bigC : Array Value := madeCells zeroR.cells (41 * 7)
def bigR : List Rul := List.replicate 41 ⟨0, 0, 0, 0, [], 0, []⟩
theorem info_rulN : (Tryd.prog.info? 43).map (fun i => (i.zero, i.size, i.bytes)) = some (some zeroR, 7, 80) := by kernel_rfl
theorem make_bigR (wx : World) : (Instr.makeSlice 25 (.int .i64 41) (.int .i64 41)).run Tryd.prog wx = .ok (.slice (some ⟨wx.heap.size, 0, none⟩) 41 41) (wx.alloc (.cells bigC 43)) :=
  run_make_rowN Tryd.underlying25 info_rulN 41 (by omega) (by omega) wx
theorem rul_R0 {F : Nat → Prop} {w : World} {x : Int} (hx : Fits .u8 x) : pRul.R F w [.int .u8 x, .int .i64 0, .int .u8 0, .int .u8 0, .slice none 0 0, .int .i64 0, .slice none 0 0] ⟨x, 0, 0, 0, [], 0, []⟩ :=
  ⟨none, 0, none, 0, rfl, ⟨hx, fits_i64 (n := 0) (by decide), fits_u8 (n := 0) (by decide), fits_u8 (n := 0) (by decide), fits_i64 (n := 0) (by decide)⟩, sl_none, sl_none⟩
theorem big_sl {w : World} {g : Nat} (h : Blk w g 43 bigC) : SlAt pRul (Old w) w (some ⟨g, 0, none⟩) 41 bigR :=
  madeQ (E := pRul) (z := zeroR) h (rul_R0 (fits_u8 (n := 0) (by decide))) h.lt (by unfold maxLen; omega)
def ruleA : Rul := ⟨97, 0, 0, 0, [], 0, []⟩
def manyA : List Rul := List.replicate 31 ruleA
theorem mod_lit (w : World) {x : Int} (hx : Fits .u8 x) : SlAt pMod (Old (w.alloc (.cells #[.int .u8 x, .slice none 0 0] 50))) (w.alloc (.cells #[.int .u8 x, .slice none 0 0] 50)) (some ⟨w.heap.size, 0, none⟩) 1 [⟨x, []⟩] :=
  lit_new (E := pMod) (xs := [⟨x, []⟩]) ⟨_, [], rfl, ⟨none, 0, rfl, hx, sl_nilI⟩, rfl⟩ (by unfold maxLen; simp) rfl
theorem pairL (x r : Int) (w : World) (hx : Fits .u8 x) (hf : plainF [⟨x, []⟩] = r) (hr : r ≠ 0) : Calls Tryd.prog 15 #[.slice (some ⟨w.heap.size, 0, none⟩) 1 1] (w.alloc (.cells #[.int .u8 x, .slice none 0 0] 50)) fun e w' => e = .returned (.tuple #[.int .u8 0, .int .u8 0, .int .i64 0, .int .i64 r]) ∧ Below w.heap.size w w' := by
  refine (pairE_calls _ 1 [⟨x, []⟩] r _ (mod_lit w hx) (by simp) hf hr).mono ?_
  rintro e w' ⟨rfl, hb⟩
  exact ⟨rfl, (bl _).trans (hb.mono (bl _).size)⟩
theorem sizeL1 (w : World) : Calls Tryd.prog 11 #[.slice (some ⟨w.heap.size, 0, none⟩) 1 1, .slice (some ⟨w.heap.size + 1, 0, none⟩) 1 1] ((w.alloc (.cells #[.int .u8 91, .slice none 0 0] 50)).alloc (.cells #[.int .u8 0, .int .i64 0, .int .u8 0, .int .u8 0, .slice none 0 0, .int .i64 0, .slice none 0 0] 43)) fun e w' => e = .returned (.tuple #[.int .i64 0, .int .i64 8]) ∧ Below w.heap.size w w' := by
  have h1 := (mod_lit w (fits_u8 (n := 91) (by decide))).later (bl (.cells #[.int .u8 0, .int .i64 0, .int .u8 0, .int .u8 0, .slice none 0 0, .int .i64 0, .slice none 0 0] 43))
  have h2 := lit_new (E := pRul) (w := w.alloc (.cells #[.int .u8 91, .slice none 0 0] 50)) (t := 43) (cells := #[.int .u8 0, .int .i64 0, .int .u8 0, .int .u8 0, .slice none 0 0, .int .i64 0, .slice none 0 0]) (xs := [⟨0, 0, 0, 0, [], 0, []⟩]) ⟨_, [], rfl, rul_R0 (fits_u8 (n := 0) (by decide)), rfl⟩ (by unfold maxLen; simp) (n := 1) rfl
  have hz : (w.alloc (.cells #[.int .u8 91, .slice none 0 0] 50)).heap.size = w.heap.size + 1 := by simp
  rw [hz] at h2
  have := size_calls _ 1 [⟨91, []⟩] _ 1 [⟨0, 0, 0, 0, [], 0, []⟩] _ h2 h1 (small_of (by decide +kernel))
  unfold PairPost at this
  rw [show sizeF [⟨91, []⟩] [⟨0, 0, 0, 0, [], 0, []⟩] = (0, 8) from by decide +kernel] at this
  refine this.mono ?_
  rintro e w' ⟨rfl, hb⟩
  exact ⟨rfl, (bl _).trans (((bl _).trans (hb.mono (bl _).size)).mono (bl _).size)⟩
theorem sizeL2 (w : World) : Calls Tryd.prog 11 #[.slice (some ⟨w.heap.size, 0, none⟩) 1 1, .slice none 0 0] (w.alloc (.cells #[.int .u8 91, .slice none 0 0] 50)) fun e w' => e = .returned (.tuple #[.int .i64 0, .int .i64 28]) ∧ Below w.heap.size w w' := by
  have := size_calls _ 1 [⟨91, []⟩] none 0 [] _ sl_none (mod_lit w (fits_u8 (n := 91) (by decide))) (small_of (by decide +kernel))
  unfold PairPost at this
  rw [show sizeF [⟨91, []⟩] [] = (0, 28) from by decide +kernel] at this
  refine this.mono ?_
  rintro e w' ⟨rfl, hb⟩
  exact ⟨rfl, (bl _).trans (hb.mono (bl _).size)⟩
theorem expandE (A : Option Addr) (c : Nat) (rs : List Rul) (n : Nat) (r : Int) (w : World) (h : SlAt pRul (Old w) w A c rs) (hs : Small rs) (hn : rs.length = n) (hr : rRunF rs [] (n : Int) = ([], r)) : Calls Tryd.prog 10 #[.slice none 0 0, .slice A n c] w fun e w' => e = .returned (.tuple #[.slice none 0 0, .int .i64 r]) ∧ Below w.heap.size w w' ∨ ∃ A' c', e = .returned (.tuple #[.slice A' 0 c', .int .i64 r]) ∧ Below w.heap.size w w' := by
  subst hn
  have := expand_calls none 0 [] A c rs w h sl_none hs
  unfold RRunPost at this
  rw [hr] at this
  refine this.mono ?_
  rintro e w' ⟨A', c', rfl, _, hb⟩
  exact .inr ⟨A', c', rfl, hb⟩
set_option maxRecDepth 100000 in
set_option maxHeartbeats 8000000 in
theorem inferNames_walk (w : World) (hL : LibAt w) : Calls Tryd.prog 6 #[] w (OkPost w) := by
  have mb := make_bigR
  have T0 : Hid (Below w.heap.size w w) := Below.refl _ _
  have eRp : replF ([97, 97, 97, 98].map modOf) 97 97 122 = ([122, 97, 98], 0) := by decide +kernel
  have eR2 : replF [] 91 97 122 = ([], 2) := by decide +kernel
  have eR3 : replF [] 97 97 0 = ([], 2) := by decide +kernel
  have eI1 : inferF [] 31 = ([], [], 2) := by decide +kernel
  have eI2 : inferF [⟨70, [1]⟩] (-1) = ([], [], 8) := by decide +kernel
  have f97 : Fits .u8 97 := fits_u8 (n := 97) (by decide)
  have HL := Lib.hid hL; clear hL
  have ERp := Lib.hid eRp; clear eRp
  have ER2 := Lib.hid eR2; clear eR2
  have ER3 := Lib.hid eR3; clear eR3
  have EI1 := Lib.hid eI1; clear eI1
  have EI2 := Lib.hid eI2; clear eI2
  have F97 := Lib.hid f97; clear f97
  go_enter Tryd.func6, Tryd.ntmps6

  go_wp2_with fail
  refine (infersV ⟨#[]⟩ 30 ⟨#[]⟩ none 0 0 [] [] w (HL.out.later T0.out) (want_none _) rfl (by decide +kernel)).mono ?_
  rintro e w1 ⟨rfl, b⟩
  have T1 := Lib.hid (T0.out.trans (b.mono T0.out.size))
  clear b
  go_wp2_with fail
  refine (infersV ⟨#[97, 98, 97, 98]⟩ 0 ⟨#[97, 98, 97, 98]⟩ none 0 0 [97, 98, 97, 98] [] w1 (HL.out.later T1.out) (want_none _) rfl (by decide +kernel)).mono ?_
  rintro e w2 ⟨rfl, b⟩
  have T2 := Lib.hid (T1.out.trans (b.mono T1.out.size))
  clear b
  go_wp2_with fail
  refine (infersA ⟨#[97, 98, 99, 97, 98, 99, 97, 98, 99, 97, 98, 99]⟩ 2 ⟨#[66, 66, 66, 66]⟩ #[.string ⟨#[65, 97, 98]⟩, .string ⟨#[66, 65, 99]⟩] 2 2 [66, 66, 66, 66] [(65, 97, 98), (66, 65, 99)] w2 (HL.out.later T2.out) rfl rfl (by decide +kernel)).mono ?_
  rintro e w3 ⟨rfl, b⟩
  have T3 := Lib.hid (T2.out.trans (b.mono T2.out.size))
  clear b
  go_wp2_with fail
  refine (infersA ⟨#[91, 97, 98, 93, 91, 97, 98, 93]⟩ 9 ⟨#[91, 65, 93, 91, 65, 93]⟩ #[.string ⟨#[65, 97, 98]⟩] 1 1 [91, 65, 93, 91, 65, 93] [(65, 97, 98)] w3 (HL.out.later T3.out) rfl rfl (by decide +kernel)).mono ?_
  rintro e w4 ⟨rfl, b⟩
  have T4 := Lib.hid (T3.out.trans (b.mono T3.out.size))
  clear b
  go_wp2_with fail
  refine (infersV ⟨#[97, 91, 98, 93, 97, 91, 98, 93]⟩ 9 ⟨#[97, 91, 98, 93, 97, 91, 98, 93]⟩ none 0 0 [97, 91, 98, 93, 97, 91, 98, 93] [] w4 (HL.out.later T4.out) (want_none _) rfl (by decide +kernel)).mono ?_
  rintro e w5 ⟨rfl, b⟩
  have T5 := Lib.hid (T4.out.trans (b.mono T4.out.size))
  clear b
  go_wp2_with fail
  refine (infersA ⟨#[65, 66, 65, 66]⟩ 9 ⟨#[67, 67]⟩ #[.string ⟨#[67, 65, 66]⟩] 1 1 [67, 67] [(67, 65, 66)] w5 (HL.out.later T5.out) rfl rfl (by decide +kernel)).mono ?_
  rintro e w6 ⟨rfl, b⟩
  have T6 := Lib.hid (T5.out.trans (b.mono T5.out.size))
  clear b
  go_wp2_with fail
  refine (infersA ⟨#[98, 97, 98, 97, 98]⟩ 9 ⟨#[98, 65, 65]⟩ #[.string ⟨#[65, 97, 98]⟩] 1 1 [98, 65, 65] [(65, 97, 98)] w6 (HL.out.later T6.out) rfl rfl (by decide +kernel)).mono ?_
  rintro e w7 ⟨rfl, b⟩
  have T7 := Lib.hid (T6.out.trans (b.mono T6.out.size))
  clear b
  go_wp2_with fail
  refine (infersA ⟨#[43, 45, 43, 45, 70]⟩ 9 ⟨#[65, 65, 70]⟩ #[.string ⟨#[65, 43, 45]⟩] 1 1 [65, 65, 70] [(65, 43, 45)] w7 (HL.out.later T7.out) rfl rfl (by decide +kernel)).mono ?_
  rintro e w8 ⟨rfl, b⟩
  have T8 := Lib.hid (T7.out.trans (b.mono T7.out.size))
  clear b
  go_wp2_with fail
  refine (lawPlain_calls ⟨#[98, 97, 98, 97, 98]⟩ ([98, 97, 98, 97, 98].map modOf) w8 (HL.out.later T8.out) (by decide) (by decide +kernel)).mono ?_
  rintro e w9 ⟨A1, c1, rfl, S1, b⟩
  have T9 := Lib.hid (T8.out.trans (b.mono T8.out.size))
  clear b
  go_wp2_with fail
  refine (pairV_calls A1 c1 ([98, 97, 98, 97, 98].map modOf) 97 98 2 0 w9 S1.out (by decide) (by decide +kernel) (by decide +kernel) (by decide)).mono ?_
  rintro e w10 ⟨rfl, b⟩
  have T10 := Lib.hid (T9.out.trans (b.mono T9.out.size))
  clear b
  go_wp2_with fail
  refine (lawPlain_calls ⟨#[99, 99, 99]⟩ ([99, 99, 99].map modOf) w10 (HL.out.later T10.out) (by decide) (by decide +kernel)).mono ?_
  rintro e w11 ⟨A2, c2, rfl, S2, b⟩
  have T11 := Lib.hid (T10.out.trans (b.mono T10.out.size))
  clear b
  go_wp2_with fail
  refine (pairV_calls A2 c2 ([99, 99, 99].map modOf) 99 99 1 0 w11 S2.out (by decide) (by decide +kernel) (by decide +kernel) (by decide)).mono ?_
  rintro e w12 ⟨rfl, b⟩
  have T12 := Lib.hid (T11.out.trans (b.mono T11.out.size))
  clear b
  go_wp2_with fail
  refine (lawPlain_calls ⟨#[97, 91, 98, 93, 99]⟩ ([97, 91, 98, 93, 99].map modOf) w12 (HL.out.later T12.out) (by decide) (by decide +kernel)).mono ?_
  rintro e w13 ⟨A3, c3, rfl, S3, b⟩
  have T13 := Lib.hid (T12.out.trans (b.mono T12.out.size))
  clear b
  go_wp2_with fail
  refine (pairV_calls A3 c3 ([97, 91, 98, 93, 99].map modOf) 0 0 0 6 w13 S3.out (by decide) (by decide +kernel) (by decide +kernel) (by decide)).mono ?_
  rintro e w14 ⟨rfl, b⟩
  have T14 := Lib.hid (T13.out.trans (b.mono T13.out.size))
  clear b
  go_wp2_with fail
  refine (lawPlain_calls ⟨#[70, 40, 49, 41, 70]⟩ [⟨70, [1]⟩, ⟨70, []⟩] w14 (HL.out.later T14.out) (by decide) (by decide +kernel)).mono ?_
  rintro e w15 ⟨A4, c4, rfl, S4, b⟩
  have T15 := Lib.hid (T14.out.trans (b.mono T14.out.size))
  clear b
  go_wp2_with fail
  refine (pairE_calls A4 c4 [⟨70, [1]⟩, ⟨70, []⟩] 8 w15 S4.out (by decide) (by decide +kernel) (by decide)).mono ?_
  rintro e w16 ⟨rfl, b⟩
  have T16 := Lib.hid (T15.out.trans (b.mono T15.out.size))
  clear b
  go_wp2_with fail
  refine (pairL 93 28 w16 (fits_u8 (n := 93) (by decide)) (by decide +kernel) (by decide)).mono ?_
  rintro e w17 ⟨rfl, b⟩
  have T17 := Lib.hid (T16.out.trans (b.mono T16.out.size))
  clear b
  go_wp2_with fail
  refine (lawPlain_calls ⟨#[97, 97, 97, 98]⟩ ([97, 97, 97, 98].map modOf) w17 (HL.out.later T17.out) (by decide) (by decide +kernel)).mono ?_
  rintro e w18 ⟨A5, c5, rfl, S5, b⟩
  have T18 := Lib.hid (T17.out.trans (b.mono T17.out.size))
  clear b
  have rc := replaceW_calls A5 c5 ([97, 97, 97, 98].map modOf) 97 97 122 w18 S5.out (by decide) F97.out F97.out (fits_u8 (n := 122) (by decide))
  unfold ReplPost at rc
  rw [ERp.out] at rc
  have Rc := Lib.hid rc; clear rc
  go_wp2_with fail
  refine (Rc.out).mono ?_
  rintro e w19 ⟨A6, c6, rfl, o6, b⟩
  have T19 := Lib.hid (T18.out.trans (b.mono T18.out.size))
  have S6 := Lib.hid (own_mods o6 (Below.refl _ _)).2
  clear o6
  clear b
  have rc := replaceW_calls none 0 [] 91 97 122 w19 sl_none (by decide) (fits_u8 (n := 91) (by decide)) F97.out (fits_u8 (n := 122) (by decide))
  unfold ReplPost at rc
  rw [ER2.out] at rc
  have Rc2 := Lib.hid rc; clear rc
  go_wp2_with fail
  refine (Rc2.out).mono ?_
  rintro e w20 ⟨A7, c7, rfl, o7, b⟩
  have T20 := Lib.hid (T19.out.trans (b.mono T19.out.size))
  have S6 := Lib.hid (S6.out.later b)
  clear o7
  clear b
  have rc := replaceW_calls none 0 [] 97 97 0 w20 sl_none (by decide) F97.out F97.out (fits_u8 (n := 0) (by decide))
  unfold ReplPost at rc
  rw [ER3.out] at rc
  have Rc3 := Lib.hid rc; clear rc
  go_wp2_with fail
  refine (Rc3.out).mono ?_
  rintro e w21 ⟨A8, c8, rfl, o8, b⟩
  have T21 := Lib.hid (T20.out.trans (b.mono T20.out.size))
  have S6 := Lib.hid (S6.out.later b)
  clear o8
  clear b
  have ic := infer_calls none 0 [] 31 w21 sl_none (by decide)
  unfold InferPost at ic
  rw [EI1.out] at ic
  have Ic := Lib.hid ic; clear ic
  go_wp2_with fail
  refine (Ic.out).mono ?_
  rintro e w22 ⟨A9, c9, B9, d9, rfl, o9, r9, b⟩
  have T22 := Lib.hid (T21.out.trans (b.mono T21.out.size))
  have S6 := Lib.hid (S6.out.later b)
  clear o9 r9
  clear b
  go_wp2_with fail
  refine (lawPlain_calls ⟨#[70, 40, 49, 41]⟩ [⟨70, [1]⟩] w22 (HL.out.later T22.out) (by decide) (by decide +kernel)).mono ?_
  rintro e w23 ⟨A10, c10, rfl, S10, b⟩
  have T23 := Lib.hid (T22.out.trans (b.mono T22.out.size))
  have S6 := Lib.hid (S6.out.later b)
  clear b
  have ic := infer_calls A10 c10 [⟨70, [1]⟩] (-1) w23 S10.out (by decide)
  unfold InferPost at ic
  rw [EI2.out] at ic
  have Ic2 := Lib.hid ic; clear ic
  go_wp2_with fail
  refine (Ic2.out).mono ?_
  rintro e w24 ⟨A11, c11, B11, d11, rfl, o11, r11, b⟩
  have T24 := Lib.hid (T23.out.trans (b.mono T23.out.size))
  have S6 := Lib.hid (S6.out.later b)
  clear o11 r11
  clear b
  go_wp2_with fail
  refine (sizeL1 w24).mono ?_
  rintro e w25 ⟨rfl, b⟩
  have T25 := Lib.hid (T24.out.trans (b.mono T24.out.size))
  have S6 := Lib.hid (S6.out.later b)
  clear b
  go_wp2_with fail
  refine (sizeL2 w25).mono ?_
  rintro e w26 ⟨rfl, b⟩
  have T26 := Lib.hid (T25.out.trans (b.mono T25.out.size))
  have S6 := Lib.hid (S6.out.later b)
  clear b
  have xc := expandE _ 41 bigR 41 4 _ (big_sl (Blk.new w26 43 bigC)) (small_of (by decide +kernel)) List.length_replicate (by decide +kernel)
  have Xc := Lib.hid xc; clear xc
  go_wp2_with fail
  refine Xc.out.mono ?_
  rintro e w27 hx
  obtain ⟨A12, c12, rfl, b⟩ : ∃ A' c', e = .returned (.tuple #[.slice A' 0 c', .int .i64 4]) ∧ Below w26.heap.size w26 w27 := by
    rcases hx with ⟨rfl, hb⟩ | ⟨A', c', rfl, hb⟩
    · exact ⟨none, 0, rfl, (bl _).trans (hb.mono (bl _).size)⟩
    · exact ⟨A', c', rfl, (bl _).trans (hb.mono (bl _).size)⟩
  have T27 := Lib.hid (T26.out.trans (b.mono T26.out.size))
  have S6 := Lib.hid (S6.out.later b)
  clear b hx
  have RA : pRul.R (fun _ => False) w27 (Value.agg #[.int .u8 97, .int .i64 0, .int .u8 0, .int .u8 0, .slice none 0 0, .int .i64 0, .slice none 0 0]).cells.toList ruleA := rul_R0 F97.out
  have eX : rRunF manyA [] (((31 : Nat) : Int)) = ([], 2) := by decide +kernel
  have sX : greatR manyA = false := by decide +kernel
  have EX := Lib.hid eX
  have SX0 := Lib.hid sX
  clear eX sX
  clear RA
  go_wp2_with fail
  go_loopw [40] (fun mv wr => ∃ (k : Nat) (Ao : Option Addr) (co : Nat), k ≤ 31 ∧ mv = .slice Ao k co ∧ Hid (Below w27.heap.size w27 wr) ∧ w27.heap.size ≤ wr.heap.size ∧ Hid (Own pRul 43 w27.heap.size (w27.heap.size ≤ ·) wr (.slice Ao k co) (List.replicate k ruleA))) (fun mv _ => 31 - (match mv with | .slice _ k _ => k | _ => 0))
  case atStart => exact ⟨0, none, 0, by omega, rfl, Below.refl _ _, Nat.le_refl _, Own.nil⟩
  case round =>
    obtain ⟨k, Ao, co, hk, rfl, hb, hsz, hown⟩ := hrel
    obtain ⟨wo, rfl⟩ : ∃ wo : World, wo = wr := ⟨_, rfl⟩
    by_cases hlt : k < 31
    case pos =>
      have hln : (List.replicate k ruleA).length + 1 = k + 1 := by rw [List.length_replicate]
      have hrm : Room (List.replicate k ruleA).length := room_of (by rw [List.length_replicate]; omega)
      have hR : pRul.R (fun _ => False) wo (Value.agg #[.int .u8 97, .int .i64 0, .int .u8 0, .int .u8 0, .slice none 0 0, .int .i64 0, .slice none 0 0]).cells.toList ruleA := rul_R0 F97.out
      have hlt' : (k : Int) < 31 := by omega
      have Hln := Lib.hid hln; clear hln
      have Hrm := Lib.hid hrm; clear hrm
      have HR := Lib.hid hR; clear hR
      have Hown := Lib.hid hown; clear hown
      go_wp2_with ((with_reducible show wpList _ _ _ (Oper.mk (some 156) _ _ _ _ _ :: _) _ _); (refine wpList_pushG (E := pRul) (xs := List.replicate k ruleA) (v := .slice Ao k co) (base := w27.heap.size) (G := (w27.heap.size ≤ ·)) 25 43 zeroR 80 156 (.tmp 154) (.tmp 155) rfl rfl rfl rfl rfl Tryd.underlying25 info_rulN rfl (by decide) (fun _ => rfl) (fun _ => rfl) Hown.out.out (.agg #[.int .u8 97, .int .i64 0, .int .u8 0, .int .u8 0, .slice none 0 0, .int .i64 0, .slice none 0 0]) rfl ruleA (fun _ => False) HR.out (fun _ h => h.elim) (k + 1) Hln.out Hrm.out ⟨by decide, by decide⟩ hsz ?_); intro A6 c6 w6 hown6 hg6)
      go_roundw
      case rel =>
        have hz6 := hg6.out.bel.size
        refine ⟨k + 1, A6, c6, hlt, rfl, hb.out.trans hg6.out.bel, by omega, ?_⟩
        unfold Hid; rw [List.replicate_succ']; exact hown6.out
      case measure => simp; omega
    case neg =>
      obtain rfl : k = 31 := by omega
      have TX := Lib.hid (T27.out.trans (hb.out.mono T27.out.size))
      have SX := Lib.hid (S6.out.later hb.out)
      have RX := Lib.hid (own_ruls hown.out (Below.refl _ _))
      have xc2 := expandE Ao co manyA 31 2 wo RX.out (small_of SX0.out) List.length_replicate EX.out
      have Xc2 := Lib.hid xc2; clear xc2
      clear hown
      go_wp2_with fail
      refine Xc2.out.mono ?_
      rintro e wa hx
      obtain ⟨A13, c13, rfl, b⟩ : ∃ A' c', e = .returned (.tuple #[.slice A' 0 c', .int .i64 2]) ∧ Below wo.heap.size wo wa := by
        rcases hx with ⟨rfl, hb⟩ | ⟨A', c', rfl, hb⟩
        · exact ⟨none, 0, rfl, hb⟩
        · exact ⟨A', c', rfl, hb⟩
      have TA := Lib.hid (TX.out.trans (b.mono TX.out.size))
      have SA := Lib.hid (SX.out.later b)
      clear b hx
      go_wp2_with fail
      refine (lawPlain_calls ⟨#[122, 97, 98]⟩ ([122, 97, 98].map modOf) wa (HL.out.later TA.out) (by decide) (by decide +kernel)).mono ?_
      rintro e wb ⟨AB, cB, rfl, SB, b⟩
      have TB := Lib.hid (TA.out.trans (b.mono TA.out.size))
      have sab := refSame_calls A6 AB c6 cB ([122, 97, 98].map modOf) ([122, 97, 98].map modOf) wb (SA.out.later b) SB.out
      rw [beq_self_eq_true] at sab
      have Sab := Lib.hid sab; clear sab
      clear b
      go_wp2_with fail
      refine Sab.out.mono ?_
      rintro e wc ⟨rfl, b⟩
      have TC := Lib.hid (TB.out.trans (b.mono TB.out.size)); clear b
      go_wp2_with fail
      refine (alive_calls wc (HL.out.later TC.out)).mono ?_
      rintro e wd ⟨rfl, b⟩
      have TD := Lib.hid (TC.out.trans (b.mono TC.out.size)); clear b
      go_wp2
      go_ret
      exact ⟨rfl, TD.out⟩
end Go.Proofs.YtckffdaomjbglaaDoor
