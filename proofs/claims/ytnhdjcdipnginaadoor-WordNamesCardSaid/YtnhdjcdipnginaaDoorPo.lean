/-
  WordNames, the walk of the law: it returns true.
-/
import Derived.Test.YtnhdjcdipnginaaDoorPi
import Derived.Deep.DeepCutAuto
namespace Go.Proofs.YtnhdjcdipnginaaDoor
open Go.RowKit Go.Sort
set_option linter.unusedVariables false

theorem bl6 {w : World} (o : Obj) : Below w.heap.size w (w.alloc o) := (Below.refl _ _).alloc (Nat.le_refl _) _
theorem lit6 {α : Type} {E : Rp α} {w : World} {t : TypeId} {cells : Array Value} {xs : List α} (h : CellsAre E (Old w) w cells.toList xs) (hm : xs.length ≤ maxLen) {n : Nat} (hn : xs.length = n) :
    SlAt E (Old (w.alloc (.cells cells t))) (w.alloc (.cells cells t)) (some ⟨w.heap.size, 0, none⟩) n xs :=
  sl_lit (Blk.new w t cells) ((CellsAre.keep (fun k hk => Below.heap_alloc _ _ _ hk) h).wide fun k hk => by unfold Old at *; simp; omega) (by show w.heap.size < _; simp) hm hn
theorem lit_bare {w : World} {t : TypeId} {cells : Array Value} (cs : List Int) {n : Nat} (hc : cells = (bareC cs).toArray) (hn : (bareW cs).length = n) (hm : n ≤ 100) (hf : (cs.all fun c => decide (0 ≤ c) && decide (c ≤ 255)) = true) :
    SlAt pMod (Old (w.alloc (.cells cells t))) (w.alloc (.cells cells t)) (some ⟨w.heap.size, 0, none⟩) n (bareW cs) := by
  subst hc
  exact lit6 (bare_cells (fits_bytes hf)) (by unfold maxLen; omega) hn
theorem made6 {α : Type} {E : Rp α} {F : Nat → Prop} {w : World} {g n : Nat} {t : TypeId} {z : Value} {x : α} (h : Blk w g t (madeCells z.cells (n * E.n))) (hR : E.R F w z.cells.toList x) (hF : F g) (hn : n ≤ maxLen) : SlAt E F w (some ⟨g, 0, none⟩) n (List.replicate n x) := by
  refine ⟨by simp, hn, (fun e => by cases e), fun i y hy => ?_⟩
  obtain ⟨hi, hye⟩ := List.getElem?_eq_some_iff.1 hy
  simp at hi hye
  subst hye
  refine ⟨g, 0, z.cells.toList, rfl, hF, hR, fun j c hj => ?_⟩
  have hj2 : j < z.cells.toList.length := (List.getElem?_eq_some_iff.1 hj).1
  have hl := E.len hR
  rw [h.cell]
  have hm : 0 + i * E.n + j < n * E.n := by
    have : (i + 1) * E.n ≤ n * E.n := Nat.mul_le_mul_right _ hi
    rw [Nat.add_mul] at this; omega
  have hz : z.cells[(0 + i * E.n + j) % z.cells.size]! = c := by
    have hs : z.cells.size = E.n := by simpa using hl
    rw [hs, Nat.zero_add, Nat.add_comm, Nat.add_mul_mod_self_right, Nat.mod_eq_of_lt (by omega)]
    have hj3 : z.cells[j]? = some c := by simpa using hj
    rw [getElem!_def, hj3]
  unfold madeCells
  rw [Array.getElem?_map, Array.getElem?_range, if_pos hm]
  exact congrArg some hz
theorem setCell_other6 (w : World) (a : Addr) (v : Value) (q : Nat) (h : q ≠ a.block) : (w.setCell a v).heap[q]? = w.heap[q]? := by
  unfold World.setCell; rw [Array.getElem?_modify, if_neg (Ne.symm h)]
theorem sl_first {α : Type} {E : Rp α} {F : Nat → Prop} {w : World} {A : Option Addr} {cap : Nat} {xs : List α} (h : SlAt E F w A cap xs) (n : Nat) : SlAt E F w A cap (xs.take n) :=
  ⟨by have := h.le; rw [List.length_take]; omega, h.mx, h.nil, fun i x hx => h.el i x (by
    have hi := (List.getElem?_eq_some_iff.1 hx).1
    rw [List.length_take] at hi
    rwa [List.getElem?_take_of_lt (by omega)] at hx)⟩

/-! the cells of the half word: its names are written one by one -/
def halfCell (k j : Nat) : Value := if j % 2 = 0 then (if j / 2 < k then .int .u8 70 else .int .u8 0) else .slice none 0 0
def halfC (k : Nat) : Array Value := ((List.range 2002).map (halfCell k)).toArray
theorem halfC_get {k j : Nat} (h : j < 2002) : (halfC k)[j]? = some (halfCell k j) := by unfold halfC; simp [h]
theorem halfC_set (k : Nat) : (halfC k).setIfInBounds (k * 2) (.int .u8 70) = halfC (k + 1) := by
  apply Array.ext_getElem?
  intro j
  rw [Array.getElem?_setIfInBounds]
  by_cases hj : j < 2002
  · have hs : (halfC k).size = 2002 := by unfold halfC; simp
    by_cases hjk : k * 2 = j
    · subst hjk
      rw [if_pos rfl, if_pos (by omega), halfC_get hj]
      unfold halfCell
      rw [if_pos (by omega), if_pos (by omega)]
    · rw [if_neg hjk, halfC_get hj, halfC_get hj]
      unfold halfCell
      by_cases h2 : j % 2 = 0
      · rw [if_pos h2, if_pos h2]
        by_cases h3 : j / 2 < k
        · rw [if_pos h3, if_pos (by omega)]
        · rw [if_neg h3, if_neg (by omega)]
      · rw [if_neg h2, if_neg h2]
  · have h1 : ∀ q, (halfC q)[j]? = none := fun q => by
      have hs : (halfC q).size = 2002 := by unfold halfC; simp
      rw [Array.getElem?_eq_none_iff]; omega
    have hs : (halfC k).size = 2002 := by unfold halfC; simp
    rw [h1, h1]
    by_cases hjk : k * 2 = j
    · rw [if_pos hjk, if_neg (by omega)]
    · rw [if_neg hjk]
def zeroM : Value := .agg #[.int .u8 0, .slice none 0 0]
theorem info_modN : (Tryd.prog.info? 40).map (fun i => (i.zero, i.size, i.bytes)) = some (some zeroM, 2, 32) := by kernel_rfl
def manyC : Array Value := madeCells zeroM.cells (2001 * 2)
theorem half_made : madeCells zeroM.cells (1001 * 2) = halfC 0 := by
  apply Array.ext_getElem?
  intro j
  by_cases hj : j < 2002
  · rw [halfC_get hj]
    unfold madeCells
    rw [Array.getElem?_map, Array.getElem?_range, if_pos (by omega)]
    refine congrArg some ?_
    unfold halfCell
    have : j % 2 = 0 ∨ j % 2 = 1 := by omega
    rcases this with h | h
    · rw [if_pos h, if_neg (by omega)]; show zeroM.cells[j % 2]! = _; rw [h]; rfl
    · rw [if_neg (by omega)]; show zeroM.cells[j % 2]! = _; rw [h]; rfl
  · have hs : (halfC 0).size = 2002 := by unfold halfC; simp
    rw [Array.getElem?_eq_none_iff.2 (show (madeCells zeroM.cells (1001 * 2)).size ≤ j by unfold madeCells; rw [Array.size_map, Array.size_range]; omega), Array.getElem?_eq_none_iff.2 (by rw [hs]; omega)]
theorem make_many (wx : World) : (Instr.makeSlice 22 (.int .i64 2001) (.int .i64 2001)).run Tryd.prog wx = .ok (.slice (some ⟨wx.heap.size, 0, none⟩) 2001 2001) (wx.alloc (.cells manyC 40)) :=
  run_make_rowN Tryd.underlying22 info_modN 2001 (by omega) (by omega) wx
theorem make_half (wx : World) : (Instr.makeSlice 22 (.int .i64 1001) (.int .i64 1001)).run Tryd.prog wx = .ok (.slice (some ⟨wx.heap.size, 0, none⟩) 1001 1001) (wx.alloc (.cells (halfC 0) 40)) := by
  rw [← half_made]
  exact run_make_rowN Tryd.underlying22 info_modN 1001 (by omega) (by omega) wx
def halfW : List Mod := List.replicate 1001 ⟨70, []⟩
theorem halfW_len : halfW.length = 1001 := List.length_replicate
theorem half_sl {w : World} {g : Nat} (h : Blk w g 40 (halfC 1001)) : SlAt pMod (Old w) w (some ⟨g, 0, none⟩) 1001 halfW := by
  refine ⟨by rw [halfW_len]; omega, by unfold maxLen; omega, (fun e => by cases e), fun i x hx => ?_⟩
  have hi := (List.getElem?_eq_some_iff.1 hx).1
  rw [halfW_len] at hi
  obtain rfl : x = ⟨70, []⟩ := by
    have := List.mem_of_getElem? hx
    exact (List.mem_replicate.1 this).2
  refine ⟨g, 0, [.int .u8 70, .slice none 0 0], rfl, h.lt, mod0_R (fits_u8 (n := 70) (by decide)), fun j c hj => ?_⟩
  have hj2 : j < 2 := by have := (List.getElem?_eq_some_iff.1 hj).1; simpa using this
  rw [h.cell, Nat.zero_add, show pMod.n = 2 from rfl, halfC_get (by omega)]
  unfold halfCell
  match j, hj2 with
  | 0, _ => rw [if_pos (by omega), if_pos (by omega)]; exact hj
  | 1, _ => rw [if_neg (by omega)]; exact hj
theorem half_check : checkF halfW = 0 ∧ checkF (halfW.take 999) = 0 := by decide +kernel
theorem half_args : (∀ m ∈ halfW, m.args.length ≤ 1000) := fun m hm => by rw [(List.mem_replicate.1 hm).2]; simp
def fullW : List Mod := halfW ++ halfW.take 999
theorem full_len : fullW.length = 2000 := by unfold fullW; rw [List.length_append, List.length_take, halfW_len]; omega
theorem jn_many : joinRes halfW halfW = ([], 4) := joinRes_many half_check.1 half_check.1 (by rw [halfW_len]; omega)
theorem jn_full : joinRes halfW (halfW.take 999) = (fullW, 0) := joinRes_ok half_check.1 half_check.2 (by rw [List.length_take, halfW_len]; omega)
def manyW : List Mod := List.replicate 2001 ⟨0, []⟩
theorem many_len : manyW.length = 2001 := List.length_replicate
theorem many_check : checkF manyW = 4 := by unfold checkF; rw [if_pos (by rw [many_len]; omega)]
theorem many_sl {w : World} {g : Nat} (h : Blk w g 40 manyC) : SlAt pMod (Old w) w (some ⟨g, 0, none⟩) 2001 manyW :=
  made6 (E := pMod) (z := zeroM) h (mod0_R (fits_u8 (n := 0) (by decide))) h.lt (by unfold maxLen; omega)
def tenW : List Mod := [⟨38, [0]⟩, ⟨94, []⟩, ⟨124, []⟩, ⟨33, []⟩, ⟨45, []⟩, ⟨91, []⟩, ⟨122, [-1000000000]⟩, ⟨93, []⟩, ⟨91, []⟩, ⟨93, []⟩]
theorem ten_count : countF 91 tenW = 2 := by decide
theorem cls0 {r : Int × Int} (h : CloseIs givenW 0 r) : r = (0, 2) := closeIs_one h (.inr (.inr ⟨by decide +kernel, 0, ⟨70, [1, -2]⟩, rfl, rfl, .inl ⟨by decide, by decide, rfl⟩⟩))
theorem clsm {r : Int × Int} (h : CloseIs givenW (-1) r) : r = (0, 2) := closeIs_one h (.inr (.inl ⟨by decide +kernel, .inl (by decide), rfl⟩))
theorem cls6 {r : Int × Int} (h : CloseIs givenW 6 r) : r = (0, 2) := closeIs_one h (.inr (.inl ⟨by decide +kernel, .inr (by decide), rfl⟩))
theorem cls4 {r : Int × Int} (h : CloseIs givenW 4 r) : r = (1, 0) := by
  refine closeIs_one h (.inr (.inr ⟨by decide +kernel, 4, ⟨93, []⟩, rfl, rfl, .inr (.inr ⟨rfl, 1, ⟨by decide, by decide, ?_⟩, rfl⟩)⟩))
  intro j h1 h2
  have : j = 2 ∨ j = 3 ∨ j = 4 := by omega
  rcases this with rfl | rfl | rfl <;> decide
theorem px_ten : parseF [38, 40, 48, 41, 94, 124, 33, 45, 91, 122, 40, 45, 49, 48, 48, 48, 48, 48, 48, 48, 48, 48, 41, 93, 91, 93] = (tenW, 0) := by decide +kernel
set_option maxRecDepth 100000 in
theorem checked_calls (A : Option Addr) (c : Nat) (ms : List Mod) (w : World) (h : SlAt pMod (Old w) w A c ms) : Calls Tryd.prog 19 #[.slice A ms.length c] w (CheckPost ms w) := by
  have H := Lib.hid h; clear h
  go_enter Tryd.func19, Tryd.ntmps19
  go_wp2_with fail
  refine (wordCheck_calls A c ms w H.out).mono ?_
  rintro e w1 ⟨rfl, b1⟩
  have B1 := Lib.hid b1; clear b1
  go_wp2
  go_ret
  exact ⟨rfl, B1.out⟩
theorem checked_bare {cells : Array Value} (cs : List Int) {n : Nat} {r : Int} (w : World) (hc : cells = (bareC cs).toArray) (hn : (bareW cs).length = n) (hm : n ≤ 100) (hf : (cs.all fun c => decide (0 ≤ c) && decide (c ≤ 255)) = true) (hr : checkF (bareW cs) = r) :
    Calls Tryd.prog 19 #[.slice (some ⟨w.heap.size, 0, none⟩) n n] (w.alloc (.cells cells 40)) fun e w' => e = .returned (.int .i64 r) ∧ Below w.heap.size w w' := by
  have h := checked_calls _ _ _ _ (lit_bare (w := w) (t := 40) cs hc hn hm hf)
  rw [hn] at h
  refine h.mono ?_
  rintro e w' ⟨rfl, b⟩
  exact ⟨by rw [hr], (bl6 _).trans (b.mono (bl6 _).size)⟩
theorem checked_one {cells : Array Value} (c : Int) (xs : List Int) {n : Nat} {r : Int} (w : World) (hc : cells = (xs.map (Value.int .i64)).toArray) (hn : xs.length = n) (hm : n ≤ 100) (hf : Fits .u8 c) (hx : ∀ x ∈ xs, Fits .i64 x) (hr : checkF [⟨c, xs⟩] = r) :
    Calls Tryd.prog 19 #[.slice (some ⟨w.heap.size + 1, 0, none⟩) 1 1] ((w.alloc (.cells cells 3)).alloc (.cells #[.int .u8 c, .slice (some ⟨w.heap.size, 0, none⟩) n n] 40)) fun e w' => e = .returned (.int .i64 r) ∧ Below w.heap.size w w' := by
  subst hc
  have h1 : SlAt (pI .i64) (Old (w.alloc (.cells (xs.map (Value.int .i64)).toArray 3))) (w.alloc (.cells (xs.map (Value.int .i64)).toArray 3)) (some ⟨w.heap.size, 0, none⟩) n xs :=
    lit6 (E := pI .i64) (cells := (xs.map (Value.int .i64)).toArray) (cellsAre_ints hx) (by unfold maxLen; omega) hn
  obtain ⟨v, hv⟩ : ∃ v, v = w.alloc (.cells (xs.map (Value.int .i64)).toArray 3) := ⟨_, rfl⟩
  have hz : v.heap.size = w.heap.size + 1 := by rw [hv]; simp
  have hb : Below w.heap.size w v := by rw [hv]; exact bl6 _
  rw [← hv] at h1 ⊢
  rw [← hz]
  have h := checked_calls _ _ _ _ (lit6 (E := pMod) (w := v) (t := 40) (cells := #[.int .u8 c, .slice (some ⟨w.heap.size, 0, none⟩) n n]) (xs := [⟨c, xs⟩]) ⟨_, [], rfl, mod_R hf h1 hn, rfl⟩ (by unfold maxLen; simp) (n := 1) rfl)
  refine h.mono ?_
  rintro e w' ⟨rfl, b⟩
  exact ⟨by rw [hr], hb.trans (((bl6 _).trans (b.mono (bl6 _).size)).mono hb.size)⟩

set_option maxRecDepth 100000 in
set_option maxHeartbeats 16000000 in
theorem wordNames_walk (w : World) (hL : LibAt w) : Calls Tryd.prog 5 #[] w (OkPost w) := by
  have T0 := Lib.hid (Below.refl w.heap.size w)
  have hmk1 := make_many
  have hmk2 := make_half
  have HL := Lib.hid hL; clear hL
  go_enter Tryd.func5, Tryd.ntmps5
  go_upto_region 1 with fail
  go_cut [1] (fun s1 wx => s1 = .bool true ∧ Hid (Below w.heap.size w wx))
  case first =>
    go_wp2_with fail
    refine (refused_calls ⟨#[70, 32, 40, 49, 41]⟩ w (by decide) (HL.out.later T0.out) (by decide +kernel)).mono ?_
    rintro e w1 ⟨rfl, b1⟩
    have T1 := Lib.hid (T0.out.trans (b1.mono T0.out.size)); clear b1
    go_wp2_with fail
    refine (refused_calls ⟨#[35]⟩ w1 (by decide) (HL.out.later T1.out) (by decide +kernel)).mono ?_
    rintro e w2 ⟨rfl, b2⟩
    have T2 := Lib.hid (T1.out.trans (b2.mono T1.out.size)); clear b2
    go_wp2_with fail
    refine (refused_calls ⟨#[93, 70, 91]⟩ w2 (by decide) (HL.out.later T2.out) (by decide +kernel)).mono ?_
    rintro e w3 ⟨rfl, b3⟩
    have T3 := Lib.hid (T2.out.trans (b3.mono T2.out.size)); clear b3
    go_wp2_with fail
    refine (refused_calls ⟨#[70, 40, 49]⟩ w3 (by decide) (HL.out.later T3.out) (by decide +kernel)).mono ?_
    rintro e w4 ⟨rfl, b4⟩
    have T4 := Lib.hid (T3.out.trans (b4.mono T3.out.size)); clear b4
    go_wp2_with fail
    refine (refused_calls ⟨#[70, 40, 49, 44, 41]⟩ w4 (by decide) (HL.out.later T4.out) (by decide +kernel)).mono ?_
    rintro e w5 ⟨rfl, b5⟩
    have T5 := Lib.hid (T4.out.trans (b5.mono T4.out.size)); clear b5
    go_wp2_with fail
    refine (refused_calls ⟨#[70, 40, 45, 48, 41]⟩ w5 (by decide) (HL.out.later T5.out) (by decide +kernel)).mono ?_
    rintro e w6 ⟨rfl, b6⟩
    have T6 := Lib.hid (T5.out.trans (b6.mono T5.out.size)); clear b6
    go_wp2_with fail
    refine (refused_calls ⟨#[70, 40, 43, 49, 41]⟩ w6 (by decide) (HL.out.later T6.out) (by decide +kernel)).mono ?_
    rintro e w7 ⟨rfl, b7⟩
    have T7 := Lib.hid (T6.out.trans (b7.mono T6.out.size)); clear b7
    go_wp2_with fail
    refine (refused_calls ⟨#[70, 40, 49, 44, 50, 44, 51, 44, 52, 44, 53, 41]⟩ w7 (by decide) (HL.out.later T7.out) (by decide +kernel)).mono ?_
    rintro e w8 ⟨rfl, b8⟩
    have T8 := Lib.hid (T7.out.trans (b8.mono T7.out.size)); clear b8
    go_wp2_with fail
    refine (refused_calls ⟨#[91, 40, 49, 41, 93]⟩ w8 (by decide) (HL.out.later T8.out) (by decide +kernel)).mono ?_
    rintro e w9 ⟨rfl, b9⟩
    have T9 := Lib.hid (T8.out.trans (b9.mono T8.out.size)); clear b9
    go_wp2_with fail
    refine (refused_calls ⟨#[70, 40, 49, 48, 48, 48, 48, 48, 48, 48, 48, 49, 41]⟩ w9 (by decide) (HL.out.later T9.out) (by decide +kernel)).mono ?_
    rintro e w10 ⟨rfl, b10⟩
    have T10 := Lib.hid (T9.out.trans (b10.mono T9.out.size)); clear b10
    go_wp2_with fail
    refine (refused_calls ⟨#[70, 40, 49, 32, 41]⟩ w10 (by decide) (HL.out.later T10.out) (by decide +kernel)).mono ?_
    rintro e w11 ⟨rfl, b11⟩
    have T11 := Lib.hid (T10.out.trans (b11.mono T10.out.size)); clear b11
    go_wp2_with fail
    refine (refused_calls ⟨#[40, 49, 41]⟩ w11 (by decide) (HL.out.later T11.out) (by decide +kernel)).mono ?_
    rintro e w12 ⟨rfl, b12⟩
    have T12 := Lib.hid (T11.out.trans (b12.mono T11.out.size)); clear b12
    go_wp2_with fail
    refine (refused_calls ⟨#[70, 40, 49, 41, 40, 50, 41]⟩ w12 (by decide) (HL.out.later T12.out) (by decide +kernel)).mono ?_
    rintro e w13 ⟨rfl, b13⟩
    have T13 := Lib.hid (T12.out.trans (b13.mono T12.out.size)); clear b13
    go_wp2_with fail
    refine (refused_calls ⟨#[49]⟩ w13 (by decide) (HL.out.later T13.out) (by decide +kernel)).mono ?_
    rintro e w14 ⟨rfl, b14⟩
    have T14 := Lib.hid (T13.out.trans (b14.mono T13.out.size)); clear b14
    go_wp2_with fail
    go_meet
    exact ⟨rfl, T14.out⟩
  case rest =>
  obtain ⟨rfl, hb⟩ := hcut
  obtain ⟨w20, rfl⟩ : ∃ W : World, W = wc := ⟨_, rfl⟩
  clear T0
  have T20 := Lib.hid hb.out; clear hb
  go_upto_region 2 with fail
  go_cut [2] (fun s1 wx => s1 = .bool true ∧ Hid (Below w.heap.size w wx))
  case first =>
    go_wp2_with fail
    refine (checked_calls none 0 [] w20 sl_none).mono ?_
    rintro e w21 ⟨rfl, b21⟩
    have T21 := Lib.hid (T20.out.trans (b21.mono T20.out.size)); clear b21
    rw [show checkF [] = 0 from rfl]
    go_wp2_with fail
    refine (checked_bare [0] (r := 8) w21 rfl rfl (by decide) (by decide) (by decide +kernel)).mono ?_
    rintro e w22 ⟨rfl, b22⟩
    have T22 := Lib.hid (T21.out.trans (b22.mono T21.out.size)); clear b22
    go_wp2_with fail
    refine (checked_bare [93, 91] (r := 28) w22 rfl rfl (by decide) (by decide) (by decide +kernel)).mono ?_
    rintro e w23 ⟨rfl, b23⟩
    have T23 := Lib.hid (T22.out.trans (b23.mono T22.out.size)); clear b23
    go_wp2_with fail
    refine (checked_bare [91] (r := 28) w23 rfl rfl (by decide) (by decide) (by decide +kernel)).mono ?_
    rintro e w24 ⟨rfl, b24⟩
    have T24 := Lib.hid (T23.out.trans (b24.mono T23.out.size)); clear b24
    go_wp2_with fail
    refine (checked_one 91 [1] (r := 8) w24 rfl rfl (by decide) (fits_u8 (by decide)) (fun x hx => fits_i64 (by simp at hx; omega)) (by decide +kernel)).mono ?_
    rintro e w25 ⟨rfl, b25⟩
    have T25 := Lib.hid (T24.out.trans (b25.mono T24.out.size)); clear b25
    go_wp2_with fail
    refine (checked_one 97 [-1000000001] (r := 8) w25 rfl rfl (by decide) (fits_u8 (by decide)) (fun x hx => fits_i64 (by simp at hx; omega)) (by decide +kernel)).mono ?_
    rintro e w26 ⟨rfl, b26⟩
    have T26 := Lib.hid (T25.out.trans (b26.mono T25.out.size)); clear b26
    go_wp2_with fail
    refine (checked_one 33 [0, 0, 0, 0] (r := 0) w26 rfl rfl (by decide) (fits_u8 (by decide)) (fun x hx => fits_i64 (by simp at hx; omega)) (by decide +kernel)).mono ?_
    rintro e w27 ⟨rfl, b27⟩
    have T27 := Lib.hid (T26.out.trans (b27.mono T26.out.size)); clear b27
    go_wp2_with fail
    refine (checked_bare [60] (r := 8) w27 rfl rfl (by decide) (by decide) (by decide +kernel)).mono ?_
    rintro e w28 ⟨rfl, b28⟩
    have T28 := Lib.hid (T27.out.trans (b28.mono T27.out.size)); clear b28
    go_wp2_with fail
    go_meet
    exact ⟨rfl, T28.out⟩
  case rest =>
  obtain ⟨rfl, hb⟩ := hcut
  obtain ⟨w30, rfl⟩ : ∃ W : World, W = wc := ⟨_, rfl⟩
  clear T20
  have T30 := Lib.hid hb.out; clear hb
  go_wp2_with fail
  refine (given_calls w30).mono ?_
  rintro e w31 ⟨A31, c31, rfl, S31, b31⟩
  have T31 := Lib.hid (T30.out.trans (b31.mono T30.out.size)); clear b31
  go_wp2_with fail
  refine (close_calls A31 c31 givenW 0 w31 S31.out (fits_i64 (by decide))).mono ?_
  rintro e w32 ⟨r, hr, rfl, b32⟩
  rw [cls0 hr]
  have T32 := Lib.hid (T31.out.trans (b32.mono T31.out.size)); clear b32 hr S31
  go_wp2_with fail
  refine (given_calls w32).mono ?_
  rintro e w33 ⟨A33, c33, rfl, S33, b33⟩
  have T33 := Lib.hid (T32.out.trans (b33.mono T32.out.size)); clear b33
  go_wp2_with fail
  refine (close_calls A33 c33 givenW (-1) w33 S33.out (fits_i64 (by decide))).mono ?_
  rintro e w34 ⟨r, hr, rfl, b34⟩
  rw [clsm hr]
  have T34 := Lib.hid (T33.out.trans (b34.mono T33.out.size)); clear b34 hr S33
  go_wp2_with fail
  refine (given_calls w34).mono ?_
  rintro e w35 ⟨A35, c35, rfl, S35, b35⟩
  have T35 := Lib.hid (T34.out.trans (b35.mono T34.out.size)); clear b35
  go_wp2_with fail
  refine (close_calls A35 c35 givenW 6 w35 S35.out (fits_i64 (by decide))).mono ?_
  rintro e w36 ⟨r, hr, rfl, b36⟩
  rw [cls6 hr]
  have T36 := Lib.hid (T35.out.trans (b36.mono T35.out.size)); clear b36 hr S35
  go_wp2_with fail
  refine (given_calls w36).mono ?_
  rintro e w37 ⟨A37, c37, rfl, S37, b37⟩
  have T37 := Lib.hid (T36.out.trans (b37.mono T36.out.size)); clear b37
  go_wp2_with fail
  refine (close_calls A37 c37 givenW 4 w37 S37.out (fits_i64 (by decide))).mono ?_
  rintro e w38 ⟨r, hr, rfl, b38⟩
  rw [cls4 hr]
  have T38 := Lib.hid (T37.out.trans (b38.mono T37.out.size)); clear b38 hr S37
  have z38 := T38.out.size
  have M0 := Lib.hid ((Blk.new w38 40 manyC).alloc (.cells (halfC 0) 40))
  have h0 := Blk.new (w38.alloc (.cells manyC 40)) 40 (halfC 0)
  rw [show (w38.alloc (.cells manyC 40)).heap.size = w38.heap.size + 1 from by simp] at h0
  have H0 := Lib.hid h0; clear h0
  have T39 := Lib.hid ((T38.out.alloc z38 (.cells manyC 40)).alloc (by simp; omega) (.cells (halfC 0) 40))
  go_wp2
  clear hmk1 hmk2
  go_loopw [13] (fun i wr => ∃ k : Nat, k ≤ 1001 ∧ i = .int .i64 k ∧ Hid (Below w.heap.size w wr) ∧ Hid (Blk wr (w38.heap.size + 1) 40 (halfC k)) ∧ Hid (Blk wr w38.heap.size 40 manyC)) (fun i _ => 1001 - (intOf i).toNat)
  case atStart => exact ⟨0, Nat.zero_le _, rfl, T39.out, H0.out, M0.out⟩
  case round =>
    obtain ⟨k, hk, rfl, hb, hbh, hbm⟩ := hrel
    obtain ⟨wo, rfl⟩ : ∃ wo : World, wo = wr := ⟨_, rfl⟩
    by_cases hlt : k < 1001
    · have q1 : wo.cell? ⟨w38.heap.size + 1, k * 2, none⟩ = some (.int .u8 0) := by rw [hbh.out.cell, halfC_get (by omega)]; unfold halfCell; rw [if_pos (by omega), if_neg (by omega)]
      have q2 := hbh.out.free (k * 2)
      have hs2 := hbh.out.set (k * 2) (.int .u8 70)
      rw [halfC_set] at hs2
      have hm2 := hbm.out.same (w' := wo.setCell ⟨w38.heap.size + 1, k * 2, none⟩ (.int .u8 70)) (setCell_other6 _ _ _ _ (by show w38.heap.size ≠ w38.heap.size + 1; omega))
      have hb2 := hb.out.setCell (p := ⟨w38.heap.size + 1, k * 2, none⟩) (by show w.heap.size ≤ w38.heap.size + 1; omega) (.int .u8 70)
      have hk0 : (0 : Int) ≤ (k : Int) := Int.natCast_nonneg _
      have hk1 : (k : Int) < 1001 := by omega
      have Hs2 := Lib.hid hs2; clear hs2
      have Hm2 := Lib.hid hm2; clear hm2
      have Hb2 := Lib.hid hb2; clear hb2
      go_wp2
      go_roundw
      case rel => exact ⟨k + 1, by omega, by go_num, Hb2.out, Hs2.out, Hm2.out⟩
      case measure => simp [intOf]; omega
    · obtain rfl : k = 1001 := by omega
      have SH := Lib.hid (half_sl hbh.out)
      have p40 := join_calls _ _ _ _ halfW halfW wo SH.out SH.out (by rw [halfW_len]; omega) (by rw [halfW_len]; omega) half_args half_args
      unfold JoinPost at p40
      rw [jn_many, halfW_len] at p40
      have P40 := Lib.hid p40; clear p40
      clear H0 M0 T39 T38 hbh
      go_wp2_with fail
      refine P40.out.mono ?_
      rintro e w41 ⟨A41, c41, rfl, _, b41⟩
      have T41 := Lib.hid (hb.out.trans (b41.mono hb.out.size))
      have SH1 := Lib.hid (SH.out.later b41)
      have M1 := Lib.hid (hbm.out.same (b41.block _ hbm.out.lt)); clear b41 SH
      have p41 := join_calls _ _ _ _ halfW (halfW.take 999) w41 SH1.out (sl_first SH1.out 999) (by rw [halfW_len]; omega) (by rw [List.length_take, halfW_len]; omega) half_args (fun m hm => half_args m (List.mem_of_mem_take hm))
      unfold JoinPost at p41
      rw [jn_full, halfW_len, show (halfW.take 999).length = 999 from by rw [List.length_take, halfW_len]; rfl] at p41
      simp only [full_len] at p41
      have P41 := Lib.hid p41; clear p41
      go_wp2_with fail
      refine P41.out.mono ?_
      rintro e w42 ⟨A42, c42, rfl, _, b42⟩
      have T42 := Lib.hid (T41.out.trans (b42.mono T41.out.size))
      have M2 := Lib.hid (M1.out.same (b42.block _ M1.out.lt)); clear b42 SH1 M1
      have p42 := strip_calls _ _ (bareW [91]) _ (lit_bare (w := w42) (t := 40) (cells := #[.int .u8 91, .slice none 0 0]) [91] (n := 1) rfl rfl (by decide) (by decide)) (by decide)
      unfold StripPost at p42
      rw [show stripF (bareW [91]) = ([], 28) from by decide +kernel] at p42
      have T42' := Lib.hid (T42.out.alloc T42.out.size (.cells #[.int .u8 91, .slice none 0 0] 40))
      have M2' := Lib.hid (M2.out.alloc (.cells #[.int .u8 91, .slice none 0 0] 40))
      have P42 := Lib.hid p42; clear p42
      go_wp2_with fail
      refine P42.out.mono ?_
      rintro e w43 ⟨A43, c43, rfl, _, b43⟩
      have T43 := Lib.hid (T42'.out.trans (b43.mono T42'.out.size))
      have M3 := Lib.hid (M2'.out.same (b43.block _ M2'.out.lt)); clear b43 M2 M2' T42 T42'
      have p43 := parse_calls ⟨#[38, 40, 48, 41, 94, 124, 33, 45, 91, 122, 40, 45, 49, 48, 48, 48, 48, 48, 48, 48, 48, 48, 41, 93, 91, 93]⟩ w43 (by decide) (HL.out.later T43.out)
      unfold ParsePost at p43
      rw [show (ByteArray.mk #[38, 40, 48, 41, 94, 124, 33, 45, 91, 122, 40, 45, 49, 48, 48, 48, 48, 48, 48, 48, 48, 48, 41, 93, 91, 93]).data.toList = [38, 40, 48, 41, 94, 124, 33, 45, 91, 122, 40, 45, 49, 48, 48, 48, 48, 48, 48, 48, 48, 48, 41, 93, 91, 93] from rfl, px_ten] at p43
      have P43 := Lib.hid p43; clear p43
      go_wp2_with fail
      refine P43.out.mono ?_
      rintro e w44 ⟨A44, c44, rfl, o44, b44⟩
      have S44 := Lib.hid (own_sl o44)
      have T44 := Lib.hid (T43.out.trans (b44.mono T43.out.size))
      have M4 := Lib.hid (M3.out.same (b44.block _ M3.out.lt)); clear b44 o44 M3
      have p44 := wordCheck_calls _ _ manyW w44 (many_sl M4.out)
      unfold CheckPost at p44
      rw [many_len, many_check] at p44
      have P44 := Lib.hid p44; clear p44
      go_wp2_with fail
      refine P44.out.mono ?_
      rintro e w45 ⟨rfl, b45⟩
      have T45 := Lib.hid (T44.out.trans (b45.mono T44.out.size))
      have S45 := Lib.hid (S44.out.later b45); clear b45 S44 M4
      have p45 := count_calls A44 c44 tenW 91 w45 S45.out
      rw [show ((countF 91 tenW : Nat) : Int) = 2 from by rw [ten_count]; rfl] at p45
      have P45 := Lib.hid p45; clear p45
      go_wp2_with fail
      refine P45.out.mono ?_
      rintro e w46 ⟨rfl, b46⟩
      have T46 := Lib.hid (T45.out.trans (b46.mono T45.out.size)); clear b46 S45
      go_wp2_with fail
      refine (alive_calls w46 (HL.out.later T46.out)).mono ?_
      rintro e w47 ⟨rfl, b47⟩
      have T47 := Lib.hid (T46.out.trans (b47.mono T46.out.size)); clear b47
      go_wp2
      go_ret
      exact ⟨rfl, T47.out⟩
end Go.Proofs.YtnhdjcdipnginaaDoor
