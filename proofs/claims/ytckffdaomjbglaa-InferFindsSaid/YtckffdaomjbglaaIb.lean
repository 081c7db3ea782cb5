/-
  Layer 42: the walks of plain, letter, names, modules and of the reference's Plain, plain, Count.
-/
import Derived.Test.YtckffdaomjbglaaIp
import Derived.Test.YtckffdaomjbglaaFd
import Derived.Test.YtckffdaomjbglaaWd
import Derived.Test.YtckffdaomjbglaaOwn
import Derived.Deep.Cut
namespace Go.Proofs.Ytckffdaomjbglaa
open Go.RowKit Go.Sort

def plainC (c : Int) : Bool := letterB c && (c != 91) && (c != 93)
theorem plain_check (c : Int) : (checkF [⟨c, []⟩] == 0) = plainC c := by
  rw [Bool.eq_iff_iff, beq_iff_eq, check_one]
  unfold plainC
  simp [and_assoc]
set_option maxRecDepth 100000 in
theorem letter_calls' (c : Int) (w : World) (hc : Fits .u8 c) : Calls Try.prog 19 #[.int .u8 c] w (BoolPost (plainC c) w) := by
  have hp := plain_check c
  have Hp := Lib.hid hp; clear hp
  go_enter Try.func19, Try.ntmps19
  go_wp2_with fail
  ((with_reducible refine (oneCheck _ _ hc _ rfl).mono ?_))
  rintro e w1 ⟨rfl, hb1⟩
  have hbw : Below w.heap.size w w1 := ((Below.refl _ _).alloc (Nat.le_refl _) _).trans (hb1.mono (by simp))
  have Hbw := Lib.hid hbw; clear hbw
  clear hb1
  go_wp2
  go_ret
  exact ⟨ret_bool Hp.out, Hbw.out⟩
set_option maxRecDepth 100000 in
theorem refPlainB_calls (c : Int) (w : World) : Calls Try.prog 22 #[.int .u8 c] w fun e w' => e = .returned (.bool (plainC c)) ∧ w = w' := by
  have hp : plainC c = (letterB c && (c != 91) && (c != 93)) := rfl
  have hl := letter_calls c w
  cases h1 : letterB c
  · rw [h1] at hl hp
    have hp' : plainC c = false := by rw [hp]; rfl
    have Hp' := Lib.hid hp'; clear hp'
    have Hl := Lib.hid hl; clear hl
    clear hp
    go_enter Try.func22, Try.ntmps22
    go_wp2_with (go_at_call 32; refine Hl.out.mono ?_; rintro e w' ⟨rfl, rfl⟩)
    go_ret
    exact ⟨ret_bool Hp'.out.symm, rfl⟩
  · cases h2 : (c != 91)
    · rw [h1] at hl hp
      rw [h2] at hp
      have hp' : plainC c = false := by rw [hp]; rfl
      have Hp' := Lib.hid hp'; clear hp'
      have Hl := Lib.hid hl; clear hl
      clear hp
      go_enter Try.func22, Try.ntmps22
      go_wp2_with (go_at_call 32; refine Hl.out.mono ?_; rintro e w' ⟨rfl, rfl⟩)
      go_ret
      exact ⟨ret_bool Hp'.out.symm, rfl⟩
    · rw [h1] at hl hp
      rw [h2] at hp
      have hp' : plainC c = (c != 93) := by rw [hp]; rfl
      have Hp' := Lib.hid hp'; clear hp'
      have Hl := Lib.hid hl; clear hl
      clear hp
      go_enter Try.func22, Try.ntmps22
      go_wp2_with (go_at_call 32; refine Hl.out.mono ?_; rintro e w' ⟨rfl, rfl⟩)
      go_ret
      exact ⟨ret_bool Hp'.out.symm, rfl⟩

/-- a word without arguments? -/
def bareM (ms : List Mod) : Bool := ms.all fun m => decide (¬ 0 < m.args.length)
def plainF (ms : List Mod) : Int := if checkF ms = 0 then (if bareM ms = true then 0 else 8) else checkF ms
set_option maxRecDepth 100000 in
set_option maxHeartbeats 1000000 in
theorem plainW_calls (A : Option Addr) (c : Nat) (ms : List Mod) (w : World) (h : SlAt pMod (Old w) w A c ms) : Calls Try.prog 14 #[.slice A ms.length c] w (IntPost (plainF ms) w) := by
  have hmx := h.lenle
  have hck := wordCheck_calls A c ms w h
  have H := Lib.hid h; clear h
  have Hck := Lib.hid hck; clear hck
  go_enter Try.func14, Try.ntmps14
  go_wp2_with fail
  refine Hck.out.mono ?_
  rintro e w1 ⟨rfl, hb1⟩
  have hz1 := hb1.size
  by_cases hf : checkF ms = 0
  case neg =>
    have e0 : (checkF ms != 0) = true := by simp [hf]
    have hff : plainF ms = checkF ms := by unfold plainF; rw [if_neg hf]
    have Hb1 := Lib.hid hb1; clear hb1
    have Hff := Lib.hid hff; clear hff
    have Hf := Lib.hid hf; clear hf
    go_wp2
    go_ret
    exact ⟨ret_int Hff.out.symm, Hb1.out⟩
  case pos =>
  have e0 : (checkF ms != 0) = false := by simp [hf]
  have hff : plainF ms = if bareM ms = true then 0 else 8 := by unfold plainF; rw [if_pos hf]
  have Hb1 := Lib.hid hb1; clear hb1
  have Hff := Lib.hid hff; clear hff
  have Hf := Lib.hid hf; clear hf
  go_wp2
  go_loopw [13] (fun i wr => ∃ k : Nat, k ≤ ms.length ∧ i = .int .i64 k ∧ Hid (Below w.heap.size w wr) ∧ w.heap.size ≤ wr.heap.size ∧ Hid (bareM ms = (ms.drop k).all fun m => decide (¬ 0 < m.args.length))) (fun i _ => ms.length - (intOf i).toNat)
  case atStart => exact ⟨0, Nat.zero_le _, rfl, Hb1, hz1, rfl⟩
  case round =>
    obtain ⟨k, hk, rfl, hb, hsz, hall⟩ := hrel
    obtain ⟨wo, rfl⟩ : ∃ wo : World, wo = wr := ⟨_, rfl⟩
    by_cases hlt : k < ms.length
    case neg =>
      have hy : plainF ms = 0 := by rw [Hff.out, hall.out, drop_end hlt]; rfl
      have Hy := Lib.hid hy; clear hy
      go_wp2
      go_ret
      exact ⟨ret_int Hy.out.symm, hb.out⟩
    case pos =>
      obtain ⟨b, o, D, d, m, hd, rfl, hob, q0, q1, hx8, hxa, hxl⟩ := (H.out.below hb.out).getMod hlt
      have hob' : b < wo.heap.size := by have : b < w.heap.size := hob; omega
      have hb2 : Below w.heap.size w (wo.alloc (.cells #[.int .u8 m.name, .slice D m.args.length d] 44)) := hb.out.alloc hsz _
      have Hb2 := Lib.hid hb2; clear hb2
      by_cases h0 : 0 < m.args.length
      · have hy : plainF ms = 8 := by rw [Hff.out, hall.out, hd.out, List.all_cons, decide_eq_false (by omega)]; rfl
        have Hy := Lib.hid hy; clear hy
        go_wp2
        go_ret
        exact ⟨ret_int Hy.out.symm, Hb2.out⟩
      · go_wp2
        go_roundw
        case rel => exact ⟨k + 1, hlt, by go_num, Hb2, by simp; omega, by unfold Hid; rw [hall.out, hd.out, List.all_cons, decide_eq_true (by omega)]; rfl⟩
        case measure => simp [intOf]; omega
set_option maxRecDepth 100000 in
set_option maxHeartbeats 1000000 in
theorem refPlainW_calls (A : Option Addr) (c : Nat) (ms : List Mod) (w : World) (h : SlAt pMod (Old w) w A c ms) : Calls Try.prog 17 #[.slice A ms.length c] w (IntPost (plainF ms) w) := by
  have hmx := h.lenle
  have hck := refCheck_calls A c ms w h
  have H := Lib.hid h; clear h
  have Hck := Lib.hid hck; clear hck
  go_enter Try.func17, Try.ntmps17
  go_wp2_with fail
  refine Hck.out.mono ?_
  rintro e w1 ⟨rfl, hb1⟩
  have hz1 := hb1.size
  by_cases hf : checkF ms = 0
  case neg =>
    have e0 : (checkF ms != 0) = true := by simp [hf]
    have hff : plainF ms = checkF ms := by unfold plainF; rw [if_neg hf]
    have hck1 := refCheck_calls A c ms w1 (H.out.later hb1)
    have Hb1 := Lib.hid hb1; clear hb1
    have Hff := Lib.hid hff; clear hff
    have Hf := Lib.hid hf; clear hf
    have Hck1 := Lib.hid hck1; clear hck1
    go_wp2_with fail
    refine Hck1.out.mono ?_
    rintro e w2 ⟨rfl, hb2⟩
    have hbw2 := Hb1.out.trans (hb2.mono hz1)
    have Hbw2 := Lib.hid hbw2; clear hbw2
    clear hb2
    go_wp2
    go_ret
    exact ⟨ret_int Hff.out.symm, Hbw2.out⟩
  case pos =>
  have e0 : (checkF ms != 0) = false := by simp [hf]
  have hff : plainF ms = if bareM ms = true then 0 else 8 := by unfold plainF; rw [if_pos hf]
  have hw1 := H.out.below hb1
  have Hb1 := Lib.hid hb1; clear hb1
  have Hff := Lib.hid hff; clear hff
  have Hf := Lib.hid hf; clear hf
  have Hw1 := Lib.hid hw1; clear hw1
  go_wp2
  go_loop [3] (fun i => ∃ k : Nat, k ≤ ms.length ∧ i = .int .i64 k ∧ Hid (bareM ms = (ms.drop k).all fun m => decide (¬ 0 < m.args.length))) (fun i => ms.length - (intOf i).toNat)
  case atStart => exact ⟨0, Nat.zero_le _, rfl, rfl⟩
  case round =>
    obtain ⟨k, hk, rfl, hall⟩ := hrel
    by_cases hlt : k < ms.length
    case neg =>
      have hy : plainF ms = 0 := by rw [Hff.out, hall.out, drop_end hlt]; rfl
      have Hy := Lib.hid hy; clear hy
      go_wp2
      go_ret
      exact ⟨ret_int Hy.out.symm, Hb1.out⟩
    case pos =>
      obtain ⟨b, o, D, d, m, hd, rfl, hob, q0, q1, hx8, hxa, hxl⟩ := Hw1.out.getMod hlt
      have hk0 : (0 : Int) ≤ (k : Int) := Int.natCast_nonneg _
      have hk1 : (k : Int) < (ms.length : Int) := by omega
      by_cases h0 : 0 < m.args.length
      · have hy : plainF ms = 8 := by rw [Hff.out, hall.out, hd.out, List.all_cons, decide_eq_false (by omega)]; rfl
        have Hy := Lib.hid hy; clear hy
        go_wp2
        go_ret
        exact ⟨ret_int Hy.out.symm, Hb1.out⟩
      · go_wp2
        go_round
        case rel => exact ⟨k + 1, hlt, by go_num, by unfold Hid; rw [hall.out, hd.out, List.all_cons, decide_eq_true (by omega)]; rfl⟩
        case measure => simp [intOf]; omega

/-! ### names, modules -/
def NamesPost (l : List Int) (w : World) (e : Ending) (w' : World) : Prop :=
  ∃ A c, e = .returned (.slice A l.length c) ∧ Own (pI .u8) 5 w.heap.size (w.heap.size ≤ ·) w' (.slice A l.length c) l ∧ Below w.heap.size w w'
set_option maxRecDepth 100000 in
set_option maxHeartbeats 1000000 in
theorem names_calls (A : Option Addr) (c : Nat) (ms : List Mod) (w : World) (h : SlAt pMod (Old w) w A c ms) (hl : ms.length ≤ 100000) : Calls Try.prog 16 #[.slice A ms.length c] w (NamesPost (ms.map Mod.name) w) := by
  have hmx := h.lenle
  have H := Lib.hid h; clear h
  go_enter Try.func16, Try.ntmps16
  go_wp2
  go_loopw [8, 3] (fun i out wr => ∃ (k : Nat) (Ao : Option Addr) (co : Nat), k ≤ ms.length ∧ i = .int .i64 k ∧ out = .slice Ao k co ∧ Hid (Below w.heap.size w wr) ∧ w.heap.size ≤ wr.heap.size ∧ Hid (Own (pI .u8) 5 w.heap.size (w.heap.size ≤ ·) wr (.slice Ao k co) ((ms.take k).map Mod.name))) (fun i _ _ => ms.length - (intOf i).toNat)
  case atStart => exact ⟨0, none, 0, Nat.zero_le _, rfl, rfl, Below.refl _ _, Nat.le_refl _, Own.nil⟩
  case round =>
    obtain ⟨k, Ao, co, hk, rfl, rfl, hb, hsz, hown⟩ := hrel
    obtain ⟨wo, rfl⟩ : ∃ wo : World, wo = wr := ⟨_, rfl⟩
    by_cases hlt : k < ms.length
    case neg =>
      obtain rfl : k = ms.length := by omega
      have hown' := hown.out
      rw [List.take_length] at hown'
      have hml : (ms.map Mod.name).length = ms.length := List.length_map ..
      have Hown' := Lib.hid hown'; clear hown'
      have Hml := Lib.hid hml; clear hml
      go_wp2
      go_ret
      exact ⟨Ao, co, by rw [Hml.out]; rfl, by rw [Hml.out]; exact Hown'.out, hb.out⟩
    case pos =>
      obtain ⟨b, o, D, d, m, hd, hB, hob, q0, q1, hx8, hxa, hxl⟩ := (H.out.below hb.out).getMod hlt
      subst hB
      have hob' : b < wo.heap.size := by have : b < w.heap.size := hob; omega
      obtain ⟨W1, hW1⟩ : ∃ W1, W1 = wo.alloc (.cells #[.int .u8 m.name, .slice D m.args.length d] 44) := ⟨_, rfl⟩
      have hb1 : Below wo.heap.size wo W1 := by rw [hW1]; exact (Below.refl _ _).alloc (Nat.le_refl _) _
      have hz1 : wo.heap.size + 1 ≤ W1.heap.size := by rw [hW1]; simp
      have hbm : Blk W1 wo.heap.size 44 #[.int .u8 m.name, .slice D m.args.length d] := by rw [hW1]; exact Blk.new _ _ _
      have hown1 := hown.out.later hb1
      have hln : ((ms.take k).map Mod.name).length + 1 = k + 1 := by rw [List.length_map, List.length_take]; omega
      have hrm : Room ((ms.take k).map Mod.name).length := room_of (by rw [List.length_map, List.length_take]; omega)
      have hba : w.heap.size ≤ W1.heap.size := by omega
      have hR : (pI .u8).R (fun _ => False) W1 (Value.int .u8 m.name).cells.toList m.name := ⟨rfl, hx8⟩
      have m0 := hbm.cell 0
      have hbw1 := hb.out.trans (hb1.mono hsz)
      have Hb1 := Lib.hid hb1; clear hb1
      have Hbm := Lib.hid hbm; clear hbm
      have Hown1 := Lib.hid hown1; clear hown1
      have Hln := Lib.hid hln; clear hln
      have Hrm := Lib.hid hrm; clear hrm
      have HR := Lib.hid hR; clear hR
      have Hd := Lib.hid hd; clear hd
      have Hbw1 := Lib.hid hbw1; clear hbw1
      go_upto_region 5 with fail
      rw [← hW1]
      have HW1 := Lib.hid hW1; clear hW1
      clear q0 q1
      go_wp2_with ((with_reducible show wpList _ _ _ (Oper.mk (some 15) _ _ _ _ _ :: _) _ _); refine wpList_pushG (E := pI .u8) (xs := (ms.take k).map Mod.name) (v := .slice Ao k co) (base := w.heap.size) (G := (w.heap.size ≤ ·)) 49 5 (.int .u8 0) 1 15 (.tmp 12) (.tmp 14) rfl rfl rfl rfl rfl Try.underlying49 (by kernel_rfl) rfl (by decide) (fun _ => rfl) (fun _ => rfl) Hown1.out (.int .u8 m.name) rfl m.name (fun _ => False) HR.out (fun _ h => h.elim) (k + 1) Hln.out Hrm.out ⟨by decide, by decide⟩ hba ?_; intro A6 c6 w6 hown6 hg6)
      go_roundw
      case rel =>
        have hz6 := hg6.out.bel.size
        refine ⟨k + 1, A6, c6, hlt, by go_num, rfl, Hbw1.out.trans hg6.out.bel, by omega, ?_⟩
        unfold Hid; rw [take_of_drop Hd.out, List.map_append]; exact hown6.out
      case measure => simp [intOf]; omega
end Go.Proofs.Ytckffdaomjbglaa
