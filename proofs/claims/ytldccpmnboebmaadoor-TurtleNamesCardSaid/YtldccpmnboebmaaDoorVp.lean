/-
  Layer 17: the walks of the program's test of a mark and of the library's searches for a first one.
-/
import Derived.Test.YtldccpmnboebmaaDoorVo
import Derived.Test.YtldccpmnboebmaaDoorM2
namespace Go.Proofs.YtldccpmnboebmaaDoor
open Go.RowKit Go.Sort
set_option linter.unusedVariables false

def AnyPost (b : Bool) (w : World) : Ending → World → Prop := fun e w' => ∃ z : Int, e = .returned (.int .i64 z) ∧ (decide (0 ≤ z)) = b ∧ RowKit.Below w.heap.size w w'
theorem any_drop {α : Type} {p : α → Bool} {xs : List α} {k : Nat} {x : α} (hd : xs.drop k = x :: xs.drop (k + 1)) : (xs.drop k).any p = (p x || (xs.drop (k + 1)).any p) := by rw [hd, List.any_cons]
theorem any_end {α : Type} {p : α → Bool} {xs : List α} {k : Nat} (hk : ¬ k < xs.length) : (xs.drop k).any p = false := by rw [List.drop_eq_nil_of_le (by omega)]; rfl
set_option maxRecDepth 100000 in
theorem badMark_calls (m : Mk) (w : World) : Calls Tryd.prog 48 #[.agg #[.int .u8 m.name, .int .u8 m.turn, .int .i64 m.pl.1, .int .i64 m.pl.2.1, .int .i64 m.pl.2.2]] w (BoolPost (!mkOk m) w) := by
  have hc := fun W => fCheck_calls (m.turn, m.pl) W
  obtain ⟨W, hW⟩ : ∃ W, W = w.alloc (.cells #[.int .u8 m.name, .int .u8 m.turn, .int .i64 m.pl.1, .int .i64 m.pl.2.1, .int .i64 m.pl.2.2] 65) := ⟨_, rfl⟩
  have hb : Blk W w.heap.size 65 #[.int .u8 m.name, .int .u8 m.turn, .int .i64 m.pl.1, .int .i64 m.pl.2.1, .int .i64 m.pl.2.2] := by rw [hW]; exact Blk.new _ _ _
  have t0 : RowKit.Below w.heap.size w W := by rw [hW]; exact al1
  have x1 := hb.cell 1
  have x2 := hb.cell 2
  have x3 := hb.cell 3
  have x4 := hb.cell 4
  have hok : mkOk m = (checkFr (m.turn, m.pl) == 0) := rfl
  obtain ⟨c, hcc⟩ : ∃ c, checkFr (m.turn, m.pl) = c := ⟨_, rfl⟩
  rw [hcc] at hc hok
  have Hb := Lib.hid hb; clear hb
  have T0 := Lib.hid t0; clear t0
  have Hc := Lib.hid hc; clear hc
  have Hok := Lib.hid hok; clear hok
  have Hcc := Lib.hid hcc; clear hcc
  go_enter Tryd.func48, Tryd.ntmps48
  go_wp2_with fail
  (try rw [← hW])
  refine (Hc.out _).mono ?_
  rintro e w1 ⟨rfl, b1⟩
  have B1 := Lib.hid b1; clear b1
  go_wp2
  go_ret
  exact ⟨by rw [Hok.out]; rfl, T0.out.trans (B1.out.mono T0.out.size)⟩

set_option maxRecDepth 100000 in
theorem idxLn_calls (A : Option Addr) (c : Nat) (xs : List Ln) (w : World) (h : SlAt pLn (Old w) w A c xs) : Calls Tryd.prog 62 #[.slice A xs.length c, .func (.func 45) #[] #[]] w (AnyPost (xs.any fun l => !lnOk l) w) := by
  have hmx := h.lenle
  have H := Lib.hid h; clear h
  go_enter Tryd.func62, Tryd.ntmps62
  go_wp2
  go_loopw [8] (fun i wr => ∃ k : Nat, k ≤ xs.length ∧ i = .int .i64 k ∧ Hid (RowKit.Below w.heap.size w wr) ∧ Hid (xs.any (fun l => !lnOk l) = (xs.drop k).any (fun l => !lnOk l))) (fun i _ => xs.length - (intOf i).toNat)
  case atStart => exact ⟨0, Nat.zero_le _, rfl, Below.refl _ _, rfl⟩
  case round =>
    obtain ⟨k, hk, rfl, hbw, hs⟩ := hrel
    by_cases hlt : k < xs.length
    · obtain ⟨b, o, l, hd, rfl, hob, c0, c1, c2, c3, c4, c5, c6, z1, z2, z3⟩ := (H.out.later hbw.out).getLn hlt
      have hcall := fun W => badLine_calls l W z1 z2
      have hst := hs.out.trans (any_drop (p := fun l => !lnOk l) hd.out)
      cases hb : (!lnOk l)
      · rw [hb] at hcall hst
        have Hcall := Lib.hid hcall; clear hcall
        have Hst := Lib.hid hst; clear hst
        have Hb := Lib.hid hb; clear hb
        have Z1 := Lib.hid z1; clear z1
        have Z2 := Lib.hid z2; clear z2
        have Z3 := Lib.hid z3; clear z3
        go_wp2_with fail
        refine (Hcall.out _).mono ?_
        rintro e w1 ⟨rfl, b1⟩
        have t1 := hbw.out.trans (b1.mono hbw.out.size)
        have T1 := Lib.hid t1; clear t1
        clear b1
        go_wp2
        go_roundw
        case rel => exact ⟨k + 1, by omega, by go_num, T1, by rw [Hst.out]; exact Bool.false_or _⟩
        case measure => simp [intOf]; omega
      · rw [hb] at hcall hst
        have Hcall := Lib.hid hcall; clear hcall
        have Hst := Lib.hid hst; clear hst
        have Hb := Lib.hid hb; clear hb
        have Z1 := Lib.hid z1; clear z1
        have Z2 := Lib.hid z2; clear z2
        have Z3 := Lib.hid z3; clear z3
        go_wp2_with fail
        refine (Hcall.out _).mono ?_
        rintro e w1 ⟨rfl, b1⟩
        have t1 := hbw.out.trans (b1.mono hbw.out.size)
        have T1 := Lib.hid t1; clear t1
        clear b1
        go_wp2
        go_ret
        exact ⟨_, rfl, by rw [Hst.out, Bool.true_or]; simp, T1.out⟩
    · have hst := hs.out.trans (any_end hlt)
      have Hst := Lib.hid hst; clear hst
      go_wp2
      go_ret
      exact ⟨_, rfl, by rw [Hst.out]; rfl, hbw.out⟩
set_option maxRecDepth 100000 in
theorem hasLn_calls (A : Option Addr) (c : Nat) (xs : List Ln) (w : World) (h : SlAt pLn (Old w) w A c xs) : Calls Tryd.prog 44 #[.slice A xs.length c, .func (.func 45) #[] #[]] w (BoolPost (xs.any fun l => !lnOk l) w) := by
  have hc := idxLn_calls A c xs w h
  obtain ⟨b, hb⟩ : ∃ b, (xs.any fun l => !lnOk l) = b := ⟨_, rfl⟩
  rw [hb] at hc ⊢
  have Hc := Lib.hid hc; clear hc
  have Hb := Lib.hid hb; clear hb
  go_enter Tryd.func44, Tryd.ntmps44
  go_wp2_with fail
  refine Hc.out.mono ?_
  rintro e w1 ⟨z, rfl, hz, b1⟩
  have B1 := Lib.hid b1; clear b1
  have Hz := Lib.hid hz; clear hz
  go_wp2
  go_ret
  exact ⟨ret_boolV (Hz.out.symm.trans (decide_eq_decide.2 (by omega))), B1.out⟩
set_option maxRecDepth 100000 in
theorem idxMk_calls (A : Option Addr) (c : Nat) (xs : List Mk) (w : World) (h : SlAt pMk (Old w) w A c xs) : Calls Tryd.prog 63 #[.slice A xs.length c, .func (.func 48) #[] #[]] w (AnyPost (xs.any fun l => !mkOk l) w) := by
  have hmx := h.lenle
  have H := Lib.hid h; clear h
  go_enter Tryd.func63, Tryd.ntmps63
  go_wp2
  go_loopw [8] (fun i wr => ∃ k : Nat, k ≤ xs.length ∧ i = .int .i64 k ∧ Hid (RowKit.Below w.heap.size w wr) ∧ Hid (xs.any (fun l => !mkOk l) = (xs.drop k).any (fun l => !mkOk l))) (fun i _ => xs.length - (intOf i).toNat)
  case atStart => exact ⟨0, Nat.zero_le _, rfl, Below.refl _ _, rfl⟩
  case round =>
    obtain ⟨k, hk, rfl, hbw, hs⟩ := hrel
    by_cases hlt : k < xs.length
    · obtain ⟨b, o, l, hd, rfl, hob, c0, c1, c2, c3, c4, z1, z2, z3⟩ := (H.out.later hbw.out).getMk hlt
      have hcall := fun W => badMark_calls l W
      have hst := hs.out.trans (any_drop (p := fun l => !mkOk l) hd.out)
      cases hb : (!mkOk l)
      · rw [hb] at hcall hst
        have Hcall := Lib.hid hcall; clear hcall
        have Hst := Lib.hid hst; clear hst
        have Hb := Lib.hid hb; clear hb
        have Z1 := Lib.hid z1; clear z1
        have Z2 := Lib.hid z2; clear z2
        have Z3 := Lib.hid z3; clear z3
        go_wp2_with fail
        refine (Hcall.out _).mono ?_
        rintro e w1 ⟨rfl, b1⟩
        have t1 := hbw.out.trans (b1.mono hbw.out.size)
        have T1 := Lib.hid t1; clear t1
        clear b1
        go_wp2
        go_roundw
        case rel => exact ⟨k + 1, by omega, by go_num, T1, by rw [Hst.out]; exact Bool.false_or _⟩
        case measure => simp [intOf]; omega
      · rw [hb] at hcall hst
        have Hcall := Lib.hid hcall; clear hcall
        have Hst := Lib.hid hst; clear hst
        have Hb := Lib.hid hb; clear hb
        have Z1 := Lib.hid z1; clear z1
        have Z2 := Lib.hid z2; clear z2
        have Z3 := Lib.hid z3; clear z3
        go_wp2_with fail
        refine (Hcall.out _).mono ?_
        rintro e w1 ⟨rfl, b1⟩
        have t1 := hbw.out.trans (b1.mono hbw.out.size)
        have T1 := Lib.hid t1; clear t1
        clear b1
        go_wp2
        go_ret
        exact ⟨_, rfl, by rw [Hst.out, Bool.true_or]; simp, T1.out⟩
    · have hst := hs.out.trans (any_end hlt)
      have Hst := Lib.hid hst; clear hst
      go_wp2
      go_ret
      exact ⟨_, rfl, by rw [Hst.out]; rfl, hbw.out⟩
set_option maxRecDepth 100000 in
theorem hasMk_calls (A : Option Addr) (c : Nat) (xs : List Mk) (w : World) (h : SlAt pMk (Old w) w A c xs) : Calls Tryd.prog 47 #[.slice A xs.length c, .func (.func 48) #[] #[]] w (BoolPost (xs.any fun l => !mkOk l) w) := by
  have hc := idxMk_calls A c xs w h
  obtain ⟨b, hb⟩ : ∃ b, (xs.any fun l => !mkOk l) = b := ⟨_, rfl⟩
  rw [hb] at hc ⊢
  have Hc := Lib.hid hc; clear hc
  have Hb := Lib.hid hb; clear hb
  go_enter Tryd.func47, Tryd.ntmps47
  go_wp2_with fail
  refine Hc.out.mono ?_
  rintro e w1 ⟨z, rfl, hz, b1⟩
  have B1 := Lib.hid b1; clear b1
  have Hz := Lib.hid hz; clear hz
  go_wp2
  go_ret
  exact ⟨ret_boolV (Hz.out.symm.trans (decide_eq_decide.2 (by omega))), B1.out⟩
end Go.Proofs.YtldccpmnboebmaaDoor
