/- Texts of the proof that the statement of ChanceAlone holds, several in one. -/
import Derived.Test.YtlipmagkplbkdaaDoorProg
import Derived.Test.YtlipmagkplbkdaaDoorZ4
import Derived.Deep.QuietTactic
import Derived.BigQuiet
import Derived.Lib.QuietBelow
import Derived.Lib.Bytealg
import Derived.Lib.Walk
import Derived.IntWalk
import Derived.Test.YtlipmagkplbkdaaDoorZ6
import Derived.StillTailTactics
import Derived.Deep.RegionHeld3
import Derived.Test.YtlipmagkplbkdaaDoorShelf
import Derived.Shelf.Strings.SlTrimAscii
set_option linter.unusedVariables false
set_option linter.unusedSimpArgs false
set_option linter.unusedSectionVars false
set_option maxRecDepth 100000
set_option maxHeartbeats 8000000
namespace Go.Proofs.YtlipmagkplbkdaaDoor
section
open Go.RowKit
def symL : List Int := [43, 45, 38, 94, 124, 33, 91, 93]
def symB (c : Int) : Bool := symL.contains c
def upB (c : Int) : Bool := decide (65 <= c) && decide (c <= 90)
def loB (c : Int) : Bool := decide (97 <= c) && decide (c <= 122)
def letterB (c : Int) : Bool := upB c || loB c || symB c
def argOk (x : Int) : Bool := decide (-1000000000 <= x) && decide (x <= 1000000000)
def shapeOk (m : Mod) : Bool := m.args.length == 0 || (decide (m.args.length <= 4) && m.name != 91 && m.name != 93)
def fineF (m : Mod) : Bool := letterB m.name && m.args.all argOk && shapeOk m
def scan (n : Nat) : List Mod -> Option Nat
 | [] => some n
 | m :: ms => if m.name = 91 then scan (n + 1) ms else if m.name = 93 then (if n = 0 then none else scan (n - 1) ms) else scan n ms
def checkF (w : List Mod) : Int :=
 if 2000 < w.length then 4 else if w.all fineF = false then 8 else match scan 0 w with
 | none => 28
 | some n => if 0 < n then 28 else 0
theorem sym_index : ∀ n : Fin 256, (decide (Lib.indexByte [43, 45, 38, 94, 124, 33, 91, 93] n.val.toUInt8 < 0)) = !symB (n.val : Int) := by decide +kernel
theorem indexByte_calls (s : ByteArray) (c : Int) (w : World) : Calls Tryd.prog 74 #[.string s, .int .u8 c] w fun e w' => e = .returned (.int .i64 (Lib.indexByte s.data.toList c.toNat.toUInt8)) /\ w = w' := by
 go_enter Tryd.func74, Tryd.ntmps74
 go_wp2
 rw [run_callFunc_extern Tryd.func102 (by kernel_rfl) (by kernel_rfl) (by kernel_rfl) (e := Extern.BytealgIndexByte.indexByte) (by kernel_rfl), Lib.run_indexByteString]
 simp only [Result.andThen]
 rw [Oper.upon_value]
 go_wp2
 go_ret
 exact ⟨rfl, rfl⟩
def symIx (c : Int) : Int := Lib.indexByte [43, 45, 38, 94, 124, 33, 91, 93] c.toNat.toUInt8
theorem symIx_neg {c : Int} (h0 : 0 <= c) (h1 : c <= 255) : symIx c < 0 ↔ symB c = false := by
 obtain ⟨n, rfl⟩ := Int.eq_ofNat_of_zero_le h0
 have := sym_index ⟨n, by omega⟩
 unfold symIx
 simp only [Int.toNat_natCast] at this ⊢
 rw [<- decide_eq_true_iff (p := _ < (0 : Int)), this]; simp
theorem symIx_calls (c : Int) (w : World) : Calls Tryd.prog 74 #[.string ⟨#[43, 45, 38, 94, 124, 33, 91, 93]⟩, .int .u8 c] w fun e w' => e = .returned (.int .i64 (symIx c)) /\ w = w' := indexByte_calls _ _ _
def FinePost (m : Mod) (w : World) (e : Ending) (w' : World) : Prop := e = .returned (.bool (fineF m)) /\ Below w.heap.size w w'
theorem argOk_no {x : Int} (h : x < -1000000000 ∨ 1000000000 < x) : argOk x = false := by unfold argOk; simp; omega
theorem argOk_yes {x : Int} (h0 : ¬ x < -1000000000) (h1 : ¬ 1000000000 < x) : argOk x = true := by unfold argOk; simp; omega
theorem fine_calls {F : Nat -> Prop} (A : Option Addr) (c : Nat) (m : Mod) (w : World) (h : SlAt (pI .i64) F w A c m.args) (hF : ∀ k, F k -> k < w.heap.size) (hn : Fits .u8 m.name) :
  Calls Tryd.prog 63 #[.agg #[.int .u8 m.name, .slice A m.args.length c]] w (FinePost m w) := by
 obtain ⟨nm, args⟩ := m
 simp only at h hn ⊢
 have hb8 := hn.u8
 have hmx := h.lenle
 obtain ⟨H, HF⟩ := HH2 h hF; clear h hF
 have hsx := symIx_neg hb8.1 hb8.2
 have Hsx := HH1 hsx; clear hsx
 cases hlt : letterB nm
 ·have hno := hlt
  unfold letterB at hno
  rw [Bool.or_eq_false_iff, Bool.or_eq_false_iff] at hno
  have hs := Hsx.out.2 hno.2
  have hup : nm < 65 ∨ 90 < nm := by have := hno.1.1; unfold upB at this; simp at this; omega
  have hlo : nm < 97 ∨ 122 < nm := by have := hno.1.2; unfold loB at this; simp at this; omega
  clear hno
  have Hlt := HH1 hlt; clear hlt
  have hres : FinePost ⟨nm, args⟩ w (.returned (.bool false)) (w.alloc (.cells #[.int .u8 nm, .slice A args.length c] 49)) :=
   ⟨by unfold fineF; rw [Hlt.out]; rfl, (Below.refl _ _).alloc (Nat.le_refl _) _⟩
  have Hres := HH1 hres; clear hres
  have h3 : nm < 65 ∨ (90 < nm /\ nm < 97) ∨ 122 < nm := by omega
  clear hup hlo
  rcases h3 with h3 | ⟨h3, h4⟩ | h3
  ·by_cases h0 : nm = 0
   ·have e0 : (nm == 0) = true := by simp [h0]
    clear h0
    go_enter Tryd.func63, Tryd.ntmps63
    go_wp2_with (go_at_call 74; refine (symIx_calls _ _).mono ?_; rintro e w' ⟨rfl, rfl⟩)
    go_ret
    exact Hres.out
   ·have e0 : (nm == 0) = false := by simp [h0]
    clear h0
    go_enter Tryd.func63, Tryd.ntmps63
    go_wp2_with (go_at_call 74; refine (symIx_calls _ _).mono ?_; rintro e w' ⟨rfl, rfl⟩)
    go_ret
    exact Hres.out
  ·have e0 : (nm == 0) = false := by simp; omega
   go_enter Tryd.func63, Tryd.ntmps63
   go_wp2_with (go_at_call 74; refine (symIx_calls _ _).mono ?_; rintro e w' ⟨rfl, rfl⟩)
   go_ret
   exact Hres.out
  ·have e0 : (nm == 0) = false := by simp; omega
   go_enter Tryd.func63, Tryd.ntmps63
   go_wp2_with (go_at_call 74; refine (symIx_calls _ _).mono ?_; rintro e w' ⟨rfl, rfl⟩)
   go_ret
   exact Hres.out
 ·have hcase : (65 <= nm /\ nm <= 90) ∨ (97 <= nm /\ nm <= 122) ∨ (nm < 65 /\ ¬ symIx nm < 0 /\ ((nm == 0) = false)) ∨ (90 < nm /\ nm < 97 /\ ¬ symIx nm < 0 /\ ((nm == 0) = false)) ∨ (122 < nm /\ ¬ symIx nm < 0 /\ ((nm == 0) = false)) := by
   unfold letterB at hlt
   rw [Bool.or_eq_true, Bool.or_eq_true] at hlt
   rcases hlt with (hu | hl) | hs
   ·unfold upB at hu; simp at hu; omega
   ·unfold loB at hl; simp at hl; omega
   ·have h1 : ¬ symIx nm < 0 := by rw [Hsx.out, hs]; decide
    have h2 : nm ≠ 0 := by rintro rfl; revert hs; decide
    have h3 : (nm == 0) = false := by simp [h2]
    by_cases h4 : nm < 65
    ·exact .inr (.inr (.inl ⟨h4, h1, h3⟩))
    ·by_cases h5 : nm <= 90
     ·exact .inl ⟨by omega, h5⟩
     ·by_cases h6 : nm < 97
      ·exact .inr (.inr (.inr (.inl ⟨by omega, h6, h1, h3⟩)))
      ·by_cases h7 : nm <= 122
       ·exact .inr (.inl ⟨by omega, h7⟩)
       ·exact .inr (.inr (.inr (.inr ⟨by omega, h1, h3⟩)))
  have Hlt := HH1 hlt; clear hlt
  go_enter Tryd.func63, Tryd.ntmps63
  rcases hcase with ⟨h1, h2⟩ | ⟨h1, h2⟩ | ⟨h1, h2, h3⟩ | ⟨h1, h2, h3, h4⟩ | ⟨h1, h2, h3⟩
  all_goals
   go_wp2_with (go_at_call 74; refine (symIx_calls _ _).mono ?_; rintro e w' ⟨rfl, rfl⟩)
   clear h1 h2
   try clear h3
   try clear h4
   have hkp : ∀ k, F k -> (w.alloc (.cells #[.int .u8 nm, .slice A args.length c] 49)).heap[k]? = w.heap[k]? := fun k hk => Below.heap_alloc _ _ _ (HF.out k hk)
   have H2 := HH1 (H.out.keep hkp)
   clear hkp
   go_loop [34] (fun i => ∃ k : Nat, k <= args.length /\ i = .int .i64 k /\ Hid (args.all argOk = (args.drop k).all argOk)) (fun i => args.length - (intOf i).toNat)
   case atStart => exact ⟨0, Nat.zero_le _, rfl, rfl⟩
   case round =>
    obtain ⟨k, hk, rfl, hall⟩ := hrel
    by_cases hlt : k < args.length
    ·obtain ⟨b, o, x, hd, rfl, _, hcx, _⟩ := H2.out.getI hlt
     by_cases hx0 : x < -1000000000
     ·go_wp2
      go_ret
      refine ⟨ret_bool ?_, (Below.refl _ _).alloc (Nat.le_refl _) _⟩
      unfold fineF; rw [hall.out, hd.out, List.all_cons, argOk_no (.inl hx0)]; simp
     ·by_cases hx1 : 1000000000 < x
      ·go_wp2
       go_ret
       refine ⟨ret_bool ?_, (Below.refl _ _).alloc (Nat.le_refl _) _⟩
       unfold fineF; rw [hall.out, hd.out, List.all_cons, argOk_no (.inr hx1)]; simp
      ·go_wp2
       go_round
       case rel =>
        refine ⟨k + 1, by omega, by go_num, ?_⟩
        unfold Hid; rw [hall.out, hd.out, List.all_cons, argOk_yes hx0 hx1]; rfl
       case measure => simp [intOf]; omega
    ·have hok : args.all argOk = true := by rw [hall.out, drop_end hlt]; rfl
     have Hok := HH1 hok; clear hok
     by_cases hl0 : args.length = 0
     ·have e0 : ((args.length : Int) == 0) = true := by simp [hl0]
      have Hl0 := HH1 hl0; clear hl0
      go_wp2
      go_ret
      refine ⟨ret_bool ?_, (Below.refl _ _).alloc (Nat.le_refl _) _⟩
      unfold fineF shapeOk; rw [Hlt.out, Hok.out]; simp [Hl0.out]
     ·have e0 : ((args.length : Int) == 0) = false := by simpa using hl0
      by_cases hl4 : args.length <= 4
      ·by_cases h91 : nm = 91
       ·have e1 : (nm != 91) = false := by simp [h91]
        have H91 := HH1 h91; clear h91
        go_wp2
        go_ret
        refine ⟨ret_bool ?_, (Below.refl _ _).alloc (Nat.le_refl _) _⟩
        unfold fineF shapeOk; simp [H91.out, hl0]
       ·have e1 : (nm != 91) = true := by simp [h91]
        by_cases h93 : nm = 93
        ·have e2 : (nm != 93) = false := by simp [h93]
         have H93 := HH1 h93; clear h93
         go_wp2
         go_ret
         refine ⟨ret_bool ?_, (Below.refl _ _).alloc (Nat.le_refl _) _⟩
         unfold fineF shapeOk; simp [H93.out, hl0]
        ·have e2 : (nm != 93) = true := by simp [h93]
         go_wp2
         go_ret
         refine ⟨ret_bool ?_, (Below.refl _ _).alloc (Nat.le_refl _) _⟩
         unfold fineF shapeOk; rw [Hlt.out, Hok.out]; simp [hl0, hl4, h91, h93]
      ·go_wp2
       go_ret
       refine ⟨ret_bool ?_, (Below.refl _ _).alloc (Nat.le_refl _) _⟩
       unfold fineF shapeOk; rw [Hlt.out, Hok.out]; simp [hl0, hl4]
end
section
open Go.RowKit
def CheckPost (ms : List Mod) (w : World) (e : Ending) (w' : World) : Prop := e = .returned (.int .i64 (checkF ms)) /\ Below w.heap.size w w'
theorem wordCheck_calls (A : Option Addr) (c : Nat) (ms : List Mod) (w : World) (h : SlAt pMod (Old w) w A c ms) :
  Calls Tryd.prog 42 #[.slice A ms.length c] w (CheckPost ms w) := by
 have hmx := h.lenle
 have H := HH1 h; clear h
 by_cases hbig : 2000 < ms.length
 ·go_enter Tryd.func42, Tryd.ntmps42
  go_wp2
  go_ret
  exact ⟨ret_int (by unfold checkF; rw [if_pos hbig]), Below.refl _ _⟩
 ·have Hbig := HH1 hbig; clear hbig
  have hle : ms.length <= 2000 := by have := Hbig.out; omega
  go_enter Tryd.func42, Tryd.ntmps42
  go_wp2
  go_loopw [12] (fun i wr => ∃ k : Nat, k <= ms.length /\ i = .int .i64 k /\ Hid (Below w.heap.size w wr) /\ w.heap.size <= wr.heap.size /\ Hid (ms.all fineF = (ms.drop k).all fineF)) (fun i _ => ms.length - (intOf i).toNat)
  case atStart => exact ⟨0, Nat.zero_le _, rfl, Below.refl _ _, Nat.le_refl _, rfl⟩
  case round =>
   obtain ⟨k, hk, rfl, hb, hsz, hall⟩ := hrel
   obtain ⟨wo, rfl⟩ : ∃ wo : World, wo = wr := ⟨_, rfl⟩
   by_cases hlt : k < ms.length
   ·obtain ⟨b, o, A', c', m, hd, rfl, hob, hc0, hc1, hf8, hargs, hl⟩ := (H.out.below hb.out).getMod hlt
    have hob' : b < wo.heap.size := Nat.lt_of_lt_of_le hob hsz
    have hcall : ∀ W : World, Below wo.heap.size wo W -> Calls Tryd.prog 63 #[.agg #[.int .u8 m.name, .slice A' m.args.length c']] W (FinePost m W) := fun W hW =>
     fine_calls A' c' m W (hargs.out.keep fun q hq => hW.block q (Nat.lt_of_lt_of_le hq hsz)) (fun q hq => Nat.lt_of_lt_of_le hq (Nat.le_trans hsz hW.size)) hf8
    have Hcall := HH1 hcall; clear hcall
    go_wp2_with fail
    refine (Hcall.out _ (((Below.refl _ _).alloc (Nat.le_refl _) _))).mono ?_
    rintro e w1 ⟨rfl, hb1⟩
    have hsz1 := hb1.size
    simp at hsz1
    have hbw : Below w.heap.size w w1 := (hb.out.alloc hsz _).trans (hb1.mono (by simp; omega))
    have Hbw := HH1 hbw; clear hbw hb1
    cases hfm : fineF m
    ·go_wp2
     go_ret
     refine ⟨ret_int ?_, Hbw.out⟩
     unfold checkF
     rw [if_neg Hbig.out, if_pos]
     rw [hall.out, hd.out, List.all_cons, hfm]; rfl
    ·go_wp2
     go_roundw
     case rel =>
      refine ⟨k + 1, by omega, by go_num, Hbw, Hbw.out.size, ?_⟩
      unfold Hid; rw [hall.out, hd.out, List.all_cons, hfm]; rfl
     case measure => simp [intOf]; omega
   ·have hok : ms.all fineF = true := by rw [hall.out, drop_end hlt]; rfl
    have Hok := HH1 hok; clear hok
    go_wp2
    go_loopw [22, 5] (fun i n wr => ∃ k o : Nat, k <= ms.length /\ o <= k /\ i = .int .i64 k /\ n = .int .i64 o /\ wr = wo /\ Hid (scan 0 ms = scan o (ms.drop k))) (fun i _ _ => ms.length - (intOf i).toNat)
    case atStart => exact ⟨0, 0, Nat.zero_le _, Nat.le_refl _, rfl, rfl, rfl, rfl⟩
    case round =>
     obtain ⟨k2, op, hk2, hop, rfl, rfl, rfl, hsc⟩ := hrel
     by_cases hlt2 : k2 < ms.length
     ·obtain ⟨b, o, A', c', m, hd, rfl, hob, hc0, hc1, hf8, hargs, hl⟩ := (H.out.below hb.out).getMod hlt2
      by_cases h91 : m.name = 91
      ·have e0 : (m.name == 91) = true := by simp [h91]
       have e1 : (m.name == 93) = false := by simp [h91]
       have H91 := HH1 h91; clear h91
       go_wp2
       go_roundw
       case rel =>
        refine ⟨k2 + 1, op + 1, by omega, by omega, by go_num, by go_num, trivial, ?_⟩
        unfold Hid; rw [hsc.out, hd.out]; simp [scan, H91.out]
       case measure => simp [intOf]; omega
      ·have e0 : (m.name == 91) = false := by simp [h91]
       by_cases h93 : m.name = 93
       ·have e1 : (m.name == 93) = true := by simp [h93]
        have H93 := HH1 h93; clear h93
        by_cases h0 : op = 0
        ·subst h0
         go_wp2
         go_ret
         refine ⟨ret_int ?_, hb.out⟩
         unfold checkF
         rw [if_neg Hbig.out, if_neg (by rw [Hok.out]; decide), hsc.out, hd.out]; simp [scan, H93.out]
        ·have e2 : ((op : Int) == 0) = false := by simp; omega
         go_wp2
         go_roundw
         case rel =>
          refine ⟨k2 + 1, op - 1, by omega, by omega, by go_num, by congr 1; omega, trivial, ?_⟩
          unfold Hid; rw [hsc.out, hd.out]; simp [scan, H93.out, h0]
         case measure => simp [intOf]; omega
       ·have e1 : (m.name == 93) = false := by simp [h93]
        go_wp2
        go_roundw
        case rel =>
         refine ⟨k2 + 1, op, by omega, by omega, by go_num, rfl, trivial, ?_⟩
         unfold Hid; rw [hsc.out, hd.out]; simp [scan, h91, h93]
        case measure => simp [intOf]; omega
     ·have hs : scan 0 ms = some op := by rw [hsc.out, drop_end hlt2]; rfl
      have Hs := HH1 hs; clear hs
      by_cases h0 : 0 < op
      ·go_wp2
       go_ret
       refine ⟨ret_int ?_, hb.out⟩
       unfold checkF
       rw [if_neg Hbig.out, if_neg (by rw [Hok.out]; decide), Hs.out]; simp [h0]
      ·obtain rfl : op = 0 := by omega
       go_wp2
       go_ret
       refine ⟨ret_int ?_, hb.out⟩
       unfold checkF
       rw [if_neg Hbig.out, if_neg (by rw [Hok.out]; decide), Hs.out]; rfl
theorem symS_get (k : Nat) (hk : k < (⟨#[43, 45, 38, 94, 124, 33, 91, 93]⟩ : ByteArray).size) : symL[k]? = some (((⟨#[43, 45, 38, 94, 124, 33, 91, 93]⟩ : ByteArray)[k]'hk).toNat : Int) := by
 have h8 : k < 8 := hk
 rcases (show k = 0 ∨ k = 1 ∨ k = 2 ∨ k = 3 ∨ k = 4 ∨ k = 5 ∨ k = 6 ∨ k = 7 by omega) with rfl | rfl | rfl | rfl | rfl | rfl | rfl | rfl <;> rfl
theorem letter_calls (c : Int) (w : World) : Calls Tryd.prog 55 #[.int .u8 c] w fun e w' => e = .returned (.bool (letterB c)) /\ w = w' := by
 go_enter Tryd.func55, Tryd.ntmps55
 go_wp2
 go_loop [4] (fun i => ∃ k : Nat, k <= 8 /\ i = .int .i64 k /\ Hid (symB c = (symL.drop k).contains c)) (fun i => 8 - (intOf i).toNat)
 case atStart => exact ⟨0, by omega, rfl, rfl⟩
 case round =>
  obtain ⟨k, hk, rfl, hs⟩ := hrel
  by_cases h8 : k < 8
  ·have step : ∀ v : Int, symL[k]? = some v -> v = c ∨ (v ≠ c /\ symB c = (symL.drop (k + 1)).contains c) := by
    intro v hv
    by_cases hvc : v = c
    ·exact .inl hvc
    ·refine .inr ⟨hvc, ?_⟩
     rw [hs.out, drop_cons hv, List.contains_cons]
     simp [Ne.symm hvc]
   have yes : ∀ v : Int, symL[k]? = some v -> v = c -> letterB c = true := by
    intro v hv hvc
    unfold letterB
    rw [hs.out, drop_cons hv, List.contains_cons, hvc]; simp
   have hget := symS_get k h8
   by_cases hvc : (((⟨#[43, 45, 38, 94, 124, 33, 91, 93]⟩ : ByteArray)[k]'h8).toNat : Int) = c
   ·have hy := yes _ hget hvc
    have e0 : ((((⟨#[43, 45, 38, 94, 124, 33, 91, 93]⟩ : ByteArray)[k]'h8).toNat : Int) == c) = true := by simpa using hvc
    have Hy := HH1 hy
    clear hy step yes hget hvc
    go_wp2
    go_ret
    exact ⟨ret_bool Hy.out.symm, rfl⟩
   ·have hy := (step _ hget).resolve_left hvc
    have e0 : ((((⟨#[43, 45, 38, 94, 124, 33, 91, 93]⟩ : ByteArray)[k]'h8).toNat : Int) == c) = false := by simpa using hvc
    have Hn := HH1 hy.2
    clear hy step yes hget hvc
    go_wp2
    go_round
    case rel => exact ⟨k + 1, by omega, by go_num, Hn⟩
    case measure => simp [intOf]; omega
  ·have hs2 : symB c = false := by rw [hs.out, drop_end (show ¬ k < symL.length from h8)]; rfl
   have Hs2 := HH1 hs2; clear hs2
   have hcs : c < 65 ∨ (65 <= c /\ c <= 90) ∨ (90 < c /\ c < 97) ∨ (97 <= c /\ c <= 122) ∨ 122 < c := by omega
   rcases hcs with h1 | ⟨h1, h2⟩ | ⟨h1, h2⟩ | ⟨h1, h2⟩ | h1
   all_goals
    go_wp2
    go_ret
    refine ⟨ret_bool ?_, rfl⟩
    unfold letterB upB loB; rw [Hs2.out, Bool.eq_iff_iff]; simp; try omega
def openL (n : Nat) : List Mod -> Option (List Int)
 | [] => some []
 | m :: ms => if m.name = 91 then (openL (n + 1) ms).map ((((n + 1 : Nat) : Int)) :: ·) else if m.name = 93 then (if n = 0 then none else (openL (n - 1) ms).map (((n - 1 : Nat) : Int) :: ·)) else (openL n ms).map ((n : Int) :: ·)
theorem scan_openL : ∀ (ms : List Mod) (n : Nat), Option.map (fun k : Nat => (k : Int)) (scan n ms) = (openL n ms).map (fun l => l.getLast?.getD (n : Int))
 | [], n => rfl
 | m :: ms, n => by
  have key : ∀ k : Nat, Option.map (fun k : Nat => (k : Int)) (scan k ms) = ((openL k ms).map ((k : Int) :: ·)).map (fun l => l.getLast?.getD (n : Int)) := by
   intro k
   rw [scan_openL ms k, Option.map_map]
   congr 1
   funext l
   cases l with
   | nil => rfl
   | cons x l => simp [List.getLast?_cons]
  unfold scan openL
  split
  ·exact key (n + 1)
  ·split
   ·split
    ·rfl
    ·exact key (n - 1)
   ·exact key n
theorem refFine_calls {F : Nat -> Prop} (A : Option Addr) (c : Nat) (m : Mod) (w : World) (h : SlAt (pI .i64) F w A c m.args) (hF : ∀ k, F k -> k < w.heap.size) :
  Calls Tryd.prog 32 #[.agg #[.int .u8 m.name, .slice A m.args.length c]] w (FinePost m w) := by
 obtain ⟨nm, args⟩ := m
 simp only at h ⊢
 have hmx := h.lenle
 obtain ⟨H, HF⟩ := HH2 h hF; clear h hF
 have hkp : ∀ k, F k -> (w.alloc (.cells #[.int .u8 nm, .slice A args.length c] 49)).heap[k]? = w.heap[k]? := fun k hk => Below.heap_alloc _ _ _ (HF.out k hk)
 have H2 := HH1 (H.out.keep hkp)
 clear hkp
 have no : fineF ⟨nm, args⟩ = false -> FinePost ⟨nm, args⟩ w (.returned (.bool false)) (w.alloc (.cells #[.int .u8 nm, .slice A args.length c] 49)) := fun hn => ⟨by rw [hn], (Below.refl _ _).alloc (Nat.le_refl _) _⟩
 have No := HH1 no; clear no
 cases hlt : letterB nm
 ·go_enter Tryd.func32, Tryd.ntmps32
  go_wp2_with (go_at_call 55; refine (letter_calls _ _).mono ?_; rintro e w' ⟨rfl, rfl⟩)
  go_ret
  exact No.out (by unfold fineF; rw [hlt]; rfl)
 ·by_cases h4 : 4 < args.length
  ·go_enter Tryd.func32, Tryd.ntmps32
   go_wp2_with (go_at_call 55; refine (letter_calls _ _).mono ?_; rintro e w' ⟨rfl, rfl⟩)
   go_ret
   exact No.out (by unfold fineF shapeOk; rw [show (args.length == 0) = false from by simp; rintro rfl; simp at h4, show decide (args.length <= 4) = false from by simp; omega]; simp)
  ·have hcase : (shapeOk ⟨nm, args⟩ = false /\ 0 < args.length /\ (((nm == 91) = true) ∨ ((nm == 91) = false /\ (nm == 93) = true))) ∨
     (shapeOk ⟨nm, args⟩ = true /\ (((nm == 91) = true /\ ¬ 0 < args.length) ∨ ((nm == 91) = false /\ (nm == 93) = true /\ ¬ 0 < args.length) ∨ ((nm == 91) = false /\ (nm == 93) = false))) := by
    unfold shapeOk
    by_cases h0 : 0 < args.length
    ·have e0 : (args.length == 0) = false := by simp; rintro rfl; simp at h0
     have e4 : decide (args.length <= 4) = true := by simp; omega
     simp only [e0, e4]
     by_cases h1 : nm = 91
     ·left; subst h1; exact ⟨rfl, h0, .inl rfl⟩
     ·by_cases h3 : nm = 93
      ·left; subst h3; exact ⟨rfl, h0, .inr ⟨rfl, rfl⟩⟩
      ·right; exact ⟨by simp [h1, h3], .inr (.inr ⟨by simp [h1], by simp [h3]⟩)⟩
    ·have e0 : (args.length == 0) = true := by simp; exact List.eq_nil_of_length_eq_zero (by omega)
     right
     refine ⟨by simp [e0], ?_⟩
     by_cases h1 : nm = 91
     ·exact .inl ⟨by simp [h1], h0⟩
     ·by_cases h3 : nm = 93
      ·exact .inr (.inl ⟨by simp [h1], by simp [h3], h0⟩)
      ·exact .inr (.inr ⟨by simp [h1], by simp [h3]⟩)
   rcases hcase with ⟨hsh, h0, h1 | ⟨h1, h3⟩⟩ | ⟨hsh, hcs⟩
   ·go_enter Tryd.func32, Tryd.ntmps32
    go_wp2_with (go_at_call 55; refine (letter_calls _ _).mono ?_; rintro e w' ⟨rfl, rfl⟩)
    go_ret
    exact No.out (by unfold fineF; rw [hsh]; simp)
   ·go_enter Tryd.func32, Tryd.ntmps32
    go_wp2_with (go_at_call 55; refine (letter_calls _ _).mono ?_; rintro e w' ⟨rfl, rfl⟩)
    go_ret
    exact No.out (by unfold fineF; rw [hsh]; simp)
   ·have Hsh := HH1 hsh; clear hsh
    go_enter Tryd.func32, Tryd.ntmps32
    rcases hcs with ⟨h1, h0⟩ | ⟨h1, h3, h0⟩ | ⟨h1, h3⟩
    ·go_wp2_with (go_at_call 55; refine (letter_calls _ _).mono ?_; rintro e w' ⟨rfl, rfl⟩)
     have Hlt := HH1 hlt
     go_loop [3] (fun i => i = .int .i64 0) (fun i => 0)
     case atStart => rfl
     case round =>
      subst hrel
      go_wp2
      go_ret
      refine ⟨ret_bool ?_, (Below.refl _ _).alloc (Nat.le_refl _) _⟩
      have ha : args = [] := List.eq_nil_of_length_eq_zero (by omega)
      unfold fineF; rw [Hlt.out, Hsh.out, ha]; rfl
    ·go_wp2_with (go_at_call 55; refine (letter_calls _ _).mono ?_; rintro e w' ⟨rfl, rfl⟩)
     have Hlt := HH1 hlt
     go_loop [3] (fun i => i = .int .i64 0) (fun i => 0)
     case atStart => rfl
     case round =>
      subst hrel
      go_wp2
      go_ret
      refine ⟨ret_bool ?_, (Below.refl _ _).alloc (Nat.le_refl _) _⟩
      have ha : args = [] := List.eq_nil_of_length_eq_zero (by omega)
      unfold fineF; rw [Hlt.out, Hsh.out, ha]; rfl
    ·go_wp2_with (go_at_call 55; refine (letter_calls _ _).mono ?_; rintro e w' ⟨rfl, rfl⟩)
     have Hlt := HH1 hlt
     go_loop [3] (fun i => ∃ k : Nat, k <= args.length /\ i = .int .i64 k /\ Hid (args.all argOk = (args.drop k).all argOk)) (fun i => args.length - (intOf i).toNat)
     case atStart => exact ⟨0, Nat.zero_le _, rfl, rfl⟩
     case round =>
      obtain ⟨k, hk, rfl, hall⟩ := hrel
      by_cases hlt2 : k < args.length
      ·obtain ⟨b, o, x, hd, rfl, _, hcx, _⟩ := H2.out.getI hlt2
       by_cases hx0 : x < -1000000000
       ·go_wp2
        go_ret
        exact No.out (by unfold fineF; rw [hall.out, hd.out, List.all_cons, argOk_no (.inl hx0)]; simp)
       ·by_cases hx1 : 1000000000 < x
        ·go_wp2
         go_ret
         exact No.out (by unfold fineF; rw [hall.out, hd.out, List.all_cons, argOk_no (.inr hx1)]; simp)
        ·go_wp2
         go_round
         case rel =>
          refine ⟨k + 1, by omega, by go_num, ?_⟩
          unfold Hid; rw [hall.out, hd.out, List.all_cons, argOk_yes hx0 hx1]; rfl
         case measure => simp [intOf]; omega
      ·go_wp2
       go_ret
       refine ⟨ret_bool ?_, (Below.refl _ _).alloc (Nat.le_refl _) _⟩
       unfold fineF; rw [Hlt.out, hall.out, drop_end hlt2, Hsh.out]; rfl
end
section
open Go.RowKit
def inC (x : Int) : Bool := decide (-1000000 <= x) && decide (x <= 1000000)
def formF (f : Frm) (n : Nat) : Bool := inC f.const && f.coefs.all inC && f.coefs.length == n
theorem inC_yes {x : Int} (h0 : ¬ x < -1000000) (h1 : ¬ 1000000 < x) : inC x = true := by unfold inC; simp; omega
theorem inC_no {x : Int} (h : x < -1000000 ∨ 1000000 < x) : inC x = false := by unfold inC; simp; omega
theorem inC_iff {x : Int} : inC x = true ↔ -1000000 <= x /\ x <= 1000000 := by unfold inC; simp
theorem argOk_iff {x : Int} : argOk x = true ↔ -1000000000 <= x /\ x <= 1000000000 := by unfold argOk; simp
def fdot : List Int -> List Int -> Int
 | c :: cs, x :: xs => c * x + fdot cs xs
 | _, _ => 0
def worthF (f : Frm) (args : List Int) : Int := f.const + fdot f.coefs args
theorem natAbs_le {a : Int} {n : Nat} (h0 : -(n : Int) <= a) (h1 : a <= n) : a.natAbs <= n := by omega
theorem mul_bd {c x : Int} (hc : inC c = true) (hx : argOk x = true) : -1000000000000000 <= c * x /\ c * x <= 1000000000000000 := by
 have h1 := inC_iff.1 hc
 have h2 := argOk_iff.1 hx
 have h3 : (c * x).natAbs <= 1000000 * 1000000000 := by
  rw [Int.natAbs_mul]
  exact Nat.mul_le_mul (natAbs_le (n := 1000000) (by omega) (by omega)) (natAbs_le (n := 1000000000) (by omega) (by omega))
 omega
def coreR (r : Rul) : Bool :=
 letterB r.name && (r.name != 91) && (r.name != 93) && decide (0 <= r.arity) && decide (r.arity <= 4) && r.guards.all (fun f => formF f r.arity.toNat) && r.out.all (fun s => s.args.all (fun f => formF f r.arity.toNat)) &&
  checkF (r.out.map fun s => ⟨s.name, List.replicate s.args.length 0⟩) == 0
def bareR (r : Rul) : Bool := r.left == 0 && r.right == 0 && r.weight == 0
def fineR (r : Rul) : Bool := coreR r && bareR r
def manyR (rs : List Rul) : Bool := decide (40 < rs.length) || rs.any (fun r => decide (4 < r.guards.length) || decide (20 < r.out.length))
def checkR (rs : List Rul) : Int := if manyR rs = true then 4 else if rs.all fineR = true then 0 else 8
def valueF (f : Frm) (args : List Int) : Int × Int :=
 if formF f args.length = true /\ args.all argOk = true /\ args.length <= 4 then
  (if worthF f args < -1000000000 ∨ 1000000000 < worthF f args then (0, 16) else (worthF f args, 0))
 else (0, 8)
def fitsF (r : Rul) (m : Mod) : Bool := r.name == m.name && r.arity == (m.args.length : Int) && r.guards.all (fun g => decide (0 <= worthF g m.args))
def firstFrom (m : Mod) : List Rul -> Nat -> Int
 | [], _ => -1
 | r :: rs, k => if fitsF r m = true then (k : Int) else firstFrom m rs (k + 1)
def firstF (rs : List Rul) (m : Mod) : Int := firstFrom m rs 0
def greatR (rs : List Rul) : Bool := decide (50 < rs.length) || rs.any (fun r => decide (10 < r.guards.length) || decide (30 < r.out.length) || r.guards.any (fun g => decide (10 < g.coefs.length)) ||
 r.out.any (fun s => decide (10 < s.args.length) || s.args.any (fun f => decide (10 < f.coefs.length))))
theorem letter_byte {m : Mod} (h : fineF m = true) : letterB m.name = true := by
 unfold fineF at h; simp at h; exact h.1.1
theorem check_one (c : Int) : checkF [⟨c, []⟩] = 0 ↔ letterB c = true /\ c ≠ 91 /\ c ≠ 93 := by
 have h1 : fineF ⟨c, []⟩ = letterB c := by unfold fineF shapeOk; simp
 unfold checkF
 cases hl : letterB c
 ·simp [h1, hl]
 ·by_cases h91 : c = 91
  ·subst h91; simp [h1, hl, scan]
  ·by_cases h93 : c = 93
   ·subst h93; simp [h1, hl, scan]
   ·simp [h1, hl, scan, h91, h93]
theorem check_mod (m : Mod) : (checkF [m] = 0 ∨ checkF [m] = 28) ↔ fineF m = true := by
 unfold checkF
 cases hf : fineF m
 ·simp [hf]
 ·by_cases h91 : m.name = 91
  ·simp [hf, scan, h91]
  ·by_cases h93 : m.name = 93
   ·simp [hf, scan, h93]
   ·simp [hf, scan, h91, h93]
theorem firstFrom_none {m : Mod} : ∀ {rs : List Rul} {k : Nat}, firstFrom m rs k = -1 ∨ ∃ j : Nat, firstFrom m rs k = (j : Int) /\ k <= j /\ j < k + rs.length
 | [], k => .inl rfl
 | r :: rs, k => by
  unfold firstFrom
  split
  ·exact .inr ⟨k, rfl, Nat.le_refl _, by simp⟩
  ·rcases firstFrom_none (m := m) (rs := rs) (k := k + 1) with h | ⟨j, h, h1, h2⟩
   ·exact .inl h
   ·exact .inr ⟨j, h, by omega, by simp; omega⟩
theorem fineR_guards {r : Rul} (h : coreR r = true) : 0 <= r.arity /\ r.arity <= 4 /\ (∀ g ∈ r.guards, formF g r.arity.toNat = true) /\ (∀ s ∈ r.out, ∀ f ∈ s.args, formF f r.arity.toNat = true) := by
 unfold coreR at h
 simp only [Bool.and_eq_true, decide_eq_true_eq, List.all_eq_true] at h
 exact ⟨h.1.1.1.1.2, h.1.1.1.2, h.1.1.2, h.1.2⟩
end
section
open Go.RowKit
theorem form_calls {F : Nat -> Prop} (A : Option Addr) (c : Nat) (f : Frm) (n : Nat) (w : World) (h : SlAt (pI .i64) F w A c f.coefs) (hF : ∀ k, F k -> k < w.heap.size) (hc : Fits .i64 f.const) (_hn : n <= 9223372036854775807) :
  Calls Tryd.prog 76 #[.agg #[.int .i64 f.const, .slice A f.coefs.length c], .int .i64 n] w (BoolPost (formF f n) w) := by
 obtain ⟨co, xs⟩ := f
 simp only at h hc ⊢
 have hmx := h.lenle
 have hc' := hc.i64
 have hb0 : Below w.heap.size w (w.alloc (.cells #[.int .i64 co, .slice A xs.length c] 70)) := (Below.refl _ _).alloc (Nat.le_refl _) _
 have h2 := h.keep (w' := w.alloc (.cells #[.int .i64 co, .slice A xs.length c] 70)) fun k hk => Below.heap_alloc _ _ _ (hF k hk)
 have H2 := HH1 h2; have Hb0 := HH1 hb0
 clear h h2 hb0 hF
 go_enter Tryd.func76, Tryd.ntmps76
 go_wp2
 go_loop [10] (fun i => ∃ k : Nat, k <= xs.length /\ i = .int .i64 k /\ Hid (xs.all inC = (xs.drop k).all inC)) (fun i => xs.length - (intOf i).toNat)
 case atStart => exact ⟨0, Nat.zero_le _, rfl, rfl⟩
 case round =>
  obtain ⟨k, hk, rfl, hall⟩ := hrel
  by_cases hlt : k < xs.length
  ·obtain ⟨b, o, x, hd, rfl, _, hcx, hfx⟩ := H2.out.getI hlt
   have hfx' := hfx.i64
   by_cases h0 : x < -1000000
   ·have hno : formF ⟨co, xs⟩ n = false := by
     unfold formF; rw [hall.out, hd.out, List.all_cons, show inC x = false from by unfold inC; simp; omega]; simp
    have Hno := HH1 hno; clear hno
    go_wp2
    go_ret
    exact ⟨by rw [Hno.out]; rfl, Hb0.out⟩
   ·by_cases h1 : 1000000 < x
    ·have hno : formF ⟨co, xs⟩ n = false := by
      unfold formF; rw [hall.out, hd.out, List.all_cons, show inC x = false from by unfold inC; simp; omega]; simp
     have Hno := HH1 hno; clear hno
     go_wp2
     go_ret
     exact ⟨by rw [Hno.out]; rfl, Hb0.out⟩
    ·go_wp2
     go_round
     case rel =>
      refine ⟨k + 1, by omega, by go_num, ?_⟩
      unfold Hid; rw [hall.out, hd.out, List.all_cons, show inC x = true from by unfold inC; simp; omega]; rfl
     case measure => simp [intOf]; omega
  ·have ha : xs.all inC = true := by rw [hall.out, drop_end hlt]; rfl
   have Ha := HH1 ha; clear ha
   by_cases h0 : co < -1000000
   ·have hno : formF ⟨co, xs⟩ n = false := by
     unfold formF; rw [show inC co = false from by unfold inC; simp; omega]; simp
    have Hno := HH1 hno; clear hno
    go_wp2
    go_ret
    exact ⟨by rw [Hno.out]; rfl, Hb0.out⟩
   ·by_cases h1 : 1000000 < co
    ·have hno : formF ⟨co, xs⟩ n = false := by
      unfold formF; rw [show inC co = false from by unfold inC; simp; omega]; simp
     have Hno := HH1 hno; clear hno
     go_wp2
     go_ret
     exact ⟨by rw [Hno.out]; rfl, Hb0.out⟩
    ·have hyes : formF ⟨co, xs⟩ n = (xs.length == n) := by
      unfold formF; rw [show inC co = true from by unfold inC; simp; omega, Ha.out]; simp
     have Hyes := HH1 hyes; clear hyes
     by_cases hl : xs.length = n
     ·have e1 : ((xs.length : Int) == (n : Int)) = true := by simp [hl]
      have e2 : (xs.length == n) = true := by simp [hl]
      clear hl
      go_wp2
      go_ret
      exact ⟨by rw [Hyes.out, e2]; rfl, Hb0.out⟩
     ·have e1 : ((xs.length : Int) == (n : Int)) = false := by simp; omega
      have e2 : (xs.length == n) = false := by simp [hl]
      clear hl
      go_wp2
      go_ret
      exact ⟨by rw [Hyes.out, e2]; rfl, Hb0.out⟩
end
section
open Go.RowKit
structure SumOk (f : Frm) (args : List Int) : Prop where
 c : -1000000 <= f.const /\ f.const <= 1000000
 k : ∀ x ∈ f.coefs, inC x = true
 n : f.coefs.length = args.length
 a : ∀ x ∈ args, argOk x = true
 l : args.length <= 4
theorem sumOk {f : Frm} {args : List Int} (h1 : formF f args.length = true) (h2 : args.all argOk = true) (h3 : args.length <= 4) : SumOk f args := by
 unfold formF at h1
 simp only [Bool.and_eq_true, List.all_eq_true, beq_iff_eq] at h1
 exact ⟨inC_iff.1 h1.1.1, h1.1.2, h1.2, List.all_eq_true.1 h2, h3⟩
theorem fdot_cons {cs xs : List Int} {c x : Int} {k : Nat} (h1 : cs.drop k = c :: cs.drop (k + 1)) (h2 : xs.drop k = x :: xs.drop (k + 1)) : fdot (cs.drop k) (xs.drop k) = c * x + fdot (cs.drop (k + 1)) (xs.drop (k + 1)) := by
 rw [h1, h2]; rfl
theorem fdot_bd : ∀ {cs xs : List Int}, (∀ x ∈ cs, inC x = true) -> (∀ x ∈ xs, argOk x = true) -> -(xs.length : Int) * 1000000000000000 <= fdot cs xs /\ fdot cs xs <= (xs.length : Int) * 1000000000000000
 | [], xs, _, _ => by
            have : fdot [] xs = 0 := rfl
            rw [this]; omega
 | c :: cs, [], _, _ => by
              have : fdot (c :: cs) [] = 0 := rfl
              rw [this]; simp
 | c :: cs, x :: xs, h1, h2 => by
  have h3 := mul_bd (h1 c (by simp)) (h2 x (by simp))
  have h4 := fdot_bd (cs := cs) (xs := xs) (fun y hy => h1 y (by simp [hy])) (fun y hy => h2 y (by simp [hy]))
  unfold fdot; simp only [List.length_cons]; omega
theorem worth_bd {f : Frm} {args : List Int} (h : SumOk f args) : -4000000001000000 <= worthF f args /\ worthF f args <= 4000000001000000 := by
 have := fdot_bd h.k h.a
 have := h.l; have := h.c
 unfold worthF; omega
theorem worth_calls {F : Nat -> Prop} (A : Option Addr) (c : Nat) (f : Frm) (A' : Option Addr) (c' : Nat) (args : List Int) (w : World) (h : SlAt (pI .i64) F w A c f.coefs) (h' : SlAt (pI .i64) F w A' c' args) (hF : ∀ k, F k -> k < w.heap.size) (hok : SumOk f args) :
  Calls Tryd.prog 86 #[.agg #[.int .i64 f.const, .slice A f.coefs.length c], .slice A' args.length c'] w (IntPost (worthF f args) w) := by
 obtain ⟨co, xs⟩ := f
 have hmx := h.lenle
 have hmx' := h'.lenle
 have hl := hok.n
 have hl4 := hok.l
 have hc := hok.c
 simp only at h hl hc hmx ⊢
 have hb0 : Below w.heap.size w (w.alloc (.cells #[.int .i64 co, .slice A xs.length c] 70)) := (Below.refl _ _).alloc (Nat.le_refl _) _
 have h2 := h.keep (w' := w.alloc (.cells #[.int .i64 co, .slice A xs.length c] 70)) fun k hk => Below.heap_alloc _ _ _ (hF k hk)
 have h3 := h'.keep (w' := w.alloc (.cells #[.int .i64 co, .slice A xs.length c] 70)) fun k hk => Below.heap_alloc _ _ _ (hF k hk)
 have hkk := hok.k
 have haa := hok.a
 obtain ⟨H2, H3, Hb0, Hkk, Haa⟩ := HH5 h2 h3 hb0 hkk haa; clear h2 h3 hb0 hkk haa
 clear h h' hF
 have hl' : xs.length <= args.length := by omega
 have hl'' : args.length <= xs.length := by omega
 have Hl := HH1 hl; clear hl
 go_enter Tryd.func86, Tryd.ntmps86
 go_wp2
 go_loop [12, 5] (fun i n => ∃ k : Nat, k <= args.length /\ i = .int .i64 k /\ ∃ s : Int, n = .int .i64 s /\ -(1000000 + k * 1000000000000000 : Int) <= s /\ s <= 1000000 + k * 1000000000000000 /\ Hid (worthF ⟨co, xs⟩ args = s + fdot (xs.drop k) (args.drop k))) (fun i _ => args.length - (intOf i).toNat)
 case atStart => exact ⟨0, Nat.zero_le _, rfl, co, rfl, by omega, by omega, rfl⟩
 case round =>
  obtain ⟨k, hk, rfl, s, rfl, hs0, hs1, hd⟩ := hrel
  by_cases hlt : k < args.length
  ·have hltx : k < xs.length := by omega
   obtain ⟨b, o, x, hdx, rfl, _, hcx, hfx⟩ := H3.out.getI hlt
   obtain ⟨b', o', y, hdy, rfl, _, hcy, hfy⟩ := H2.out.getI hltx
   have hm := mul_bd (Hkk.out y (mem_of_drop hdy.out)) (Haa.out x (mem_of_drop hdx.out))
   obtain ⟨hm0, hm1⟩ := hm
   have hw1 : -9223372036854775808 <= s + y * x /\ s + y * x <= 9223372036854775807 := by omega
   go_wp2
   go_round
   case rel =>
    refine ⟨k + 1, by omega, by go_num, s + y * x, by go_num, by omega, by omega, ?_⟩
    unfold Hid; rw [hd.out, fdot_cons hdy.out hdx.out]; omega
   case measure => simp [intOf]; omega
  ·have he : worthF ⟨co, xs⟩ args = s := by rw [hd.out, drop_end hlt, drop_end (xs := xs) (by omega)]; unfold fdot; omega
   have He := HH1 he; clear he
   go_wp2
   go_ret
   exact ⟨ret_int He.out.symm, Hb0.out⟩
theorem refForm_calls {F : Nat -> Prop} (A : Option Addr) (c : Nat) (f : Frm) (n : Nat) (w : World) (h : SlAt (pI .i64) F w A c f.coefs) (hF : ∀ k, F k -> k < w.heap.size) (hc : Fits .i64 f.const) (hn : n <= 9223372036854775807) :
  Calls Tryd.prog 66 #[.agg #[.int .i64 f.const, .slice A f.coefs.length c], .int .i64 n] w (BoolPost (formF f n) w) := by
 obtain ⟨co, xs⟩ := f
 simp only at h hc ⊢
 have hmx := h.lenle
 have hc' := hc.i64
 have hb0 : Below w.heap.size w (w.alloc (.cells #[.int .i64 co, .slice A xs.length c] 70)) := (Below.refl _ _).alloc (Nat.le_refl _) _
 have h2 := h.keep (w' := w.alloc (.cells #[.int .i64 co, .slice A xs.length c] 70)) fun k hk => Below.heap_alloc _ _ _ (hF k hk)
 obtain ⟨H2, Hb0⟩ := HH2 h2 hb0; clear h2 hb0
 clear h hF
 have no : formF ⟨co, xs⟩ n = false -> BoolPost (formF ⟨co, xs⟩ n) w (.returned (.bool false)) (w.alloc (.cells #[.int .i64 co, .slice A xs.length c] 70)) := fun hn => ⟨by rw [hn], Hb0.out⟩
 have No := HH1 no; clear no
 by_cases h0 : co < -1000000
 ·go_enter Tryd.func66, Tryd.ntmps66
  go_wp2
  go_ret
  exact No.out (by unfold formF; rw [inC_no (.inl h0)]; rfl)
 by_cases h1 : 1000000 < co
 ·go_enter Tryd.func66, Tryd.ntmps66
  go_wp2
  go_ret
  exact No.out (by unfold formF; rw [inC_no (.inr h1)]; rfl)
 by_cases hl : xs.length = n
 ·subst hl
  have e0 : ((xs.length : Int) != (xs.length : Int)) = false := by simp
  go_enter Tryd.func66, Tryd.ntmps66
  go_wp2
  go_loop [5] (fun i => ∃ k : Nat, k <= xs.length /\ i = .int .i64 k /\ Hid (xs.all inC = (xs.drop k).all inC)) (fun i => xs.length - (intOf i).toNat)
  case atStart => exact ⟨0, Nat.zero_le _, rfl, rfl⟩
  case round =>
   obtain ⟨k, hk, rfl, hall⟩ := hrel
   by_cases hlt : k < xs.length
   ·obtain ⟨b, o, x, hd, rfl, _, hcx, hfx⟩ := H2.out.getI hlt
    by_cases hx0 : x < -1000000
    ·go_wp2
     go_ret
     exact No.out (by unfold formF; rw [hall.out, hd.out, List.all_cons, inC_no (.inl hx0)]; simp)
    ·by_cases hx1 : 1000000 < x
     ·go_wp2
      go_ret
      exact No.out (by unfold formF; rw [hall.out, hd.out, List.all_cons, inC_no (.inr hx1)]; simp)
     ·go_wp2
      go_round
      case rel =>
       refine ⟨k + 1, by omega, by go_num, ?_⟩
       unfold Hid; rw [hall.out, hd.out, List.all_cons, inC_yes hx0 hx1]; rfl
      case measure => simp [intOf]; omega
   ·have ha : formF ⟨co, xs⟩ xs.length = true := by unfold formF; rw [inC_yes (x := co) (by omega) (by omega), hall.out, drop_end hlt]; simp
    have Ha := HH1 ha; clear ha
    go_wp2
    go_ret
    exact ⟨by rw [Ha.out]; rfl, Hb0.out⟩
 ·have e0 : ((xs.length : Int) != (n : Int)) = true := by simp; omega
  have e1 : (xs.length == n) = false := by simpa using hl
  have E1 := HH1 e1; clear e1
  clear hl
  go_enter Tryd.func66, Tryd.ntmps66
  go_wp2
  go_ret
  exact No.out (by unfold formF; simp only [E1.out, Bool.and_false])
theorem form_int {F : Nat -> Prop} (A : Option Addr) (c : Nat) (f : Frm) (n : Int) (w : World) (h : SlAt (pI .i64) F w A c f.coefs) (hF : ∀ k, F k -> k < w.heap.size) (hc : Fits .i64 f.const) (hn : 0 <= n /\ n <= 4) :
  Calls Tryd.prog 76 #[.agg #[.int .i64 f.const, .slice A f.coefs.length c], .int .i64 n] w (BoolPost (formF f n.toNat) w) := by
 have := form_calls A c f n.toNat w h hF hc (by omega)
 rwa [Int.toNat_of_nonneg hn.1] at this
theorem refForm_int {F : Nat -> Prop} (A : Option Addr) (c : Nat) (f : Frm) (n : Int) (w : World) (h : SlAt (pI .i64) F w A c f.coefs) (hF : ∀ k, F k -> k < w.heap.size) (hc : Fits .i64 f.const) (hn : 0 <= n /\ n <= 4) :
  Calls Tryd.prog 66 #[.agg #[.int .i64 f.const, .slice A f.coefs.length c], .int .i64 n] w (BoolPost (formF f n.toNat) w) := by
 have := refForm_calls A c f n.toNat w h hF hc (by omega)
 rwa [Int.toNat_of_nonneg hn.1] at this
end
section
open Go.RowKit
theorem info_frm : (Tryd.prog.info? 70).map (fun i => (i.zero, i.size, i.bytes)) = some (some (.agg #[.int .i64 0, .slice none 0 0]), 2, 32) := by kernel_rfl
theorem info_modC : (Tryd.prog.info? 49).map (fun i => (i.zero, i.size, i.bytes)) = some (some (.agg #[.int .u8 0, .slice none 0 0]), 2, 32) := by kernel_rfl
theorem info_intC : (Tryd.prog.info? 3).map (fun i => (i.zero, i.size, i.bytes)) = some (some (.int .i64 0), 1, 8) := by kernel_rfl
section
variable {ops : Array Oper} {rest : List Oper} {o o1 o2 : Oper} {a : Act} {Q : Exit -> Act -> World -> Prop} {w : World} {base : Nat} {G : Nat -> Prop} {v : Value}
theorem pushMod {xs : List Mod} (tmp : Nat) (s xo : Operand)
  (hg1 : o1.guard = none) (hg2 : o2.guard = none) (hd1 : o1.dst = some tmp) (ho1 : o1.op = .buildSlice 23 1 #[(0, xo)])
  (ho2 : o2.op = .call { callee := .builtin .append, args := #[s, .tmp tmp], argTypes := #[23, 23] })
  (hs : ∀ u, (a.put (some tmp) u).eval s = v) (ht2 : ∀ u, (a.put (some tmp) u).eval (.tmp tmp) = u) (hown : Own pMod 49 base G w v xs)
  (nm : Int) (A0 : Option Addr) (n0 c0 : Nat) (hu : a.eval xo = .agg #[.int .u8 nm, .slice A0 n0 c0]) (m : Mod) (F : Nat -> Prop) (hR : pMod.R F w [.int .u8 nm, .slice A0 n0 c0] m) (hF : ∀ k, F k -> G k /\ k < w.heap.size /\ some k ≠ v.ownBlock)
  (n : Nat) (hn : xs.length + 1 = n) (hlen : Room n) (hbase : base <= w.heap.size)
  (h : ∀ A' c' w', Hid (Own pMod 49 base G w' (.slice A' n c') (xs ++ [m])) -> Hid (Grew base w w' v (.slice A' n c')) ->
   wpList Tryd.prog ops Q rest ((a.put (some tmp) (.slice (some ⟨w.heap.size, 0, none⟩) 1 1)).put o2.dst (.slice A' n c')) w') : wpList Tryd.prog ops Q (o1 :: o2 :: rest) a w :=
 wpList_pushG (E := pMod) 23 49 (.agg #[.int .u8 0, .slice none 0 0]) 32 tmp s xo hg1 hg2 hd1 ho1 ho2 Tryd.underlying23 info_modC rfl (by decide) hs ht2 hown (.agg #[.int .u8 nm, .slice A0 n0 c0]) hu m F (by simpa [Value.cells] using hR) hF n hn
  (by unfold Room at *; omega) ⟨by decide, by decide⟩ hbase h
end
theorem Blk.rul {w : World} {g : Nat} {t : TypeId} {a0 a1 a2 a3 a4 a5 a6 : Value} (h : Blk w g t #[a0, a1, a2, a3, a4, a5, a6]) :
  w.cell? ⟨g, 0, none⟩ = some a0 /\ w.cell? ⟨g, 1, none⟩ = some a1 /\ w.cell? ⟨g, 2, none⟩ = some a2 /\ w.cell? ⟨g, 3, none⟩ = some a3 /\ w.cell? ⟨g, 4, none⟩ = some a4 /\ w.cell? ⟨g, 5, none⟩ = some a5 /\ w.cell? ⟨g, 6, none⟩ = some a6 :=
 ⟨h.cell 0, h.cell 1, h.cell 2, h.cell 3, h.cell 4, h.cell 5, h.cell 6⟩
structure RulAt (r : Rul) (F : Nat -> Prop) (w : World) (A : Option Addr) (c : Nat) (A' : Option Addr) (c' : Nat) : Prop where
 fn : Fits .u8 r.name
 fa : Fits .i64 r.arity
 fl : Fits .u8 r.left
 fr : Fits .u8 r.right
 fw : Fits .i64 r.weight
 sg : SlAt pFrm F w A c r.guards
 so : SlAt pShp F w A' c' r.out
theorem mod_boxed {w : World} (c : Int) (hc : Fits .u8 c) : SlAt pMod (Old (w.alloc (.cells #[.int .u8 c, .slice none 0 0] 49))) (w.alloc (.cells #[.int .u8 c, .slice none 0 0] 49)) (some ⟨w.heap.size, 0, none⟩) 1 [⟨c, []⟩] := by
 refine (sl_boxed (E := pMod) (F := fun _ => False) (u := .agg #[.int .u8 c, .slice none 0 0]) ⟨none, 0, rfl, hc, ⟨Nat.le_refl _, Nat.zero_le _, fun _ => rfl, fun i x hx => by simp at hx⟩⟩ (fun k hk => hk.elim)).wide ?_
 intro k hk
 rcases hk with hk | rfl
 ·exact hk.elim
 ·unfold Old; simp
theorem oneCheck (W : World) (c : Int) (hc : Fits .u8 c) (n : Nat) (hn : W.heap.size = n) : Calls Tryd.prog 42 #[.slice (some ⟨n, 0, none⟩) 1 1] (W.alloc (.cells #[.int .u8 c, .slice none 0 0] 49)) (CheckPost [⟨c, []⟩] (W.alloc (.cells #[.int .u8 c, .slice none 0 0] 49))) := by
 subst hn
 exact wordCheck_calls (some ⟨W.heap.size, 0, none⟩) 1 [⟨c, []⟩] _ (mod_boxed c hc)
theorem fineR_cases (r : Rul) : (fineR r = false /\ (r.arity < 0 ∨ (¬ r.arity < 0 /\ 4 < r.arity) ∨ (¬ r.arity < 0 /\ ¬ 4 < r.arity /\ (r.name == 91) = true) ∨ (¬ r.arity < 0 /\ ¬ 4 < r.arity /\ (r.name == 91) = false /\ (r.name == 93) = true))) ∨
  (¬ r.arity < 0 /\ ¬ 4 < r.arity /\ (r.name == 91) = false /\ (r.name == 93) = false /\
   ((
    fineR r = false /\ ((checkF [⟨r.name, []⟩] != 0) = true ∨ ((checkF [⟨r.name, []⟩] != 0) = false /\ (r.left != 0) = true) ∨ ((checkF [⟨r.name, []⟩] != 0) = false /\ (r.left != 0) = false /\ (r.right != 0) = true) ∨
    ((checkF [⟨r.name, []⟩] != 0) = false /\ (r.left != 0) = false /\ (r.right != 0) = false /\ (r.weight != 0) = true))) ∨
    (
    (checkF [⟨r.name, []⟩] != 0) = false /\ (r.left != 0) = false /\ (r.right != 0) = false /\ (r.weight != 0) = false /\
    fineR r = (r.guards.all (fun f => formF f r.arity.toNat) && r.out.all (fun s => s.args.all (fun f => formF f r.arity.toNat)) && checkF (r.out.map fun s => ⟨s.name, List.replicate s.args.length 0⟩) == 0)))) := by
 have hn := check_one r.name
 by_cases h1 : r.arity < 0
 ·left; exact ⟨by unfold fineR coreR; simp; omega, .inl h1⟩
 by_cases h2 : 4 < r.arity
 ·left; exact ⟨by unfold fineR coreR; simp; omega, .inr (.inl ⟨h1, h2⟩)⟩
 by_cases h3 : r.name = 91
 ·left; exact ⟨by unfold fineR coreR; simp [h3], .inr (.inr (.inl ⟨h1, h2, by simp [h3]⟩))⟩
 by_cases h4 : r.name = 93
 ·left; exact ⟨by unfold fineR coreR; simp [h4], .inr (.inr (.inr ⟨h1, h2, by simp [h3], by simp [h4]⟩))⟩
 right
 refine ⟨h1, h2, by simp [h3], by simp [h4], ?_⟩
 by_cases h5 : checkF [⟨r.name, []⟩] = 0
 ·have hl := (hn.1 h5).1
  by_cases h6 : r.left = 0
  ·by_cases h7 : r.right = 0
   ·by_cases h8 : r.weight = 0
    ·right
     refine ⟨by simp [h5], by simp [h6], by simp [h7], by simp [h8], ?_⟩
     unfold fineR coreR bareR
     simp only [hl, h6, h7, h8, show (r.name != 91) = true by simp [h3], show (r.name != 93) = true by simp [h4], show decide (0 <= r.arity) = true by simp; omega, show decide (r.arity <= 4) = true by simp; omega]
     simp
    ·left; exact ⟨by unfold fineR bareR; simp [h8], .inr (.inr (.inr ⟨by simp [h5], by simp [h6], by simp [h7], by simp [h8]⟩))⟩
   ·left; exact ⟨by unfold fineR bareR; simp [h7], .inr (.inr (.inl ⟨by simp [h5], by simp [h6], by simp [h7]⟩))⟩
  ·left; exact ⟨by unfold fineR bareR; simp [h6], .inr (.inl ⟨by simp [h5], by simp [h6]⟩)⟩
 ·left
  have hl : letterB r.name = false := by
   cases hb : letterB r.name
   ·rfl
   ·exact absurd (hn.2 ⟨hb, h3, h4⟩) h5
  exact ⟨by unfold fineR coreR; simp [hl], .inl (by simp [h5])⟩
theorem made_mod {wo : World} {base : Nat} {G : Nat -> Prop} {v : Value} {xs : List Mod} (how : Own pMod 49 base G wo v xs) (hb : base <= wo.heap.size) (sh : Obj) (nm : Int) (h8 : Fits .u8 nm) (n : Nat) (hn : n <= 1000) (Z : Array Value) (hZ : madeCells #[Value.int .i64 0] n = Z) :
  Own pMod 49 base (fun q => G q ∨ wo.heap.size < q) ((((wo.alloc sh).alloc (.cells Z 3)).alloc (.cells #[.int .u8 nm, .slice (some ⟨wo.heap.size + 1, 0, none⟩) n n] 49)).drew) v xs /\
  SlAt pMod (fun q => q = wo.heap.size + 1 ∨ q = wo.heap.size + 2) ((((wo.alloc sh).alloc (.cells Z 3)).alloc (.cells #[.int .u8 nm, .slice (some ⟨wo.heap.size + 1, 0, none⟩) n n] 49)).drew) (some ⟨wo.heap.size + 2, 0, none⟩) 1 [⟨nm, List.replicate n 0⟩] /\
  (∀ q, (q = wo.heap.size + 1 ∨ q = wo.heap.size + 2) -> (G q ∨ wo.heap.size < q) /\ q < ((((wo.alloc sh).alloc (.cells Z 3)).alloc (.cells #[.int .u8 nm, .slice (some ⟨wo.heap.size + 1, 0, none⟩) n n] 49)).drew).heap.size /\ some q ≠ v.ownBlock) /\
  base <= ((((wo.alloc sh).alloc (.cells Z 3)).alloc (.cells #[.int .u8 nm, .slice (some ⟨wo.heap.size + 1, 0, none⟩) n n] 49)).drew).heap.size := by
 subst hZ
 have hb1 : Blk ((wo.alloc sh).alloc (.cells (madeCells #[Value.int .i64 0] n) 3)) (wo.heap.size + 1) 3 (madeCells #[Value.int .i64 0] n) := by
  have := Blk.new (wo.alloc sh) 3 (madeCells #[Value.int .i64 0] n)
  simpa using this
 have hz := zeros_sl (F := fun q => q = wo.heap.size + 1) hb1 rfl (by unfold maxLen; omega)
 have hs : SlAt pMod (fun q => q = wo.heap.size + 1 ∨ q = wo.heap.size + 2) (((wo.alloc sh).alloc (.cells (madeCells #[Value.int .i64 0] n) 3)).alloc (.cells #[.int .u8 nm, .slice (some ⟨wo.heap.size + 1, 0, none⟩) n n] 49)) (some ⟨wo.heap.size + 2, 0, none⟩) 1 [⟨nm, List.replicate n 0⟩] := by
  have := sl_boxed (E := pMod) (e := 49) (w := (wo.alloc sh).alloc (.cells (madeCells #[Value.int .i64 0] n) 3)) (F := fun q => q = wo.heap.size + 1) (x := ⟨nm, List.replicate n 0⟩) (u := .agg #[.int .u8 nm, .slice (some ⟨wo.heap.size + 1, 0, none⟩) n n])
   ⟨some ⟨wo.heap.size + 1, 0, none⟩, n, by simp [Value.cells], h8, hz⟩ (fun k hk => by subst hk; simp)
  simpa [Value.cells] using this
 refine ⟨((((how.alloc _).alloc _).alloc _).drew).wideG fun k _ hk => .inl hk, hs.keep fun _ _ => rfl, fun q hq => ⟨.inr (by omega), by simp; omega, fun he => ?_⟩, by simp; omega⟩
 have := how.lt q he.symm
 omega
def formsK (r : Rul) (k : Nat) : List Frm := r.guards ++ (r.out.take k).flatMap (fun s => s.args)
theorem flat_len : ∀ (l : List Shp), (∀ s ∈ l, s.args.length <= 10) -> (l.flatMap (fun s => s.args)).length <= l.length * 10
 | [], _ => by simp
 | s :: l, h => by
  have h1 := h s (by simp)
  have h2 := flat_len l fun x hx => h x (by simp [hx])
  simp only [List.flatMap_cons, List.length_append, List.length_cons]; omega
theorem formsK_len {r : Rul} (h : ∀ s ∈ r.out, s.args.length <= 10) (hg : r.guards.length <= 10) (ho : r.out.length <= 30) (k : Nat) : (formsK r k).length <= 310 := by
 have h1 := flat_len (r.out.take k) fun s hs => h s (List.mem_of_mem_take hs)
 have h2 := List.length_take_le k r.out
 have h3 := List.length_take_le' k r.out
 unfold formsK; rw [List.length_append]; omega
theorem formsK_succ {r : Rul} {k : Nat} {s : Shp} (h : r.out.drop k = s :: r.out.drop (k + 1)) : formsK r (k + 1) = formsK r k ++ s.args := by
 unfold formsK; rw [take_of_drop h, List.flatMap_append, <- List.append_assoc]; simp
theorem formsK_all (r : Rul) (p : Frm -> Bool) : (formsK r r.out.length).all p = (r.guards.all p && r.out.all (fun s => s.args.all p)) := by
 unfold formsK; rw [List.take_length, List.all_append, List.all_flatMap]
def modsK (r : Rul) (k : Nat) : List Mod := (r.out.take k).map fun s => ⟨s.name, List.replicate s.args.length 0⟩
theorem rFine_calls (r : Rul) (A : Option Addr) (c : Nat) (A' : Option Addr) (c' : Nat) (w : World) (h : RulAt r (Old w) w A c A' c') (hg10 : r.guards.length <= 10) (ho30 : r.out.length <= 30) (ha10 : ∀ s ∈ r.out, s.args.length <= 10) :
  Calls Tryd.prog 65 #[.agg #[.int .u8 r.name, .int .i64 r.arity, .int .u8 r.left, .int .u8 r.right, .slice A r.guards.length c, .int .i64 r.weight, .slice A' r.out.length c']] w (BoolPost (fineR r) w) := by
 have hcase := fineR_cases r
 have hn := h.fn
 have hai := h.fa.i64
 have hbx : Blk (w.alloc (.cells #[.int .u8 r.name, .int .i64 r.arity, .int .u8 r.left, .int .u8 r.right, .slice A r.guards.length c, .int .i64 r.weight, .slice A' r.out.length c'] 60)) w.heap.size 60 #[.int .u8 r.name, .int .i64 r.arity, .int .u8 r.left, .int .u8 r.right, .slice A r.guards.length c, .int .i64 r.weight, .slice A' r.out.length c'] := Blk.new _ _ _
 have hb0 : Below w.heap.size w (w.alloc (.cells #[.int .u8 r.name, .int .i64 r.arity, .int .u8 r.left, .int .u8 r.right, .slice A r.guards.length c, .int .i64 r.weight, .slice A' r.out.length c'] 60)) := (Below.refl _ _).alloc (Nat.le_refl _) _
 have hz0 : (w.alloc (.cells #[.int .u8 r.name, .int .i64 r.arity, .int .u8 r.left, .int .u8 r.right, .slice A r.guards.length c, .int .i64 r.weight, .slice A' r.out.length c'] 60)).heap.size = w.heap.size + 1 := by simp
 obtain ⟨H, Ha10, Hbx, Hb0, Hz0⟩ := HH5 h ha10 hbx hb0 hz0; clear h ha10 hbx hb0 hz0
 rcases hcase with ⟨hno, hc⟩ | ⟨h1, h2, h3, h4, hc⟩
 ·have Hno := HH1 hno; clear hno
  go_enter Tryd.func65, Tryd.ntmps65
  rcases hc with h1 | ⟨h1, h2⟩ | ⟨h1, h2, h3⟩ | ⟨h1, h2, h3, h4⟩
  all_goals
   go_wp2
   go_ret
   exact ⟨by rw [Hno.out]; rfl, Hb0.out⟩
 ·go_enter Tryd.func65, Tryd.ntmps65
  go_wp2_with fail
  ((with_reducible refine (oneCheck _ _ hn _ Hz0.out).mono ?_))
  rintro e w1 ⟨rfl, hb1⟩
  have hz1 : w.heap.size + 2 <= w1.heap.size := by have := hb1.size; simp at this; omega
  have hbl1 : Blk w1 w.heap.size 60 #[.int .u8 r.name, .int .i64 r.arity, .int .u8 r.left, .int .u8 r.right, .slice A r.guards.length c, .int .i64 r.weight, .slice A' r.out.length c'] :=
   (Hbx.out.alloc _).same (hb1.block _ (by simp; omega))
  obtain ⟨x0, x1, x2, x3, x4, x5, x6⟩ := hbl1.rul
  have hbw1 : Below w.heap.size w w1 := (Hb0.out.alloc (by simp) _).trans (hb1.mono (by simp; omega))
  obtain ⟨Hbl1, Hbw1⟩ := HH2 hbl1 hbw1; clear hbl1 hbw1
  clear hb1
  rcases hc with ⟨hno, h5 | ⟨h5, h6⟩ | ⟨h5, h6, h7⟩ | ⟨h5, h6, h7, h8⟩⟩ | ⟨h5, h6, h7, h8, hyes⟩
  iterate 4
   ·have Hno := HH1 hno; clear hno
    go_wp2
    go_ret
    exact ⟨by rw [Hno.out]; rfl, Hbw1.out⟩
  ·have hnil : Own pFrm 70 (w.heap.size + 1) (Old w) w1 (.slice none 0 0) [] := Own.nil
   have hsg : SlAt pFrm (Old w) w1 A c r.guards := H.out.sg.below Hbw1.out
   obtain ⟨Hyes, Hnil, Hsg⟩ := HH3 hyes hnil hsg; clear hyes hnil hsg
   go_wp2_with (at_builtin; refine wpList_cat (E := pFrm) (xs := []) (v := .slice none 0 0) (base := w.heap.size + 1) (G := Old w) 57 70 (.agg #[.int .i64 0, .slice none 0 0]) 32 _ (.tmp 51) rfl rfl Tryd.underlying57 info_frm rfl (by decide) rfl Hnil.out A c r.guards rfl (Old w) Hsg.out ?a2 r.guards.length rfl (room_of ?a3) (by decide) ?a4 ?_; rotate_right; intro A1 c1 w2 hown1 hb2 hk2; have Hown1 := HH1 hown1; clear hown1 hk2; have hbl2 := Hbl1.out.same (hb2.block _ (Nat.lt_succ_self _)); obtain ⟨y0, y1, y2, y3, y4, y5, y6⟩ := hbl2.rul; have Hbl2 := HH1 hbl2; have Hb2 := HH1 (Hbw1.out.trans (hb2.mono (Nat.le_succ _))); have hz2 := hb2.size; clear hbl2 hb2)
   case a2 => intro q hq; have : q < w.heap.size := hq; exact ⟨hq, by omega, by simp [Value.ownBlock]⟩
   case a3 => omega
   case a4 => omega
   have hz2' : w.heap.size + 1 <= w2.heap.size := by omega
   clear x0 x1 x2 x3 x4 x5 x6 hz1 hz2
   go_loopw [56, 3, 4] (fun i fo ws wr => ∃ k : Nat, k <= r.out.length /\ i = .int .i64 k /\ w.heap.size + 1 <= wr.heap.size /\ Hid (Below w.heap.size w wr) /\ Hid (Blk wr w.heap.size 60 #[.int .u8 r.name, .int .i64 r.arity, .int .u8 r.left, .int .u8 r.right, .slice A r.guards.length c, .int .i64 r.weight, .slice A' r.out.length c']) /\
    ∃ Af cf Aw cw, fo = .slice Af (formsK r k).length cf /\ ws = .slice Aw k cw /\ ∃ G, Hid (Own pFrm 70 (w.heap.size + 1) (Old w) wr fo (formsK r k)) /\ Hid (Own pMod 49 (w.heap.size + 1) G wr ws (modsK r k)) /\
     Hid (∀ q, G q -> w.heap.size + 1 <= q /\ q < wr.heap.size /\ fo.ownBlock ≠ some q) /\ Hid (∀ q, fo.ownBlock = some q -> ws.ownBlock ≠ some q)) (fun i _ _ _ => r.out.length - (intOf i).toNat)
   case atStart =>
    have hm0 : Own pMod 49 (w.heap.size + 1) (fun _ => False) w2 (.slice none 0 0) (modsK r 0) := Own.nil
    have hf0 : formsK r 0 = r.guards := by unfold formsK; simp
    refine ⟨0, Nat.zero_le _, rfl, hz2', Hb2, Hbl2, A1, c1, none, 0, by rw [hf0], rfl, fun _ => False, ?_, hm0, fun q hq => hq.elim, fun q _ he => by cases he⟩
    unfold Hid; rw [hf0]; exact Hown1.out
   case round =>
    obtain ⟨k, hk, rfl, hzr, hbr, hblr, Af, cf, Aw, cw, rfl, rfl, G, hof, how, hG, hdj⟩ := hrel
    obtain ⟨wo, rfl⟩ : ∃ wo : World, wo = wr := ⟨_, rfl⟩
    obtain ⟨z0, z1, z2, z3, z4, z5, z6⟩ := hblr.out.rul
    clear y0 y1 y2 y3 y4 y5 y6
    by_cases hlt : k < r.out.length
    ·obtain ⟨b, o, As, cs, s, hd, rfl, hob, hs0, hs1, hs8, hsa, hsl⟩ := (H.out.so.below hbr.out).getShp hlt
     have hob' : b < wo.heap.size := by have : b < w.heap.size := hob; omega
     have hk0 : (0 : Int) <= (k : Int) := Int.natCast_nonneg _
     have hk1 : (k : Int) < (r.out.length : Int) := by omega
     have hal : s.args.length <= 10 := Ha10.out _ (mem_of_drop hd.out)
     obtain ⟨Z, hZ⟩ : ∃ Z, madeCells #[Value.int .i64 0] s.args.length = Z := ⟨_, rfl⟩
     have hmk := fun (wx : World) => run_make_rowN (P := Tryd.prog) (t := 47) (e := 3) Tryd.underlying47 info_intC s.args.length (by omega) (by omega) wx
     rw [show madeCells (Value.int .i64 0).cells (s.args.length * 1) = Z from by rw [Nat.mul_one]; exact hZ] at hmk
     have hmm := made_mod how.out hzr (.cells #[.int .u8 s.name, .slice As s.args.length cs] 72) s.name hs8 s.args.length (by omega) Z hZ
     have hk3 : (modsK r k ++ ([⟨s.name, List.replicate s.args.length 0⟩] : List Mod)).length = k + 1 := by unfold modsK; simp; omega
     have hr3 : Room (k + 1) := room_of (by omega)
     have hsq : some wo.heap.size ≠ (Value.slice Aw k cw).ownBlock := fun he => by have := how.out.lt _ he.symm; omega
     have kp : ∀ (u : Value) (w3 : World), Hid (Grew (w.heap.size + 1) ((((wo.alloc (.cells #[.int .u8 s.name, .slice As s.args.length cs] 72)).alloc (.cells Z 3)).alloc (.cells #[.int .u8 s.name, .slice (some ⟨wo.heap.size + 1, 0, none⟩) s.args.length s.args.length] 49)).drew) w3 (.slice Aw k cw) u) ->
       Blk w3 wo.heap.size 72 #[.int .u8 s.name, .slice As s.args.length cs] := fun u w3 hg => by
      have h1 := hg.out.oth wo.heap.size (by simp; omega) hsq
      exact Blk.same ((((Blk.new wo 72 #[.int .u8 s.name, .slice As s.args.length cs]).alloc _).alloc _).same rfl) h1
     obtain ⟨Hmm, HZ, Hk3, Hr3, Kp⟩ := HH5 hmm hZ hk3 hr3 kp; clear hmm hZ hk3 hr3 kp
     go_wp2_with fail
     go_region_held3 (fun w' => w'.cell? ⟨wo.heap.size, 0, none⟩ = some (.int .u8 s.name) /\ w'.cell? ⟨wo.heap.size, 1, none⟩ = some (.slice As s.args.length cs))
      (first | go_keep | exact ⟨(Kp.out _ _ hg3).cell 0, (Kp.out _ _ hg3).cell 1⟩)
      (first | (refine step_catG (E := pMod) (xs := modsK r k) 23 49 (.agg #[.int .u8 0, .slice none 0 0]) 32 (.tmp 60) (.tmp 68) rfl rfl Tryd.underlying23 info_modC rfl (by decide) rfl Hmm.out.1 _ 1 [⟨s.name, List.replicate s.args.length 0⟩] rfl _ Hmm.out.2.1 Hmm.out.2.2.1 (k + 1) Hk3.out Hr3.out (by decide) Hmm.out.2.2.2 ?_; intro A3 c3 w3 hown3 hg3))
     have hz3 : wo.heap.size + 3 <= w3.heap.size := by have := hg3.out.bel.size; simp at this; omega
     have hbo3 : Below (w.heap.size + 1) wo w3 := (below_drew ((((Below.refl _ _).alloc hzr _).alloc (by simp; omega) _).alloc (by simp; omega) _)).trans hg3.out.bel
     have hof3 : Own pFrm 70 (w.heap.size + 1) (Old w) w3 (.slice Af (formsK r k).length cf) (formsK r k) :=
      ((((hof.out.alloc _).alloc _).alloc _).drew).beside hg3.out fun q hq => ⟨fun ho => by have := how.out.lt q hq; unfold Old at ho; omega, fun he => hdj.out q he hq⟩
     have hbs3 := Kp.out _ _ hg3
     have hs3 : SlAt pFrm (Old w) w3 As cs s.args := hsa.out.keep fun q hq => hbo3.block q (Nat.lt_succ_of_lt hq)
     have hcs3 : w3.cell? ⟨wo.heap.size, 1, none⟩ = some (.slice As s.args.length cs) := hbs3.cell 1
     have hfk : (formsK r k ++ s.args).length = (formsK r (k + 1)).length := by rw [formsK_succ hd.out]
     have hrf : Room (formsK r (k + 1)).length := room_of (by have := formsK_len Ha10.out hg10 ho30 (k + 1); omega)
     obtain ⟨Hbo3, Hof3, Hbs3, Hs3, Hfk, Hrf⟩ := HH6 hbo3 hof3 hbs3 hs3 hfk hrf; clear hbo3 hof3 hbs3 hs3 hfk hrf
     clear z0 z1 z2 z3 z4 z5 z6 hs0 hs1 hmk
     go_wp2_with (at_builtin; refine wpList_catG (E := pFrm) (xs := formsK r k) (v := .slice Af (formsK r k).length cf) (base := w.heap.size + 1) (G := Old w) 57 70 (.agg #[.int .i64 0, .slice none 0 0]) 32 (.tmp 70) (.tmp 72) rfl rfl Tryd.underlying57 info_frm rfl (by decide) rfl Hof3.out As cs s.args rfl (Old w) Hs3.out ?a2 (formsK r (k + 1)).length Hfk.out Hrf.out (by decide) ?a4 ?_; rotate_right; intro A4 c4 w4 hown4 hg4)
     case a2 =>
      intro q hq
      have hq' : q < w.heap.size := hq
      exact ⟨hq, by omega, fun he => by have := Hof3.out.lt q he.symm; omega⟩
     case a4 => omega
     go_roundw
     case rel =>
      have hz4 := hg4.out.bel.size
      have hfo := fun q (hq : (Value.slice Af (formsK r k).length cf).ownBlock = some q) => hof.out.lt q hq
      have hnot : ∀ q, (Value.slice Af (formsK r k).length cf).ownBlock = some q -> ¬ (G q ∨ (wo.heap.size < q /\ q < w3.heap.size)) /\ (Value.slice A3 (k + 1) c3).ownBlock ≠ some q := by
       intro q hq
       have h1 := hfo q hq
       refine ⟨fun hg => ?_, fun he => ?_⟩
       ·rcases hg with hg | hg
        ·exact (hG.out q hg).2.2 hq
        ·omega
       ·rcases hg3.out.blk with hb | ⟨m, hm, hm2⟩
        ·rw [hb] at he; exact hdj.out q hq he
        ·rw [hm] at he; cases he; simp at hm2; omega
      have hm3 : Own pMod 49 (w.heap.size + 1) (fun q => G q ∨ (wo.heap.size < q /\ q < w3.heap.size)) w3 (.slice A3 (k + 1) c3) (modsK r (k + 1)) := by
       have h1 := hown3.out.wideG (G' := fun q => G q ∨ (wo.heap.size < q /\ q < w3.heap.size)) fun q hq hg => hg.imp id fun h => ⟨h, hq⟩
       have h2 : modsK r (k + 1) = modsK r k ++ [⟨s.name, List.replicate s.args.length 0⟩] := by unfold modsK; rw [take_of_drop hd.out, List.map_append]; rfl
       rw [h2]; exact h1
      refine ⟨k + 1, by omega, by go_num, by omega, (hbr.out.trans (Hbo3.out.mono (Nat.le_succ _))).trans (hg4.out.bel.mono (Nat.le_succ _)), ?_, A4, c4, A3, c3, rfl, rfl, _, ?_, hm3.beside hg4.out hnot, ?_, ?_⟩
      ·exact (hblr.out.same (Hbo3.out.block _ (Nat.lt_succ_self _))).same (hg4.out.bel.block _ (Nat.lt_succ_self _))
      ·rw [formsK_succ hd.out] at hown4 ⊢; exact hown4
      ·intro q hg
       refine ⟨?_, ?_, fun he => ?_⟩
       ·rcases hg with hg | hg
        ·exact (hG.out q hg).1
        ·omega
       ·rcases hg with hg | hg
        ·have := (hG.out q hg).2.1; omega
        ·omega
       ·rcases hg4.out.blk with hb | ⟨m, hm, hm2⟩
        ·rw [hb] at he; exact (hnot q he).1 hg
        ·rw [hm] at he; cases he
         rcases hg with hg | hg
         ·have := (hG.out _ hg).2.1; omega
         ·omega
      ·intro q he
       rcases hg4.out.blk with hb | ⟨m, hm, hm2⟩
       ·rw [hb] at he; exact (hnot q he).2
       ·rw [hm] at he; cases he
        intro he2
        have := (hm3.lt _ he2).2
        omega
     case measure => simp [intOf]; omega
    ·obtain rfl : k = r.out.length := by omega
     obtain ⟨_, hsf⟩ := hof.out.sl'
     obtain ⟨hlw, hsw⟩ := how.out.sl'
     have hr4 : 0 <= r.arity /\ r.arity <= 4 := by omega
     have hfl : (formsK r r.out.length).length <= 310 := formsK_len Ha10.out hg10 ho30 _
     have hy2 : fineR r = ((formsK r r.out.length).all (fun f => formF f r.arity.toNat) && checkF (modsK r r.out.length) == 0) := by
      rw [Hyes.out, formsK_all]; unfold modsK; rw [List.take_length]
     obtain ⟨Hsf, Hsw, Hlw, Hy2⟩ := HH4 hsf hsw hlw hy2; clear hsf hsw hlw hy2
     clear hof how hG hdj z0 z1 z2 z3 z4 z5 z6 hlt
     go_wp2
     go_loopw [77] (fun i wr => ∃ k2 : Nat, k2 <= (formsK r r.out.length).length /\ i = .int .i64 k2 /\ Hid (Below wo.heap.size wo wr) /\ wo.heap.size <= wr.heap.size /\ Hid ((formsK r r.out.length).all (fun f => formF f r.arity.toNat) = ((formsK r r.out.length).drop k2).all (fun f => formF f r.arity.toNat))) (fun i _ => (formsK r r.out.length).length - (intOf i).toNat)
     case atStart => exact ⟨0, Nat.zero_le _, rfl, Below.refl _ _, Nat.le_refl _, rfl⟩
     case round =>
      obtain ⟨k2, hk2, rfl, hb2, hz2, hall⟩ := hrel
      obtain ⟨wp, rfl⟩ : ∃ wp : World, wp = wr := ⟨_, rfl⟩
      by_cases hlt : k2 < (formsK r r.out.length).length
      ·obtain ⟨b, o, As, cs, f, hd, rfl, hob, hs0, hs1, hsc, hsa, hsl⟩ := ((Hsf.out.keep fun q hq => hb2.out.block q hq.2)).getFrm hlt
       have hob' : b < wp.heap.size := by have := hob.2; omega
       have hwl : w.heap.size < wp.heap.size := by omega
       have hblp := (hblr.out.same (hb2.out.block _ hzr))
       obtain ⟨z0, z1, z2, z3, z4, z5, z6⟩ := hblp.rul
       clear z0 z2 z3 z4 z5 z6 hblp
       have hk0 : (0 : Int) <= (k2 : Int) := Int.natCast_nonneg _
       have hk1 : (k2 : Int) < ((formsK r r.out.length).length : Int) := by omega
       have hcall : ∀ W : World, Below wp.heap.size wp W -> Calls Tryd.prog 76 #[.agg #[.int .i64 f.const, .slice As f.coefs.length cs], .int .i64 r.arity] W (BoolPost (formF f r.arity.toNat) W) := fun W hW =>
        form_int As cs f r.arity W (hsa.out.keep fun q hq => hW.block q (by have := hq.2; omega)) (fun q hq => by have := hq.2; have := hW.size; omega) hsc hr4
       have hzz := hb2.out.size
       have Hcall := HH1 hcall; clear hcall
       go_wp2_with fail
       refine (Hcall.out _ ((Below.refl _ _).alloc (Nat.le_refl _) _)).mono ?_
       rintro e w5 ⟨rfl, hb5⟩
       have hbw5 : Below wp.heap.size wp w5 := ((Below.refl _ _).alloc (Nat.le_refl _) _).trans (hb5.mono (by simp))
       have hz5 := hbw5.size
       have Hbw5 := HH1 hbw5; clear hbw5
       clear hb5
       cases hfm : formF f r.arity.toNat
       ·go_wp2
        go_ret
        refine ⟨ret_bool ?_, (hbr.out.trans (hb2.out.mono (by omega))).trans (Hbw5.out.mono (by omega))⟩
        rw [Hy2.out, hall.out, hd.out, List.all_cons, hfm]; rfl
       ·go_wp2
        go_roundw
        case rel =>
         refine ⟨k2 + 1, by omega, by go_num, hb2.out.trans (Hbw5.out.mono hz2), by omega, ?_⟩
         unfold Hid; rw [hall.out, hd.out, List.all_cons, hfm]; rfl
        case measure => simp [intOf]; omega
      ·have ha : fineR r = (checkF (modsK r r.out.length) == 0) := by rw [Hy2.out, hall.out, drop_end hlt]; rfl
       have hck : Calls Tryd.prog 42 #[.slice Aw r.out.length cw] wp (CheckPost (modsK r r.out.length) wp) := by
        have := wordCheck_calls Aw cw (modsK r r.out.length) wp ((Hsw.out.keep fun q hq => hb2.out.block q hq.2).wide fun q hq => Nat.lt_of_lt_of_le hq.2 hz2)
        rwa [Hlw.out] at this
       obtain ⟨Ha, Hck⟩ := HH2 ha hck; clear ha hck
       go_wp2_with fail
       refine Hck.out.mono ?_
       rintro e w5 ⟨rfl, hb5⟩
       have hbw5 : Below w.heap.size w w5 := (hbr.out.trans (hb2.out.mono (by omega))).trans (hb5.mono (by omega))
       have Hbw5 := HH1 hbw5; clear hbw5
       clear hb5
       go_wp2
       go_ret
       exact ⟨by rw [Ha.out]; rfl, Hbw5.out⟩
end
section
open Go.RowKit
theorem openL_open {m : Mod} {ms : List Mod} {n : Nat} (h : m.name = 91) : openL n (m :: ms) = (openL (n + 1) ms).map ((((n + 1 : Nat) : Int)) :: ·) := by
 conv => lhs; unfold openL
 rw [if_pos h]
theorem openL_close {m : Mod} {ms : List Mod} {n : Nat} (h : m.name = 93) (h0 : ¬ n = 0) : openL n (m :: ms) = (openL (n - 1) ms).map (((n - 1 : Nat) : Int) :: ·) := by
 conv => lhs; unfold openL
 rw [if_neg (by omega), if_pos h, if_neg h0]
theorem openL_no {m : Mod} {ms : List Mod} {n : Nat} (h : m.name = 93) (h0 : n = 0) : openL n (m :: ms) = none := by
 conv => lhs; unfold openL
 rw [if_neg (by omega), if_pos h, if_pos h0]
theorem openL_else {m : Mod} {ms : List Mod} {n : Nat} (h : ¬ m.name = 91) (h' : ¬ m.name = 93) : openL n (m :: ms) = (openL n ms).map ((n : Int) :: ·) := by
 conv => lhs; unfold openL
 rw [if_neg h, if_neg h']
def OpenPost (ms : List Mod) (w : World) (e : Ending) (w' : World) : Prop :=
 Below w.heap.size w w' /\ ((openL 0 ms = none /\ e = .returned (.tuple #[.slice none 0 0, .bool false])) ∨
  ∃ l A c, openL 0 ms = some l /\ l.length = ms.length /\ e = .returned (.tuple #[.slice A l.length c, .bool true]) /\ SlAt (pI .i64) (fun k => w.heap.size <= k /\ k < w'.heap.size) w' A c l)
theorem openL_length : ∀ {ms : List Mod} {n : Nat} {l : List Int}, openL n ms = some l -> l.length = ms.length
 | [], n, l, h => by cases h; rfl
 | m :: ms, n, l, h => by
  unfold openL at h
  split at h
  ·obtain ⟨l', h1, rfl⟩ := Option.map_eq_some_iff.1 h
   simp [openL_length h1]
  ·split at h
   ·split at h
    ·cases h
    ·obtain ⟨l', h1, rfl⟩ := Option.map_eq_some_iff.1 h
     simp [openL_length h1]
   ·obtain ⟨l', h1, rfl⟩ := Option.map_eq_some_iff.1 h
    simp [openL_length h1]
section
theorem pushI {ops : Array Oper} {rest : List Oper} {o1 o2 : Oper} {a : Act} {Q : Exit -> Act -> World -> Prop} {w : World} {base : Nat} {G : Nat -> Prop} {v : Value} {xs : List Int} (tmp : Nat) (s xo : Operand)
  (hg1 : o1.guard = none) (hg2 : o2.guard = none) (hd1 : o1.dst = some tmp) (ho1 : o1.op = .buildSlice 47 1 #[(0, xo)])
  (ho2 : o2.op = .call { callee := .builtin .append, args := #[s, .tmp tmp], argTypes := #[47, 47] })
  (hs : ∀ u, (a.put (some tmp) u).eval s = v) (ht2 : ∀ u, (a.put (some tmp) u).eval (.tmp tmp) = u) (hown : Own (pI .i64) 3 base G w v xs)
  (n : Int) (hu : a.eval xo = .int .i64 n) (hf : Fits .i64 n) (hlen : Room xs.length) (hbase : base <= w.heap.size)
  (h : ∀ A' c' w', Hid (Own (pI .i64) 3 base G w' (.slice A' (xs.length + 1) c') (xs ++ [n])) -> Below base w w' -> Hid (∀ k, k < w.heap.size -> some k ≠ v.ownBlock -> w'.heap[k]? = w.heap[k]?) ->
   wpList Tryd.prog ops Q rest ((a.put (some tmp) (.slice (some ⟨w.heap.size, 0, none⟩) 1 1)).put o2.dst (.slice A' (xs.length + 1) c')) w') : wpList Tryd.prog ops Q (o1 :: o2 :: rest) a w :=
 wpList_push (E := pI .i64) 47 3 (.int .i64 0) 8 tmp s xo hg1 hg2 hd1 ho1 ho2 Tryd.underlying47 (by kernel_rfl) rfl (by decide) hs ht2 hown (.int .i64 n) hu n (fun _ => False) ⟨rfl, hf⟩ (fun _ hk => hk.elim) hlen ⟨by decide, by decide⟩ hbase h
end
theorem refOpen_calls (A : Option Addr) (c : Nat) (ms : List Mod) (w : World) (h : SlAt pMod (Old w) w A c ms) (hbd : ms.length <= 1000000) :
  Calls Tryd.prog 58 #[.slice A ms.length c] w (OpenPost ms w) := by
 have hmx := h.lenle
 have H := HH1 h; clear h
 go_enter Tryd.func58, Tryd.ntmps58
 go_wp2
 go_loopw [6, 5, 4] (fun i n out wr => ∃ k op : Nat, k <= ms.length /\ op <= k /\ i = .int .i64 k /\ n = .int .i64 op /\ Hid (Below w.heap.size w wr) /\ w.heap.size <= wr.heap.size /\ ∃ done : List Int, Hid (done.length = k) /\
  Hid (Own (pI .i64) 3 w.heap.size (w.heap.size <= ·) wr out done) /\ Hid (openL 0 ms = (openL op (ms.drop k)).map (done ++ ·))) (fun i _ _ _ => ms.length - (intOf i).toNat)
 case atStart => exact ⟨0, 0, Nat.zero_le _, Nat.le_refl _, rfl, rfl, Below.refl _ _, Nat.le_refl _, [], rfl, Own.nil, by unfold Hid; simp⟩
 case round =>
  obtain ⟨k, op, hk, hop, rfl, rfl, hb, hsz, done, hdl, hown, hgo⟩ := hrel
  obtain ⟨wo, rfl⟩ : ∃ wo : World, wo = wr := ⟨_, rfl⟩
  obtain ⟨out, rfl⟩ : ∃ out, out = u4 := ⟨_, rfl⟩
  by_cases hlt : k < ms.length
  ·obtain ⟨b, o, A', c', m, hd, rfl, hob, hc0, hc1, hf8, hargs, hl⟩ := (H.out.below hb.out).getMod hlt
   have hpush : ∀ (v : Nat) (w2 : World) (A2 : Option Addr) (c2 : Nat), Own (pI .i64) 3 w.heap.size (w.heap.size <= ·) w2 (.slice A2 (done.length + 1) c2) (done ++ [(v : Int)]) -> Below w.heap.size wo w2 -> Hid (openL 0 ms = ((openL v (ms.drop (k + 1))).map ((v : Int) :: ·)).map (done ++ ·)) ->
     Hid (Below w.heap.size w w2) /\ w.heap.size <= w2.heap.size /\ Hid ((done ++ [(v : Int)]).length = k + 1) /\ Hid (Own (pI .i64) 3 w.heap.size (w.heap.size <= ·) w2 (.slice A2 (done.length + 1) c2) (done ++ [(v : Int)])) /\ Hid (openL 0 ms = (openL v (ms.drop (k + 1))).map ((done ++ [(v : Int)]) ++ ·)) := by
    intro v w2 A2 c2 h1 h2 h3
    refine ⟨hb.out.trans h2, (hb.out.trans h2).size, by unfold Hid; simp [hdl.out], h1, ?_⟩
    unfold Hid; rw [h3.out, Option.map_map]; congr 1; funext l; simp
   have Hpush := HH1 hpush; clear hpush
   have hd12 : done.length <= 1000000 := by rw [hdl.out]; omega
   by_cases h91 : m.name = 91
   ·have e0 : (m.name == 91) = true := by simp [h91]
    have e1 : (m.name == 93) = false := by simp [h91]
    have hg2 : Hid (openL 0 ms = ((openL (op + 1) (ms.drop (k + 1))).map (((op + 1 : Nat) : Int) :: ·)).map (done ++ ·)) := by
     unfold Hid; rw [hgo.out, hd.out, openL_open h91]
    clear h91
    have hfit : Hid (Fits .i64 ((op : Int) + 1)) := fits_i64 (by omega)
    have e2 : decide ((op : Int) + 1 < 0) = false := by simp; omega
    go_wp2_with ((with_reducible show wpList _ _ _ (Oper.mk (some 33) _ _ _ _ _ :: _) _ _); refine pushI 33 (.tmp 31) (.tmp 32) rfl rfl rfl rfl rfl (fun _ => rfl) (fun _ => rfl) hown.out ((op : Int) + 1) rfl hfit.out (room_of hd12) hsz ?_; intro A2 c2 w2 Hown2 hb2 hk2)
    obtain ⟨p1, p2, p3, p4, p5⟩ := Hpush.out (op + 1) w2 A2 c2 Hown2.out hb2 hg2
    go_roundw
    case rel => exact ⟨k + 1, op + 1, by omega, by omega, by go_num, by go_num, p1, p2, _, p3, p4, p5⟩
    case measure => simp [intOf]; omega
   ·have e0 : (m.name == 91) = false := by simp [h91]
    by_cases h93 : m.name = 93
    ·have e1 : (m.name == 93) = true := by simp [h93]
     by_cases h0 : op = 0
     ·have hno : openL 0 ms = none := by rw [hgo.out, hd.out, openL_no h93 h0]; rfl
      have Hno := HH1 hno
      subst h0
      clear h91 h93 hno
      go_wp2
      go_ret2
      exact ⟨hb.out, .inl ⟨Hno.out, rfl⟩⟩
     ·have hg2 : Hid (openL 0 ms = ((openL (op - 1) (ms.drop (k + 1))).map (((op - 1 : Nat) : Int) :: ·)).map (done ++ ·)) := by
       unfold Hid; rw [hgo.out, hd.out, openL_close h93 h0]
      have hop1 : (1 : Int) <= (op : Int) := by omega
      have hfit : Hid (Fits .i64 ((op : Int) - 1)) := fits_i64 (by omega)
      clear h91 h93 h0
      go_wp2_with ((with_reducible show wpList _ _ _ (Oper.mk (some 33) _ _ _ _ _ :: _) _ _); refine pushI 33 (.tmp 31) (.tmp 32) rfl rfl rfl rfl rfl (fun _ => rfl) (fun _ => rfl) hown.out ((op : Int) - 1) rfl hfit.out (room_of hd12) hsz ?_; intro A2 c2 w2 Hown2 hb2 hk2)
      rw [show ((op : Int) - 1) = ((op - 1 : Nat) : Int) from by omega] at Hown2
      obtain ⟨p1, p2, p3, p4, p5⟩ := Hpush.out (op - 1) w2 A2 c2 Hown2.out hb2 hg2
      go_roundw
      case rel => exact ⟨k + 1, op - 1, by omega, by omega, by go_num, by congr 1; omega, p1, p2, _, p3, p4, p5⟩
      case measure => simp [intOf]; omega
    ·have e1 : (m.name == 93) = false := by simp [h93]
     have hg2 : Hid (openL 0 ms = ((openL op (ms.drop (k + 1))).map ((op : Int) :: ·)).map (done ++ ·)) := by
      unfold Hid; rw [hgo.out, hd.out, openL_else h91 h93]
     have hfit : Hid (Fits .i64 (op : Int)) := fits_i64 (by omega)
     clear h91 h93
     go_wp2_with ((with_reducible show wpList _ _ _ (Oper.mk (some 33) _ _ _ _ _ :: _) _ _); refine pushI 33 (.tmp 31) (.tmp 32) rfl rfl rfl rfl rfl (fun _ => rfl) (fun _ => rfl) hown.out (op : Int) rfl hfit.out (room_of hd12) hsz ?_; intro A2 c2 w2 Hown2 hb2 hk2)
     obtain ⟨p1, p2, p3, p4, p5⟩ := Hpush.out op w2 A2 c2 Hown2.out hb2 hg2
     go_roundw
     case rel => exact ⟨k + 1, op, by omega, by omega, by go_num, rfl, p1, p2, _, p3, p4, p5⟩
     case measure => simp [intOf]; omega
  ·have hs : openL 0 ms = some done := by rw [hgo.out, drop_end hlt]; simp [openL]
   have Hs := HH1 hs; clear hs
   obtain ⟨A2, c2, hv2, hs2⟩ := hown.out.fresh
   subst hv2
   have Hs2 := HH1 hs2; clear hs2
   go_wp2
   go_ret2
   exact ⟨hb.out, .inr ⟨done, A2, c2, Hs.out, openL_length Hs.out, rfl, Hs2.out⟩⟩
end
section
open Go.RowKit
theorem checkF_open {ms : List Mod} (h1 : ¬ 2000 < ms.length) (h2 : ms.all fineF = true) : checkF ms = match openL 0 ms with
  | none => 28
  | some l => if 0 < l.getLast?.getD 0 then 28 else 0 := by
 unfold checkF
 rw [if_neg h1, if_neg (by rw [h2]; decide)]
 have := scan_openL ms 0
 cases hs : scan 0 ms with
 | none =>
  rw [hs] at this
  cases ho : openL 0 ms with
  | none => rfl
  | some l => rw [ho] at this; cases this
 | some n =>
  rw [hs] at this
  cases ho : openL 0 ms with
  | none => rw [ho] at this; cases this
  | some l =>
   rw [ho] at this
   simp only [Option.map_some, Option.some.injEq] at this
   have h3 : l.getLast?.getD 0 = (n : Int) := this.symm
   simp only [h3]
   by_cases h0 : 0 < n
   ·rw [if_pos h0, if_pos (by omega)]
   ·rw [if_neg h0, if_neg (by omega)]
theorem refCheck_calls (A : Option Addr) (c : Nat) (ms : List Mod) (w : World) (h : SlAt pMod (Old w) w A c ms) :
  Calls Tryd.prog 38 #[.slice A ms.length c] w (CheckPost ms w) := by
 have hmx := h.lenle
 have H := HH1 h; clear h
 by_cases hbig : 2000 < ms.length
 ·go_enter Tryd.func38, Tryd.ntmps38
  go_wp2
  go_ret
  exact ⟨ret_int (by unfold checkF; rw [if_pos hbig]), Below.refl _ _⟩
 ·have Hbig := HH1 hbig; clear hbig
  have hle : ms.length <= 2000 := by have := Hbig.out; omega
  go_enter Tryd.func38, Tryd.ntmps38
  go_wp2
  go_loopw [3] (fun i wr => ∃ k : Nat, k <= ms.length /\ i = .int .i64 k /\ Hid (Below w.heap.size w wr) /\ w.heap.size <= wr.heap.size /\ Hid (ms.all fineF = (ms.drop k).all fineF)) (fun i _ => ms.length - (intOf i).toNat)
  case atStart => exact ⟨0, Nat.zero_le _, rfl, Below.refl _ _, Nat.le_refl _, rfl⟩
  case round =>
   obtain ⟨k, hk, rfl, hb, hsz, hall⟩ := hrel
   obtain ⟨wo, rfl⟩ : ∃ wo : World, wo = wr := ⟨_, rfl⟩
   by_cases hlt : k < ms.length
   ·obtain ⟨b, o, A', c', m, hd, rfl, hob, hc0, hc1, hf8, hargs, hl⟩ := (H.out.below hb.out).getMod hlt
    have hob' : b < wo.heap.size := Nat.lt_of_lt_of_le hob hsz
    have hcall : Calls Tryd.prog 32 #[.agg #[.int .u8 m.name, .slice A' m.args.length c']] wo (FinePost m wo) :=
     refFine_calls A' c' m wo hargs.out (fun q hq => Nat.lt_of_lt_of_le hq hsz)
    have Hcall := HH1 hcall; clear hcall
    go_wp2_with fail
    refine Hcall.out.mono ?_
    rintro e w1 ⟨rfl, hb1⟩
    have hbw : Below w.heap.size w w1 := hb.out.trans (hb1.mono hsz)
    have Hbw := HH1 hbw; clear hbw hb1
    cases hfm : fineF m
    ·go_wp2
     go_ret
     refine ⟨ret_int ?_, Hbw.out⟩
     unfold checkF
     rw [if_neg Hbig.out, if_pos]
     rw [hall.out, hd.out, List.all_cons, hfm]; rfl
    ·go_wp2
     go_roundw
     case rel =>
      refine ⟨k + 1, by omega, by go_num, Hbw, Hbw.out.size, ?_⟩
      unfold Hid; rw [hall.out, hd.out, List.all_cons, hfm]; rfl
     case measure => simp [intOf]; omega
   ·have hok : ms.all fineF = true := by rw [hall.out, drop_end hlt]; rfl
    have Hck := HH1 (checkF_open Hbig.out hok)
    clear hok
    have hop := refOpen_calls A c ms wo (((H.out.below hb.out)).wide fun q hq => Nat.lt_of_lt_of_le hq hsz) (by omega)
    have Hop := HH1 hop; clear hop
    go_wp2_with fail
    refine Hop.out.mono ?_
    rintro e w1 ⟨hb1, ⟨hn, rfl⟩ | ⟨l, A1, c1, hsome, hll, rfl, hsl⟩⟩
    ·have hbw : Below w.heap.size w w1 := hb.out.trans (hb1.mono hsz)
     have Hbw := HH1 hbw; clear hbw hb1
     have Hn := HH1 hn; clear hn
     go_wp2
     go_ret
     exact ⟨ret_int (by rw [Hck.out, Hn.out]), Hbw.out⟩
    ·have hbw : Below w.heap.size w w1 := hb.out.trans (hb1.mono hsz)
     have Hbw := HH1 hbw; clear hbw hb1
     obtain ⟨Hn, Hll, Hsl⟩ := HH3 hsome hll hsl; clear hsome hll hsl
     have hlx : l.length <= 2000 := by rw [Hll.out]; exact hle
     by_cases hl0 : l = []
     ·subst hl0
      go_wp2
      go_ret
      exact ⟨ret_int (by rw [Hck.out, Hn.out]; rfl), Hbw.out⟩
     ·have hpos : 0 < l.length := List.length_pos_iff.2 hl0
      obtain ⟨b, o, x, hd, rfl, _, hcx, _⟩ := Hsl.out.getI (i := l.length - 1) (by omega)
      have hlast : l.getLast?.getD 0 = x := by
       rw [List.getLast?_eq_getElem?, get_of_drop hd.out]; rfl
      have Hlast := HH1 hlast; clear hlast
      have hposI : decide ((0 : Int) < (l.length : Int)) = true := by simpa using hpos
      have hidx : ((l.length : Int) - 1).toNat = l.length - 1 := by omega
      clear hl0
      by_cases hx : 0 < x
      ·go_wp2
       go_ret
       exact ⟨ret_int (by rw [Hck.out, Hn.out]; simp only [Hlast.out]; rw [if_pos hx]), Hbw.out⟩
      ·go_wp2
       go_ret
       exact ⟨ret_int (by rw [Hck.out, Hn.out]; simp only [Hlast.out]; rw [if_neg (by omega)]), Hbw.out⟩
def greatF (ms : List Mod) : Bool := decide (2100 < ms.length) || ms.any (fun m => decide (10 < m.args.length))
theorem great_calls {F : Nat -> Prop} (A : Option Addr) (c : Nat) (ms : List Mod) (w : World) (h : SlAt pMod F w A c ms) :
  Calls Tryd.prog 12 #[.slice A ms.length c] w fun e w' => e = .returned (.bool (greatF ms)) /\ w = w' := by
 have hmx := h.lenle
 have H := HH1 h; clear h
 by_cases hbig : 2100 < ms.length
 ·go_enter Tryd.func12, Tryd.ntmps12
  go_wp2
  go_ret
  exact ⟨ret_bool (by unfold greatF; simp [hbig]), rfl⟩
 ·have Hbig := HH1 (show decide (2100 < ms.length) = false by simpa using hbig)
  go_enter Tryd.func12, Tryd.ntmps12
  go_wp2
  go_loop [3] (fun i => ∃ k : Nat, k <= ms.length /\ i = .int .i64 k /\ Hid (ms.any (fun m => decide (10 < m.args.length)) = (ms.drop k).any (fun m => decide (10 < m.args.length)))) (fun i => ms.length - (intOf i).toNat)
  case atStart => exact ⟨0, Nat.zero_le _, rfl, rfl⟩
  case round =>
   obtain ⟨k, hk, rfl, hall⟩ := hrel
   by_cases hlt : k < ms.length
   ·obtain ⟨b, o, A', c', m, hd, rfl, hob, hc0, hc1, hf8, hargs, hl⟩ := H.out.getMod hlt
    by_cases h10 : 10 < m.args.length
    ·go_wp2
     go_ret
     refine ⟨ret_bool ?_, rfl⟩
     unfold greatF; rw [Hbig.out, hall.out, hd.out, List.any_cons]; simp [h10]
    ·go_wp2
     go_round
     case rel =>
      refine ⟨k + 1, by omega, by go_num, ?_⟩
      unfold Hid; rw [hall.out, hd.out, List.any_cons]; simp [h10]
     case measure => simp [intOf]; omega
   ·go_wp2
    go_ret
    refine ⟨ret_bool ?_, rfl⟩
    unfold greatF; rw [Hbig.out, hall.out, drop_end hlt]; rfl
end
section
open Go.RowKit
theorem str_len (s : ByteArray) : s.data.toList.length = s.size := Array.length_toList
theorem str_empty {s : ByteArray} (h : s.size = 0) : s.toList.isEmpty = true := by
 rw [ByteArray.toList_eq]
 have : s.data.toList.length = 0 := by rw [str_len]; exact h
 rw [List.eq_nil_of_length_eq_zero this]; rfl
theorem str_some {s : ByteArray} (h : s.size ≠ 0) : s.toList.isEmpty = false := by
 rw [ByteArray.toList_eq]
 have : s.data.toList.length ≠ 0 := by rw [str_len]; exact h
 cases hl : s.data.toList with
 | nil => rw [hl] at this; exact absurd rfl this
 | cons a t => rfl
theorem pathF_empty {s : ByteArray} (h : s.size = 0) : pathF s = false := by unfold pathF; simp [h]
theorem pathF_long {s : ByteArray} (h : 200 < s.size) : pathF s = false := by unfold pathF; simp; omega
theorem pathF_all {s : ByteArray} (h0 : s.size ≠ 0) (h : ¬ 200 < s.size) : pathF s = s.data.toList.all pathB := by
 unfold pathF
 rw [show decide (1 <= s.size) = true from by simp; omega, show decide (s.size <= 200) = true from by simp; omega]; rfl
theorem trim_calls (s : ByteArray) (w : World) (hs : s.size <= 9223372036854775807) : Calls Tryd.prog 67 #[.string s, .string ⟨#[47, 48, 49, 50, 51, 52, 53, 54, 55, 56, 57]⟩] w fun e w' =>
  (∃ t : ByteArray, e = .returned (.string t) /\ Hid (t.toList.isEmpty = s.data.toList.all pathB)) /\ Below w.heap.size w w' := by
 refine (Any.strings_Trim_laid Tryd.lays160 (by kernel_rfl) s ⟨#[47, 48, 49, 50, 51, 52, 53, 54, 55, 56, 57]⟩ w hs (by decide) (ascii_of_all (by decide))).mono ?_
 rintro e w' ⟨rfl, hb⟩
 refine ⟨⟨_, rfl, ?_⟩, hb⟩
 unfold Hid
 rw [ByteArray.toList_eq]
 have hall : (s.data.toList.all fun b => ([47, 48, 49, 50, 51, 52, 53, 54, 55, 56, 57] : List UInt8).contains b) = s.data.toList.all pathB := by
  congr 1; funext b; exact pathB_contains b
 rw [<- hall]
 have h := trim_nil s.data.toList [47, 48, 49, 50, 51, 52, 53, 54, 55, 56, 57]
 show (Lib.trimS s.data.toList [47, 48, 49, 50, 51, 52, 53, 54, 55, 56, 57]).toArray.toList.isEmpty = _
 rw [List.toList_toArray, Bool.eq_iff_iff, List.isEmpty_iff]
 exact h
theorem path_calls (s : ByteArray) (w : World) (hs : s.size <= 9223372036854775807) : Calls Tryd.prog 52 #[.string s] w (BoolPost (pathF s) w) := by
 by_cases h0 : s.size = 0
 ·have e0 := str_empty h0
  have hf := pathF_empty h0
  have Hf := HH1 hf; clear hf
  clear h0
  go_enter Tryd.func52, Tryd.ntmps52
  go_wp2
  go_ret
  exact ⟨ret_bool Hf.out.symm, Below.refl _ _⟩
 ·have e0 := str_some h0
  by_cases h1 : 200 < s.size
  ·have hf := pathF_long h1
   have Hf := HH1 hf; clear hf
   clear h0
   go_enter Tryd.func52, Tryd.ntmps52
   go_wp2
   go_ret
   exact ⟨ret_bool Hf.out.symm, Below.refl _ _⟩
  ·have hf := pathF_all h0 h1
   have ht := trim_calls s w hs
   obtain ⟨Hf, Ht⟩ := HH2 hf ht; clear hf ht
   clear h0
   go_enter Tryd.func52, Tryd.ntmps52
   go_wp2_with fail
   refine Ht.out.mono ?_
   rintro e w' ⟨⟨t, rfl, hte⟩, hb⟩
   have hq : t.toList.isEmpty = pathF s := by rw [hte.out, Hf.out]
   have Hb := HH1 hb; clear hb
   clear hte Hf
   cases hp : pathF s
   all_goals
    rw [hp] at hq
    go_wp2
    go_ret
    exact ⟨ret_bool (by simp [hp]), Hb.out⟩
theorem refPath_calls (s : ByteArray) (w : World) (hs : s.size <= 9223372036854775807) : Calls Tryd.prog 31 #[.string s] w fun e w' => e = .returned (.bool (pathF s)) /\ w = w' := by
 go_enter Tryd.func31, Tryd.ntmps31
 go_wp2
 go_loop [3] (fun i => ∃ k : Nat, k <= s.size /\ i = .int .i64 k /\ Hid (s.data.toList.all pathB = (s.data.toList.drop k).all pathB)) (fun i => s.size - (intOf i).toNat)
 case atStart => exact ⟨0, Nat.zero_le _, rfl, rfl⟩
 case round =>
  obtain ⟨k, hk, rfl, hall⟩ := hrel
  by_cases hlt : k < s.size
  ·have hd : s.data.toList.drop k = s[k]'hlt :: s.data.toList.drop (k + 1) := by
    rw [List.drop_eq_getElem_cons (by rw [str_len]; exact hlt)]; rfl
   have hcs : (pathB (s[k]'hlt) = false /\ pathF s = false /\ (((s[k]'hlt).toNat : Int) ≠ 47 /\ (((s[k]'hlt).toNat : Int) < 48 ∨ (¬ ((s[k]'hlt).toNat : Int) < 48 /\ 57 < ((s[k]'hlt).toNat : Int))))) ∨ (pathB (s[k]'hlt) = true /\ (((s[k]'hlt).toNat : Int) = 47 ∨ (((s[k]'hlt).toNat : Int) ≠ 47 /\ ¬ ((s[k]'hlt).toNat : Int) < 48 /\ ¬ 57 < ((s[k]'hlt).toNat : Int)))) := by
    cases hpb : pathB (s[k]'hlt)
    ·refine .inl ⟨rfl, ?_, ?_⟩
     ·unfold pathF; rw [hall.out, hd, List.all_cons, hpb]; simp
     ·unfold pathB at hpb
      have h47 : s[k]'hlt ≠ 47 := by intro h; rw [h] at hpb; simp at hpb
      have h47' : (s[k]'hlt).toNat ≠ 47 := fun h => h47 (UInt8.toNat_inj.1 h)
      simp at hpb
      omega
    ·refine .inr ⟨rfl, ?_⟩
     unfold pathB at hpb
     by_cases h47 : s[k]'hlt = 47
     ·left; rw [h47]; rfl
     ·have h47' : (s[k]'hlt).toNat ≠ 47 := fun h => h47 (UInt8.toNat_inj.1 h)
      simp [h47] at hpb
      omega
   rcases hcs with ⟨hb, hf, h1, h2⟩ | ⟨hb, h2⟩
   ·obtain ⟨Hf, Hb, Hd⟩ := HH3 hf hb hd; clear hf hb hd
    clear hall
    rcases h2 with h2 | ⟨h2, h3⟩
    all_goals
     go_wp2
     go_ret
     exact ⟨ret_bool Hf.out.symm, rfl⟩
   ·have hn : Hid (s.data.toList.all pathB = (s.data.toList.drop (k + 1)).all pathB) := by
     unfold Hid; rw [hall.out, hd, List.all_cons, hb]; rfl
    clear hall
    obtain ⟨Hb, Hd⟩ := HH2 hb hd; clear hb hd
    rcases h2 with h2 | ⟨h1, h2, h3⟩
    all_goals
     go_wp2
     go_round
     case rel => exact ⟨k + 1, by omega, by go_num, hn⟩
     case measure => simp [intOf]; omega
  ·have hy : pathF s = (decide (1 <= s.size) && decide (s.size <= 200)) := by
    unfold pathF; rw [hall.out, List.drop_eq_nil_of_le (by rw [str_len]; omega)]; simp
   have Hy := HH1 hy; clear hy
   clear hall
   by_cases h0 : s.size < 1
   ·go_wp2
    go_ret
    exact ⟨ret_bool (by rw [Hy.out]; first | (simp; omega) | (simp [h0, h1]; done) | (rw [Bool.eq_iff_iff]; simp; omega)), rfl⟩
   ·by_cases h1 : 200 < s.size
    ·go_wp2
     go_ret
     exact ⟨ret_bool (by rw [Hy.out]; first | (simp; omega) | (simp [h0, h1]; done) | (rw [Bool.eq_iff_iff]; simp; omega)), rfl⟩
    ·go_wp2
     go_ret
     exact ⟨ret_bool (by rw [Hy.out]; first | (simp; omega) | (simp [h0, h1]; done) | (rw [Bool.eq_iff_iff]; simp; omega)), rfl⟩
end
section
open Go.RowKit
theorem info_mod : (Tryd.prog.info? 49).map (fun i => (i.zero, i.size, i.bytes)) = some (some (.agg #[.int .u8 0, .slice none 0 0]), 2, 32) := by kernel_rfl
def TwinAt (w0 : World) (g : Nat) (ms : List Mod) (k : Nat) (w : World) (C : Array Value) : Prop :=
 ∀ i m, ms[i]? = some m -> ∃ A' c', C[i * 2]? = some (.int .u8 m.name) /\ C[i * 2 + 1]? = some (.slice A' m.args.length c') /\ Fits .u8 m.name /\
  ((i < k /\ SlAt (pI .i64) (fun q => g < q /\ q < w.heap.size) w A' c' m.args /\ (m.args ≠ [] -> ∀ b o, A' = some ⟨b, o, none⟩ -> Unf w b)) ∨ (k <= i /\ SlAt (pI .i64) (Old w0) w A' c' m.args))
def TwinPost (ms : List Mod) (w : World) (e : Ending) (w' : World) : Prop :=
 ∃ A c, e = .returned (.slice A ms.length c) /\ Own pModF 49 w.heap.size (w.heap.size <= ·) w' (.slice A ms.length c) ms /\ Below w.heap.size w w'
theorem twinAt_own {w0 w : World} {g : Nat} {ms : List Mod} {C : Array Value} (hb : Blk w g 49 C) (hC : C.size = ms.length * 2) (hg : w0.heap.size <= g) (hm : ms.length <= maxLen) (h : TwinAt w0 g ms ms.length w C) :
  Own pModF 49 w0.heap.size (w0.heap.size <= ·) w (.slice (some ⟨g, 0, none⟩) ms.length ms.length) ms := by
 refine ⟨C.toList, ⟨by simpa [pModF] using hC, .inr ⟨g, ms.length, C, rfl, hg, hb, Nat.le_refl _, hm, by simpa [pModF] using hC, ?_⟩⟩, ?_⟩
 ·exact List.take_of_length_le (by simp [pModF]; omega)
 ·refine cellsAre_idx (by simpa [pModF] using hC) fun i m hi => ?_
  obtain ⟨A', c', h1, h2, h3, h4⟩ := h i m hi
  have hlt : i < ms.length := (List.getElem?_eq_some_iff.1 hi).1
  rcases h4 with ⟨_, h5, h6⟩ | ⟨h5, _⟩
  ·refine ⟨[.int .u8 m.name, .slice A' m.args.length c'], ⟨A', c', rfl, h3, h5.wide fun q hq => ⟨by omega, hq.2, fun he => ?_⟩, h6⟩, fun j c hc => ?_⟩
   ·simp [Value.ownBlock] at he; omega
   ·match j, hc with
    | 0, hc => simp at hc; subst hc; simpa [pModF] using h1
    | 1, hc => simp at hc; subst hc; simpa [pModF] using h2
  ·omega
theorem info_int2 : (Tryd.prog.info? 3).map (fun i => (i.zero, i.size, i.bytes)) = some (some (.int .i64 0), 1, 8) := by kernel_rfl
theorem twin_calls (A : Option Addr) (c : Nat) (ms : List Mod) (w : World) (h : SlAt pMod (Old w) w A c ms) (hbd : ms.length <= 10000) (hbd2 : ∀ m ∈ ms, m.args.length <= 1000) :
  Calls Tryd.prog 43 #[.slice A ms.length c] w (TwinPost ms w) := by
 have hmx := h.lenle
 obtain ⟨H, Hbd2⟩ := HH2 h hbd2; clear h hbd2
 have hmk := fun (wx : World) => run_make_rowN (P := Tryd.prog) (t := 23) (e := 49) Tryd.underlying23 info_mod ms.length (by omega) (by omega) wx
 have hcell : ∀ q, Old w q -> (w.alloc (.cells (madeCells (Value.agg #[.int .u8 0, .slice none 0 0]).cells (ms.length * 2)) 49)).heap[q]? = w.heap[q]? := fun q hq => Below.heap_alloc _ _ _ hq
 have H1 := HH1 (H.out.keep hcell)
 clear hcell
 go_enter Tryd.func43, Tryd.ntmps43
 go_wp2_with ((with_reducible show wpList _ _ _ (Oper.mk (some 10) _ _ _ _ _ :: _) _ _); refine wpList_copyAll (E := pMod) 23 49 (.tmp 8) (.tmp 9) rfl rfl Tryd.underlying23 (by kernel_rfl) ms.length w.heap.size 49 _ rfl (Blk.new _ _ _) (size_madeCells _ _) A c ms rfl rfl (Old w) H1.out (fun q hq => Nat.ne_of_lt hq) w.heap.size w ((Below.refl _ _).alloc (Nat.le_refl _) _) (Nat.le_refl _) ?_; intro w1 cells hblk hcells hb1 hk1 hsz1)
 have hsz1' : w.heap.size < w1.heap.size := by rw [hsz1]; simp
 have hC1 : TwinAt w w.heap.size ms 0 w1 cells.toArray /\ cells.toArray.size = ms.length * 2 := by
  refine ⟨fun i m hi => ?_, by simpa [pMod] using hcells.out.length⟩
  obtain ⟨cs, ⟨A', c', rfl, h3, h4⟩, h5⟩ := hcells.out.get hi
  exact ⟨A', c', by simpa [pMod] using h5 0 _ rfl, by simpa [pMod] using h5 1 _ rfl, h3, .inr ⟨Nat.zero_le _, h4⟩⟩
 have HC1 := HH1 hC1; clear hC1 hmk hk1
 go_loopw [13] (fun i wr => ∃ k : Nat, k <= ms.length /\ i = .int .i64 k /\ Hid (Below w.heap.size w wr) /\ w.heap.size < wr.heap.size /\ ∃ C : Array Value, Hid (Blk wr w.heap.size 49 C) /\ Hid (TwinAt w w.heap.size ms k wr C /\ C.size = ms.length * 2)) (fun i _ => ms.length - (intOf i).toNat)
 case atStart => exact ⟨0, Nat.zero_le _, rfl, hb1, hsz1', _, hblk, HC1⟩
 case round =>
  obtain ⟨k, hk, rfl, hb, hsz, C, hblk2, hC⟩ := hrel
  obtain ⟨wo, rfl⟩ : ∃ wo : World, wo = wr := ⟨_, rfl⟩
  clear hblk hcells hb1 HC1 hsz1 hsz1'
  by_cases hlt : k < ms.length
  ·obtain ⟨A', c', h0, h1, hf8, harr⟩ := hC.out.1 k ms[k] (List.getElem?_eq_getElem hlt)
   have hold : SlAt (pI .i64) (Old w) wo A' c' ms[k].args := by
    rcases harr with ⟨h, _⟩ | ⟨_, h⟩
    ·omega
    ·exact h
   have hal : ms[k].args.length <= 1000 := Hbd2.out _ (List.getElem_mem hlt)
   clear harr
   obtain ⟨m, hm⟩ : ∃ m, m = ms[k] := ⟨_, rfl⟩
   rw [<- hm] at h0 h1 hf8 hold hal
   have Hm := HH1 (show ms[k]? = some m by rw [hm]; exact List.getElem?_eq_getElem hlt)
   clear hm
   have hc1 := (hblk2.out.cell (k * 2 + 1)).trans h1
   have hfz := hblk2.out.free (k * 2 + 1)
   obtain ⟨Hold, H0, H1'⟩ := HH3 hold h0 h1; clear hold h0 h1
   have hnil : Own (pI .i64) 3 wo.heap.size (fun _ => True) wo (.slice none 0 0) [] := Own.nil
   have Hnil := HH1 hnil; clear hnil
   go_wp2_with (at_builtin; refine wpList_cat (E := pI .i64) (xs := []) (v := .slice none 0 0) (base := wo.heap.size) (G := fun _ => True) 47 3 (.int .i64 0) 8 _ (.tmp 22) rfl rfl Tryd.underlying47 info_int2 rfl (by decide) rfl Hnil.out A' c' m.args rfl (Old w) Hold.out ?a2 m.args.length rfl (room_of ?a3) (by decide) (Nat.le_refl _) ?_; rotate_right; intro A1 c1 w2 hown1 hb2 hk2; have Hown1 := HH1 hown1; have Hk2 := HH1 hk2; clear hown1 hk2; have hfz2 := (Below.frozen hb2 (p := ⟨w.heap.size, k * 2 + 1, none⟩) hsz).trans hfz; have hc2 := (Below.cell hb2 (p := ⟨w.heap.size, k * 2 + 1, none⟩) hsz).trans hc1; have Hb2 := HH1 hb2; have hsz2 := hb2.size; clear hb2)
   case a2 => intro q hq; exact ⟨trivial, Nat.lt_trans hq hsz, by simp [Value.ownBlock]⟩
   case a3 => omega
   go_roundw
   case rel =>
    have hW : ∀ q, q ≠ w.heap.size -> q < wo.heap.size -> (w2.setCell ⟨w.heap.size, k * 2 + 1, none⟩ (.slice A1 m.args.length c1)).heap[q]? = wo.heap[q]? := fun q hq hlt' => by
     rw [Below.heap_setCell _ _ _ _ hq, Hb2.out.block q hlt']
    have hW2 : ∀ q, q ≠ w.heap.size -> (w2.setCell ⟨w.heap.size, k * 2 + 1, none⟩ (.slice A1 m.args.length c1)).heap[q]? = w2.heap[q]? := fun q hq => Below.heap_setCell _ _ _ _ hq
    have hbW : Below w.heap.size w (w2.setCell ⟨w.heap.size, k * 2 + 1, none⟩ (.slice A1 m.args.length c1)) := (hb.out.trans (Hb2.out.mono (Nat.le_of_lt hsz))).setCell (Nat.le_refl _) _
    have hszW : (w2.setCell ⟨w.heap.size, k * 2 + 1, none⟩ (.slice A1 m.args.length c1)).heap.size = w2.heap.size := by simp [World.setCell]
    have hB2 : Blk w2 w.heap.size 49 C := hblk2.out.same (Hb2.out.block _ hsz)
    refine ⟨k + 1, by omega, by go_num, hbW, by rw [hszW]; omega, _, hB2.set (k * 2 + 1) (.slice A1 m.args.length c1), fun i m' hi => ?_, by simpa using hC.out.2⟩
    by_cases hik : i = k
    ·subst hik
     rw [Hm.out] at hi
     cases hi
     have hCs : i * 2 + 1 < C.size := (Array.getElem?_eq_some_iff.1 H1'.out).1
     refine ⟨A1, c1, ?_, ?_, hf8, .inl ⟨Nat.lt_succ_self _, ?_, ?_⟩⟩
     ·rw [Array.getElem?_setIfInBounds_ne (by omega)]; exact H0.out
     ·rw [Array.getElem?_setIfInBounds_self_of_lt hCs]
     ·obtain ⟨A3, c3, h3, h4⟩ := (Hown1.out.flat (pI_flat _) (G' := (wo.heap.size <= ·))).fresh
      cases h3
      exact (h4.wide fun q hq => ⟨by omega, by rw [hszW]; exact hq.2⟩).keep fun q hq => hW2 q (by omega)
     ·intro hne b o hA
      subst hA
      refine unf_same (own_unf Hown1.out) (hW2 b ?_)
      have := Hown1.out.lt b rfl
      omega
    ·obtain ⟨A2, c2, g0, g1, g2, g3⟩ := hC.out.1 i m' hi
     refine ⟨A2, c2, ?_, ?_, g2, ?_⟩
     ·rw [Array.getElem?_setIfInBounds_ne (by omega)]; exact g0
     ·rw [Array.getElem?_setIfInBounds_ne (by omega)]; exact g1
     ·rcases g3 with ⟨g3, g4, g5⟩ | ⟨g3, g4⟩
      ·refine .inl ⟨by omega, (g4.keep fun q hq => hW q (by omega) hq.2).wide fun q hq => ⟨hq.1, by rw [hszW]; omega⟩, fun hne b o hA => ?_⟩
       obtain ⟨b', o', _, _, hA', hFq, _⟩ := g4.getI (i := 0) (List.length_pos_iff.2 hne)
       rw [hA] at hA'; cases hA'
       exact unf_same (g5 hne b o hA) (hW b (by omega) hFq.2)
      ·exact .inr ⟨by omega, g4.keep fun q hq => hW q (Nat.ne_of_lt hq) (Nat.lt_trans hq hsz)⟩
   case measure => simp [intOf]; omega
  ·obtain rfl : k = ms.length := by omega
   go_wp2
   go_ret
   exact ⟨_, _, rfl, twinAt_own hblk2.out hC.out.2 (Nat.le_refl _) (by unfold maxLen; omega) hC.out.1, hb.out⟩
end
section
open Go.RowKit
section
variable {P : Program}
theorem wpList_storeAtH {ops : Array Oper} {rest : List Oper} {o : Oper} {a : Act} {Q : Exit -> Act -> World -> Prop} {w : World} {g : Nat} {t : TypeId} (ty : TypeId) (p x : Operand) (off : Nat) (old cells row : Array Value) (hgd : o.guard = none) (ho : o.op = .store ty p x) (hp : a.eval p = .pointer (some ⟨g, off, none⟩)) (hx : a.eval x = .agg cells)
  (hg : Blk w g t old) (hi : (P.info? ty).map (·.size) = some cells.size) (hs : off + cells.size <= old.size) (h1 : cells.all (·.oneCell') = true) (hrow : (old.toList.take off ++ cells.toList ++ old.toList.drop (off + cells.size)).toArray = row) (hd : o.dst = none) (h : wpList P ops Q rest a (w.setRow g row)) : wpList P ops Q (o :: rest) a w := by
 unfold wpList
 rw [if_pos (by simp [Region.wanted, hgd])]
 exact .inl (wp_storeAtG ty p x off old cells row ho hp hx hg hi hs h1 hrow hd h)
end
def row2 (C : Array Value) (k : Nat) (a b : Value) : Array Value := (C.toList.take (k * 2) ++ (#[a, b] : Array Value).toList ++ C.toList.drop (k * 2 + (#[a, b] : Array Value).size)).toArray
theorem row2_size {C : Array Value} {k : Nat} {a b : Value} (h : k * 2 + 2 <= C.size) : (row2 C k a b).size = C.size := by
 unfold row2; simp; omega
theorem row2_get {C : Array Value} {k : Nat} {a b : Value} (h : k * 2 + 2 <= C.size) (i : Nat) : (row2 C k a b)[i]? = if i = k * 2 then some a else if i = k * 2 + 1 then some b else C[i]? := by
 unfold row2
 rw [List.getElem?_toArray]
 have e : C[i]? = C.toList[i]? := by simp
 by_cases h1 : i < k * 2
 ·rw [if_neg (by omega), if_neg (by omega), List.append_assoc, List.getElem?_append_left (by simp; omega), List.getElem?_take_of_lt h1, e]
 ·by_cases h2 : i = k * 2
  ·subst h2
   rw [if_pos rfl, List.append_assoc, List.getElem?_append_right (by simp; omega), List.length_take]
   simp
   rw [show k * 2 - min (k * 2) C.size = 0 from by omega]; rfl
  ·by_cases h3 : i = k * 2 + 1
   ·subst h3
    rw [if_neg h2, if_pos rfl, List.append_assoc, List.getElem?_append_right (by simp; omega), List.length_take]
    simp
    rw [show k * 2 + 1 - min (k * 2) C.size = 1 from by omega]; rfl
   ·rw [if_neg h2, if_neg h3, List.getElem?_append_right (by simp; omega), List.getElem?_drop, e]
    congr 1
    simp
    omega
def ModsPost (ms : List Mod) (w : World) (e : Ending) (w' : World) : Prop := ∃ A c, e = .returned (.slice A ms.length c) /\ SlAt pMod (Old w') w' A c ms /\ Below w.heap.size w w'
def LaidM (w0 : World) (ms : List Mod) (k : Nat) (C : Array Value) : Prop :=
 ∀ i m, i < k -> ms[i]? = some m -> ∃ A' c', C[i * 2]? = some (.int .u8 m.name) /\ C[i * 2 + 1]? = some (.slice A' m.args.length c') /\ Fits .u8 m.name /\ SlAt (pI .i64) (Old w0) w0 A' c' m.args
theorem laidM_set {w0 : World} {ms : List Mod} {k : Nat} {C : Array Value} {m : Mod} {A' : Option Addr} {c' : Nat} (h : LaidM w0 ms k C) (hC : C.size = ms.length * 2) (hk : ms[k]? = some m) (hf : Fits .u8 m.name) (hs : SlAt (pI .i64) (Old w0) w0 A' c' m.args) :
  LaidM w0 ms (k + 1) (row2 C k (.int .u8 m.name) (.slice A' m.args.length c')) := by
 have hlt := (List.getElem?_eq_some_iff.1 hk).1
 intro i x hi hx
 by_cases hik : i = k
 ·subst hik
  rw [hk] at hx
  cases hx
  exact ⟨A', c', by rw [row2_get (by omega), if_pos rfl], by rw [row2_get (by omega), if_neg (by omega), if_pos rfl], hf, hs⟩
 ·obtain ⟨A2, c2, h1, h2, h3⟩ := h i x (by omega) hx
  exact ⟨A2, c2, by rw [row2_get (by omega), if_neg (by omega), if_neg (by omega)]; exact h1, by rw [row2_get (by omega), if_neg (by omega), if_neg (by omega)]; exact h2, h3⟩
theorem laidM_sl {w0 w : World} {g : Nat} {t : TypeId} {ms : List Mod} {C : Array Value} (h : LaidM w0 ms ms.length C) (hb : Blk w g t C) (hbe : Below w0.heap.size w0 w) (hn : ms.length <= maxLen) : SlAt pMod (Old w) w (some ⟨g, 0, none⟩) ms.length ms := by
 refine ⟨Nat.le_refl _, hn, fun e => by simp at e, fun i m hi => ?_⟩
 have hlt := (List.getElem?_eq_some_iff.1 hi).1
 obtain ⟨A', c', h1, h2, h3, h4⟩ := h i m hlt hi
 refine ⟨g, 0, _, rfl, hb.lt, ⟨A', c', rfl, h3, h4.later hbe⟩, fun j c hc => ?_⟩
 rw [hb.cell]
 match j, hc with
 | 0, hc => simp at hc; subst hc; simpa [pMod] using h1
 | 1, hc => simp at hc; subst hc; simpa [pMod] using h2
theorem modules_calls (A : Option Addr) (c : Nat) (l : List Cel) (w : World) (h : SlAt pCel (Old w) w A c l) (hbd : l.length <= 10000) :
  Calls Tryd.prog 47 #[.slice A l.length c] w (ModsPost (l.map (·.mod)) w) := by
 have hmx := h.lenle
 have H := HH1 h; clear h
 have hmk := fun (wx : World) => run_make_rowN (P := Tryd.prog) (t := 23) (e := 49) Tryd.underlying23 info_mod l.length (by omega) (by omega) wx
 go_enter Tryd.func47, Tryd.ntmps47
 go_wp2
 go_loopw [11] (fun i wr => ∃ k : Nat, k <= l.length /\ i = .int .i64 k /\ Hid (Below w.heap.size w wr) /\ w.heap.size < wr.heap.size /\ ∃ C : Array Value, Hid (Blk wr w.heap.size 49 C) /\ C.size = l.length * 2 /\ Hid (LaidM w (l.map (·.mod)) k C)) (fun i _ => l.length - (intOf i).toNat)
 case atStart => exact ⟨0, Nat.zero_le _, rfl, (Below.refl _ _).alloc (Nat.le_refl _) _, by simp, _, Blk.new _ _ _, size_madeCells _ _, fun i m hi => absurd hi (Nat.not_lt_zero _)⟩
 case round =>
  obtain ⟨k, hk, rfl, hb, hsz, C, hblk, hC, hld⟩ := hrel
  obtain ⟨wo, rfl⟩ : ∃ wo : World, wo = wr := ⟨_, rfl⟩
  by_cases hlt : k < l.length
  ·obtain ⟨b, o, A', c', x, hd, rfl, hob, k0, k1, k2, hps, hf8, hargs, hal⟩ := (H.out.below hb.out).getCel hlt
   have hob' : b < wo.heap.size := Nat.lt_trans hob hsz
   have hb1 : Blk (wo.alloc (.cells #[.string x.path, .int .u8 x.mod.name, .slice A' x.mod.args.length c'] 51)) w.heap.size 49 C := hblk.out.same (Below.heap_alloc _ _ _ hsz)
   have hrow : (C.toList.take (k * 2) ++ (#[.int .u8 x.mod.name, .slice A' x.mod.args.length c'] : Array Value).toList ++ C.toList.drop (k * 2 + (#[.int .u8 x.mod.name, .slice A' x.mod.args.length c'] : Array Value).size)).toArray = row2 C k (.int .u8 x.mod.name) (.slice A' x.mod.args.length c') := rfl
   have hsC : k * 2 + (#[.int .u8 x.mod.name, .slice A' x.mod.args.length c'] : Array Value).size <= C.size := by simp; omega
   have hget : (l.map (·.mod))[k]? = some x.mod := by rw [List.getElem?_map, get_of_drop hd.out]; rfl
   have hld2 : LaidM w (l.map (·.mod)) (k + 1) (row2 C k (.int .u8 x.mod.name) (.slice A' x.mod.args.length c')) := laidM_set hld.out (by simpa using hC) hget hf8 (hargs.out.keep fun q hq => (hb.out.block q hq).symm)
   have hz2 := row2_size (C := C) (k := k) (a := .int .u8 x.mod.name) (b := .slice A' x.mod.args.length c') (by omega)
   obtain ⟨Hb1, Hrow, HsC, Hld2, Hz2⟩ := HH5 hb1 hrow hsC hld2 hz2; clear hb1 hrow hsC hld2 hz2
   clear hmk hld hargs hd hget hblk
   go_wp2_with ((with_reducible show wpList _ _ _ (Oper.mk none _ _ _ _ _ :: _) _ _); refine wpList_storeAtH 49 (.tmp 20) (.tmp 19) (k * 2) C #[.int .u8 x.mod.name, .slice A' x.mod.args.length c'] (row2 C k (.int .u8 x.mod.name) (.slice A' x.mod.args.length c')) rfl rfl rfl rfl Hb1.out (by kernel_rfl) HsC.out (by simp [Value.oneCell']) Hrow.out rfl ?_)
   go_roundw
   case rel => exact ⟨k + 1, by omega, by go_num, row_below (hb.out.alloc (Nat.le_of_lt hsz) _) (Nat.le_refl _) _, by simp; omega, _, blk_row Hb1.out, by rw [Hz2.out]; exact hC, Hld2⟩
   case measure => simp [intOf]; omega
  ·obtain rfl : k = l.length := by omega
   have hf := laidM_sl (w0 := w) (g := w.heap.size) (ms := l.map (·.mod)) (by simpa using hld.out) hblk.out hb.out (by simp; unfold maxLen; omega)
   simp only [List.length_map] at hf
   clear hmk
   have Hf := HH1 hf; clear hf
   go_wp2
   go_ret
   exact ⟨some ⟨w.heap.size, 0, none⟩, l.length, by simp, Hf.out, hb.out⟩
theorem refModules_calls (A : Option Addr) (c : Nat) (l : List Cel) (w : World) (h : SlAt pCel (Old w) w A c l) (hbd : l.length <= 10000) :
  Calls Tryd.prog 48 #[.slice A l.length c] w (ModsPost (l.map (·.mod)) w) := by
 have hmx := h.lenle
 have H := HH1 h; clear h
 go_enter Tryd.func48, Tryd.ntmps48
 go_wp2
 go_loopw [4, 3] (fun i out wr => ∃ k : Nat, k <= l.length /\ i = .int .i64 k /\ Hid (Below w.heap.size w wr) /\ w.heap.size <= wr.heap.size /\ ∃ A' c', out = .slice A' k c' /\ Hid (Own pMod 49 w.heap.size (Old w) wr out ((l.map (·.mod)).take k))) (fun i _ _ => l.length - (intOf i).toNat)
 case atStart => exact ⟨0, Nat.zero_le _, rfl, Below.refl _ _, Nat.le_refl _, none, 0, rfl, Own.nil⟩
 case round =>
  obtain ⟨k, hk, rfl, hb, hsz, Ao, co, rfl, hown⟩ := hrel
  obtain ⟨wo, rfl⟩ : ∃ wo : World, wo = wr := ⟨_, rfl⟩
  by_cases hlt : k < l.length
  ·obtain ⟨b, o, A', c', x, hd, rfl, hob, k0, k1, k2, hps, hf8, hargs, hal⟩ := (H.out.below hb.out).getCel hlt
   have hob' : b < wo.heap.size := Nat.lt_of_lt_of_le hob hsz
   have hR : pMod.R (Old w) wo [.int .u8 x.mod.name, .slice A' x.mod.args.length c'] x.mod := ⟨A', c', rfl, hf8, hargs.out⟩
   have hF : ∀ q, Old w q -> Old w q /\ q < wo.heap.size /\ some q ≠ (Value.slice Ao k co).ownBlock := fun q hq => by
    have hq' : q < w.heap.size := hq
    refine ⟨hq, by omega, fun he => ?_⟩
    have := hown.out.lt q he.symm
    omega
   have hlk : ((l.map (·.mod)).take k).length + 1 = k + 1 := by simp; omega
   have hrk : Room (k + 1) := room_of (by omega)
   have htk : (l.map (·.mod)).take (k + 1) = (l.map (·.mod)).take k ++ [x.mod] := by rw [List.take_add_one, List.getElem?_map, get_of_drop hd.out]; rfl
   have hn := x.mod
   obtain ⟨HR, HF, Hlk, Hrk, Htk⟩ := HH5 hR hF hlk hrk htk; clear hR hF hlk hrk htk
   clear hargs hd k0
   go_wp2_with ((with_reducible show wpList _ _ _ (Oper.mk (some 17) _ _ _ _ _ :: _) _ _); refine pushMod (xs := (l.map (·.mod)).take k) (base := w.heap.size) (G := Old w) 17 (.tmp 11) (.tmp 16) rfl rfl rfl rfl rfl (fun _ => rfl) (fun _ => rfl) hown.out x.mod.name A' x.mod.args.length c' rfl x.mod (Old w) HR.out HF.out (k + 1) Hlk.out Hrk.out hsz ?_; intro A6 c6 w6 hown6 hg6)
   go_roundw
   case rel =>
    have hz6 := hg6.out.bel.size
    refine ⟨k + 1, by omega, by go_num, hb.out.trans hg6.out.bel, by omega, A6, c6, rfl, ?_⟩
    unfold Hid; rw [Htk.out]; exact hown6.out
   case measure => simp [intOf]; omega
  ·obtain rfl : k = l.length := by omega
   have ho := hown.out
   rw [List.take_of_length_le (by simp)] at ho
   obtain ⟨hl, hs⟩ := ho.sl'
   have hs2 : SlAt pMod (Old wo) wo Ao co (l.map (·.mod)) := hs.wide fun q hq => hq.2
   have Hs2 := HH1 hs2; clear hs2
   clear hs ho
   go_wp2
   go_ret
   exact ⟨Ao, co, by simp, Hs2.out, hb.out⟩
end
section
open Go.RowKit
end
section
open Go.RowKit Go.Sort
theorem beq_mod (m n : Mod) : (m == n) = (m.name == n.name && m.args == n.args) := by
 rw [Bool.eq_iff_iff, beq_iff_eq, Bool.and_eq_true, beq_iff_eq, beq_iff_eq]
 obtain ⟨a, b⟩ := m
 obtain ⟨c, d⟩ := n
 simp
theorem sameMods_calls {F : Nat -> Prop} (A B : Option Addr) (c c' : Nat) (m n : Mod) (w : World) (h : SlAt (pI .i64) F w A c m.args) (h' : SlAt (pI .i64) F w B c' n.args) (hF : ∀ k, F k -> k < w.heap.size) :
  Calls Tryd.prog 41 #[.agg #[.int .u8 m.name, .slice A m.args.length c], .agg #[.int .u8 n.name, .slice B n.args.length c']] w (BoolPost (m == n) w) := by
 rw [beq_mod]
 obtain ⟨nm, xs⟩ := m
 obtain ⟨nn, ys⟩ := n
 simp only at h h' ⊢
 have hmx := h.lenle
 have hmy := h'.lenle
 obtain ⟨H, H', HF⟩ := HH3 h h' hF; clear h h' hF
 have hbW : Below w.heap.size w ((w.alloc (.cells #[.int .u8 nm, .slice A xs.length c] 49)).alloc (.cells #[.int .u8 nn, .slice B ys.length c'] 49)) := ((Below.refl _ _).alloc (Nat.le_refl _) _).alloc (by simp) _
 have HbW := HH1 hbW; clear hbW
 by_cases hn : nm = nn
 ·have e0 : (nm != nn) = false := by simp [hn]
  have Hn := HH1 hn; clear hn
  by_cases hl : xs.length = ys.length
  ·have e1 : ((xs.length : Int) != (ys.length : Int)) = false := by simp [hl]
   have Hl := HH1 hl; clear hl
   have hkp : ∀ (d : Nat) k, F k -> ((((w.alloc (.cells #[.int .u8 nm, .slice A xs.length c] 49)).alloc (.cells #[.int .u8 nn, .slice B ys.length c'] 49))).drewN d).heap[k]? = w.heap[k]? := fun d k hk =>
    (Below.heap_alloc _ _ _ (by have := HF.out k hk; simp; omega)).trans (Below.heap_alloc _ _ _ (HF.out k hk))
   have Hx := HH1 (fun d => H.out.keep (hkp d))
   have Hy := HH1 (fun d => H'.out.keep (hkp d))
   clear hkp
   have hc1 : ∀ d : Nat, ((((w.alloc (.cells #[.int .u8 nm, .slice A xs.length c] 49)).alloc (.cells #[.int .u8 nn, .slice B ys.length c'] 49))).drewN d).cell? ⟨w.heap.size, 1, none⟩ = some (.slice A xs.length c) := fun d =>
    (cell_keep (w := w.alloc (.cells #[.int .u8 nm, .slice A xs.length c] 49)) (Below.heap_alloc _ _ _ (by simp))).trans ((Blk.new w _ _).cell 1)
   have hc2 : ∀ d : Nat, ((((w.alloc (.cells #[.int .u8 nm, .slice A xs.length c] 49)).alloc (.cells #[.int .u8 nn, .slice B ys.length c'] 49))).drewN d).cell? ⟨w.heap.size + 1, 1, none⟩ = some (.slice B ys.length c') := fun d => by
    simp
   have Hc1 := HH1 hc1; have Hc2 := HH1 hc2
   clear hc1 hc2
   go_enter Tryd.func41, Tryd.ntmps41
   go_wp2
   go_loopw [5] (fun i wr => ∃ k : Nat, k <= xs.length /\ i = .int .i64 k /\ Hid ((xs == ys) = (xs.drop k == ys.drop k)) /\ ∃ d : Nat, wr = (((w.alloc (.cells #[.int .u8 nm, .slice A xs.length c] 49)).alloc (.cells #[.int .u8 nn, .slice B ys.length c'] 49))).drewN d) (fun i _ => xs.length - (intOf i).toNat)
   case atStart => exact ⟨0, Nat.zero_le _, rfl, rfl, 0, rfl⟩
   case round =>
    obtain ⟨k, hk, rfl, hin, d, hw⟩ := hrel
    have hbr : Below w.heap.size w wr := by rw [hw]; exact below_drewN HbW.out d
    have hc1 := Hc1.out d
    have hc2 := Hc2.out d
    have hx := Hx.out d
    have hy := Hy.out d
    rw [<- hw] at hc1 hc2 hx hy
    obtain ⟨Hbr, Hw⟩ := HH2 hbr hw; clear hbr hw
    clear Hx Hy
    by_cases hlt : k < xs.length
    ·have hlt' : k < ys.length := by rw [<- Hl.out]; exact hlt
     obtain ⟨b, o, x, hdx, rfl, _, hc, _⟩ := hx.getI hlt
     obtain ⟨b', o', y, hdy, rfl, _, hc', _⟩ := hy.getI hlt'
     clear hx hy
     by_cases hxy : x = y
     ·have e1 : (x != y) = false := by simp [hxy]
      have Hxy := HH1 hxy; clear hxy
      go_wp2
      go_quiet (fail)
      go_wp2
      go_roundw
      case rel =>
       refine ⟨k + 1, by omega, by go_num, ?_, ?_⟩
       ·unfold Hid; rw [hin.out, hdx.out, hdy.out, Hxy.out]; simp
       ·rw [Hw.out]; exact ⟨_, World.drewN_drewN _ _ _⟩
      case measure => simp [intOf]; omega
     ·have e1 : (x != y) = true := by simp [hxy]
      have Hxy := HH1 hxy; clear hxy
      go_wp2
      go_quiet (fail)
      go_wp2
      go_ret
      refine ⟨ret_bool ?_, below_drewN Hbr.out _⟩
      rw [hin.out, hdx.out, hdy.out, List.cons_beq_cons, beq_false_of_ne Hxy.out]; simp
    ·clear hx hy
     go_wp2
     go_ret
     refine ⟨ret_bool ?_, Hbr.out⟩
     rw [hin.out, drop_end hlt, drop_end (by rw [<- Hl.out]; exact hlt), Hn.out]; simp
  ·have e1 : ((xs.length : Int) != (ys.length : Int)) = true := by simp; omega
   have Hl := HH1 hl; clear hl
   go_enter Tryd.func41, Tryd.ntmps41
   go_wp2
   go_ret
   refine ⟨ret_bool ?_, HbW.out⟩
   cases hb : xs == ys
   ·simp
   ·exact absurd (congrArg List.length (eq_of_beq hb)) Hl.out
 ·have e0 : (nm != nn) = true := by simp [hn]
  have Hn := HH1 hn; clear hn
  go_enter Tryd.func41, Tryd.ntmps41
  go_wp2
  go_ret
  refine ⟨ret_bool ?_, HbW.out⟩
  rw [beq_false_of_ne Hn.out]; rfl
theorem refSame_calls (A B : Option Addr) (c c' : Nat) (xs ys : List Mod) (w : World) (h : SlAt pMod (Old w) w A c xs) (h' : SlAt pMod (Old w) w B c' ys) :
  Calls Tryd.prog 25 #[.slice A xs.length c, .slice B ys.length c'] w (BoolPost (xs == ys) w) := by
 have hmx := h.lenle
 have hmy := h'.lenle
 obtain ⟨H, H'⟩ := HH2 h h'; clear h h'
 by_cases hl : xs.length = ys.length
 ·have e1 : ((xs.length : Int) != (ys.length : Int)) = false := by simp [hl]
  have Hl := HH1 hl; clear hl
  go_enter Tryd.func25, Tryd.ntmps25
  go_wp2
  go_loopw [5] (fun i wr => ∃ k : Nat, k <= xs.length /\ i = .int .i64 k /\ Hid ((xs == ys) = (xs.drop k == ys.drop k)) /\ Hid (Below w.heap.size w wr) /\ w.heap.size <= wr.heap.size) (fun i _ => xs.length - (intOf i).toNat)
  case atStart => exact ⟨0, Nat.zero_le _, rfl, rfl, Below.refl _ _, Nat.le_refl _⟩
  case round =>
   obtain ⟨k, hk, rfl, hin, hb, hsz⟩ := hrel
   by_cases hlt : k < xs.length
   ·have hlt' : k < ys.length := by rw [<- Hl.out]; exact hlt
    obtain ⟨b, o, A', d, m, hdx, rfl, _, hx0, hx1, _, hxa, _⟩ := (H.out.below hb.out).getMod hlt
    obtain ⟨b', o', B', d', n, hdy, rfl, _, hy0, hy1, _, hya, _⟩ := (H'.out.below hb.out).getMod hlt'
    have kx0 := cell_regrown hx0
    have kx1 := cell_regrown hx1
    have ky0 := cell_regrown hy0
    have ky1 := cell_regrown hy1
    clear hx0 hx1 hy0 hy1
    have hcall : ∀ (q : Nat) (os : Array Obj), Calls Tryd.prog 41 #[.agg #[.int .u8 m.name, .slice A' m.args.length d], .agg #[.int .u8 n.name, .slice B' n.args.length d']] (grow (redrawn wr q) os) fun e w'' => e = .returned (.bool (m == n)) /\ ∃ p : Regrown, w'' = grow (redrawn wr p.d) p.os := fun q os =>
     have hg := below_regrown wr q os
     Calls.regrown_of (sameMods_calls A' B' d d' m n _ (hxa.out.keep fun k hk => hg.block k (Nat.lt_of_lt_of_le hk hsz)) (hya.out.keep fun k hk => hg.block k (Nat.lt_of_lt_of_le hk hsz)) (fun k hk => Nat.lt_of_lt_of_le (Nat.lt_of_lt_of_le hk hsz) hg.size))
    have Hcall := HH1 hcall; clear hcall
    generalize hmn : (m == n) = t at Hcall
    have Hmn := HH1 hmn; clear hmn
    go_wp2
    refine wp_region_quiet_below (by kernel_rfl) (by kernel_rfl) ?_
    repeat (quiet_step (exact Hcall.out _ _))
    refine wpQuiet_nil ?_
    intro _ hw'
    obtain ⟨⟨dq, osq⟩, hw''⟩ := hw'
    subst hw''
    have hbw : Below w.heap.size w (grow (redrawn wr dq) osq) := hb.out.trans ((below_regrown wr dq osq).mono hsz)
    have Hbw := HH1 hbw; clear hbw
    cases t
    ·go_wp2
     go_ret
     refine ⟨ret_bool ?_, Hbw.out⟩
     rw [hin.out, hdx.out, hdy.out, List.cons_beq_cons, Hmn.out]; rfl
    ·go_wp2
     go_roundw
     case rel =>
      refine ⟨k + 1, by omega, by go_num, ?_, Hbw, Hbw.out.size⟩
      unfold Hid; rw [hin.out, hdx.out, hdy.out, List.cons_beq_cons, Hmn.out]; rfl
     case measure => simp [intOf]; omega
   ·go_wp2
    go_ret
    refine ⟨ret_bool ?_, hb.out⟩
    rw [hin.out, drop_end hlt, drop_end (by rw [<- Hl.out]; exact hlt)]; rfl
 ·have e1 : ((xs.length : Int) != (ys.length : Int)) = true := by simp; omega
  have Hl := HH1 hl; clear hl
  go_enter Tryd.func25, Tryd.ntmps25
  go_wp2
  go_ret
  refine ⟨ret_bool ?_, Below.refl _ _⟩
  cases hb : xs == ys
  ·rfl
  ·exact absurd (congrArg List.length (eq_of_beq hb)) Hl.out
end
section
open Go.RowKit
def cellsR (l : List Cel) : Int := if 2000 < l.length then 4 else if (l.all fun x => pathF x.path) = true then checkF (l.map (·.mod)) else 8
theorem cellsR_many {l : List Cel} (h : 2000 < l.length) : cellsR l = 4 := by unfold cellsR; rw [if_pos h]
theorem cellsR_bad {l : List Cel} (h : ¬ 2000 < l.length) (h2 : (l.all fun x => pathF x.path) = false) : cellsR l = 8 := by unfold cellsR; rw [if_neg h, if_neg (by rw [h2]; decide)]
theorem cellsR_all {l : List Cel} (h : ¬ 2000 < l.length) (h2 : (l.all fun x => pathF x.path) = true) : cellsR l = checkF (l.map (·.mod)) := by unfold cellsR; rw [if_neg h, if_pos h2]
theorem cells_calls (A : Option Addr) (c : Nat) (l : List Cel) (w : World) (h : SlAt pCel (Old w) w A c l) :
  Calls Tryd.prog 23 #[.slice A l.length c] w (IntPost (cellsR l) w) := by
 have hmx := h.lenle
 have H := HH1 h; clear h
 by_cases hbig : 2000 < l.length
 ·have hr := cellsR_many hbig
  have Hr := HH1 hr; clear hr
  go_enter Tryd.func23, Tryd.ntmps23
  go_wp2
  go_ret
  exact ⟨ret_int (by rw [Hr.out]), Below.refl _ _⟩
 ·have hno := fun h2 => cellsR_bad hbig h2
  have hyes := fun h2 => cellsR_all hbig h2
  obtain ⟨Hno, Hyes⟩ := HH2 hno hyes; clear hno hyes
  go_enter Tryd.func23, Tryd.ntmps23
  go_wp2
  go_loopw [10] (fun i wr => ∃ k : Nat, k <= l.length /\ i = .int .i64 k /\ Hid (Below w.heap.size w wr) /\ w.heap.size <= wr.heap.size /\ Hid ((l.all fun x => pathF x.path) = ((l.drop k).all fun x => pathF x.path))) (fun i _ => l.length - (intOf i).toNat)
  case atStart => exact ⟨0, Nat.zero_le _, rfl, Below.refl _ _, Nat.le_refl _, rfl⟩
  case round =>
   obtain ⟨k, hk, rfl, hb, hsz, hall⟩ := hrel
   obtain ⟨wo, rfl⟩ : ∃ wo : World, wo = wr := ⟨_, rfl⟩
   by_cases hlt : k < l.length
   ·obtain ⟨b, o, A', c', x, hd, rfl, hob, k0, k1, k2, hps, hf8, hargs, hal⟩ := (H.out.below hb.out).getCel hlt
    have hob' : b < wo.heap.size := Nat.lt_of_lt_of_le hob hsz
    have hc := path_calls x.path (wo.alloc (.cells #[.string x.path, .int .u8 x.mod.name, .slice A' x.mod.args.length c'] 51)) hps
    have Hc := HH1 hc; clear hc
    clear hargs
    go_wp2_with fail
    refine Hc.out.mono ?_
    rintro e w1 ⟨rfl, hb1⟩
    have hbw : Below w.heap.size w w1 := (hb.out.alloc hsz _).trans (hb1.mono (by simp; omega))
    have Hbw := HH1 hbw; clear hbw
    clear hb1 k0 k1 k2
    cases hp : pathF x.path
    ·have hq : cellsR l = 8 := Hno.out (by rw [hall.out, hd.out, List.all_cons, hp]; rfl)
     have Hq := HH1 hq; clear hq
     go_wp2
     go_ret
     exact ⟨ret_int (by rw [Hq.out]), Hbw.out⟩
    ·go_wp2
     go_roundw
     case rel =>
      refine ⟨k + 1, by omega, by go_num, Hbw, Hbw.out.size, ?_⟩
      unfold Hid; rw [hall.out, hd.out, List.all_cons, hp]; rfl
     case measure => simp [intOf]; omega
   ·have hq : cellsR l = checkF (l.map (·.mod)) := Hyes.out (by rw [hall.out, drop_end hlt]; rfl)
    have hm := modules_calls A c l wo (H.out.later hb.out) (by omega)
    generalize l.map (·.mod) = ms at hm hq
    obtain ⟨Hq, Hm⟩ := HH2 hq hm; clear hq hm
    clear hall
    go_wp2_with fail
    refine Hm.out.mono ?_
    rintro e w1 ⟨A1, c1, rfl, hs1, hb1⟩
    have hck := wordCheck_calls A1 c1 ms w1 hs1
    have hbw : Below w.heap.size w w1 := hb.out.trans (hb1.mono hsz)
    have hz1 := hbw.size
    obtain ⟨Hck, Hbw⟩ := HH2 hck hbw; clear hck hbw
    clear hb1 hs1
    go_wp2_with fail
    refine Hck.out.mono ?_
    rintro e w2 ⟨rfl, hb2⟩
    have hbw2 : Below w.heap.size w w2 := Hbw.out.trans (hb2.mono hz1)
    have Hbw2 := HH1 hbw2; clear hbw2
    clear hb2
    go_wp2
    go_ret
    exact ⟨ret_int (by rw [Hq.out]), Hbw2.out⟩
theorem refCells_calls (A : Option Addr) (c : Nat) (l : List Cel) (w : World) (h : SlAt pCel (Old w) w A c l) :
  Calls Tryd.prog 24 #[.slice A l.length c] w (IntPost (cellsR l) w) := by
 have hmx := h.lenle
 have H := HH1 h; clear h
 by_cases hbig : 2000 < l.length
 ·have hr := cellsR_many hbig
  have Hr := HH1 hr; clear hr
  go_enter Tryd.func24, Tryd.ntmps24
  go_wp2
  go_ret
  exact ⟨ret_int (by rw [Hr.out]), Below.refl _ _⟩
 ·have hno := fun h2 => cellsR_bad hbig h2
  have hyes := fun h2 => cellsR_all hbig h2
  obtain ⟨Hno, Hyes⟩ := HH2 hno hyes; clear hno hyes
  go_enter Tryd.func24, Tryd.ntmps24
  go_wp2
  go_loop [3] (fun i => ∃ k : Nat, k <= l.length /\ i = .int .i64 k /\ Hid ((l.all fun x => pathF x.path) = ((l.drop k).all fun x => pathF x.path))) (fun i => l.length - (intOf i).toNat)
  case atStart => exact ⟨0, Nat.zero_le _, rfl, rfl⟩
  case round =>
   obtain ⟨k, hk, rfl, hall⟩ := hrel
   by_cases hlt : k < l.length
   ·obtain ⟨b, o, A', c', x, hd, rfl, hob, k0, k1, k2, hps, hf8, hargs, hal⟩ := H.out.getCel hlt
    have hc := refPath_calls x.path w hps
    have Hc := HH1 hc; clear hc
    clear hargs
    go_wp2_with fail
    refine Hc.out.mono ?_
    rintro e w1 ⟨rfl, rfl⟩
    clear k0 k1 k2
    cases hp : pathF x.path
    ·have hq : cellsR l = 8 := Hno.out (by rw [hall.out, hd.out, List.all_cons, hp]; rfl)
     have Hq := HH1 hq; clear hq
     go_wp2
     go_ret
     exact ⟨ret_int (by rw [Hq.out]), Below.refl _ _⟩
    ·go_wp2
     go_round
     case rel =>
      refine ⟨k + 1, by omega, by go_num, ?_⟩
      unfold Hid; rw [hall.out, hd.out, List.all_cons, hp]; rfl
     case measure => simp [intOf]; omega
   ·have hq : cellsR l = checkF (l.map (·.mod)) := Hyes.out (by rw [hall.out, drop_end hlt]; rfl)
    have hm := refModules_calls A c l w H.out (by omega)
    generalize l.map (·.mod) = ms at hm hq
    obtain ⟨Hq, Hm⟩ := HH2 hq hm; clear hq hm
    clear hall
    go_wp2_with fail
    refine Hm.out.mono ?_
    rintro e w1 ⟨A1, c1, rfl, hs1, hb1⟩
    have hck := refCheck_calls A1 c1 ms w1 hs1
    have hz1 := hb1.size
    obtain ⟨Hck, Hb1⟩ := HH2 hck hb1; clear hck hb1
    clear hs1
    go_wp2_with fail
    refine Hck.out.mono ?_
    rintro e w2 ⟨rfl, hb2⟩
    have hbw2 : Below w.heap.size w w2 := Hb1.out.trans (hb2.mono hz1)
    have Hbw2 := HH1 hbw2; clear hbw2
    clear hb2
    go_wp2
    go_ret
    exact ⟨ret_int (by rw [Hq.out]), Hbw2.out⟩
def wordR (l : List Cel) : List Mod × Int := if cellsR l = 0 then (l.map (·.mod), 0) else ([], cellsR l)
def WordPost (r : List Mod × Int) (w : World) (e : Ending) (w' : World) : Prop := ∃ A c, e = .returned (.tuple #[.slice A r.1.length c, .int .i64 r.2]) /\ SlAt pMod (Old w') w' A c r.1 /\ Below w.heap.size w w'
theorem wordPost_none {r : List Mod × Int} {x : Int} {w w' : World} (h : r = ([], x)) (hb : Below w.heap.size w w') : WordPost r w (.returned (.tuple #[.slice none 0 0, .int .i64 x])) w' := by
 subst h
 exact ⟨none, 0, rfl, (Own.nil (E := pMod) (e := 49) (base := 0) (G := fun _ => False) (w := w')).sl'.2.wide fun k hk => hk.2, hb⟩
theorem cells_bd {l : List Cel} (h : cellsR l = 0) : l.length <= 2000 := by
 by_cases hb : 2000 < l.length
 ·rw [cellsR_many hb] at h; simp at h
 ·omega
theorem slF {w : World} {A : Option Addr} {c : Nat} {ms : List Mod} {base : Nat} {t : TypeId} {G : Nat -> Prop} {n : Nat} (h : Own pModF t base G w (.slice A n c) ms) : SlAt pMod (Old w) w A c ms := slAt_modF (h.sl'.2.wide fun q hq => hq.2)
theorem word_calls (A : Option Addr) (c : Nat) (l : List Cel) (w : World) (h : SlAt pCel (Old w) w A c l) (ha : ∀ x ∈ l, x.mod.args.length <= 1000) :
  Calls Tryd.prog 19 #[.slice A l.length c] w (WordPost (wordR l) w) := by
 have hmx := h.lenle
 have hc := cells_calls A c l w h
 obtain ⟨H, Hc, Ha⟩ := HH3 h hc ha; clear h hc ha
 by_cases h0 : cellsR l = 0
 ·have hr : wordR l = (l.map (·.mod), 0) := by unfold wordR; rw [if_pos h0]
  have hbd := cells_bd h0
  rw [h0] at Hc
  clear h0
  have Hr := HH1 hr; clear hr
  go_enter Tryd.func19, Tryd.ntmps19
  go_wp2_with fail
  refine Hc.out.mono ?_
  rintro e w1 ⟨rfl, hb1⟩
  have hm := modules_calls A c l w1 (H.out.later hb1) (by omega)
  have hml : (l.map (·.mod)).length <= 2000 := by simp; omega
  have hma : ∀ m ∈ l.map (·.mod), m.args.length <= 1000 := by simpa using Ha.out
  have hr := Hr.out
  have hz1 := hb1.size
  clear Hr
  generalize l.map (·.mod) = ms at hm hr hml hma
  obtain ⟨Hm, Hb1, Hr, Hma⟩ := HH4 hm hb1 hr hma; clear hm hb1 hr hma
  go_wp2_with fail
  refine Hm.out.mono ?_
  rintro e w2 ⟨A2, c2, rfl, hs2, hb2⟩
  have ht := twin_calls A2 c2 ms w2 hs2 (by omega) Hma.out
  have hbw := Hb1.out.trans (hb2.mono hz1)
  have hz2 := hbw.size
  obtain ⟨Ht, Hbw⟩ := HH2 ht hbw; clear ht hbw
  clear hs2 hb2
  go_wp2_with fail
  refine Ht.out.mono ?_
  rintro e w3 ⟨A3, c3, rfl, hs3, hb3⟩
  have hf : SlAt pMod (Old w3) w3 A3 c3 ms := slF hs3
  have hbw3 := Hbw.out.trans (hb3.mono hz2)
  obtain ⟨Hf, Hbw3⟩ := HH2 hf hbw3; clear hf hbw3
  clear hs3 hb3
  go_wp2
  go_ret2
  rw [Hr.out]
  exact ⟨A3, c3, rfl, Hf.out, Hbw3.out⟩
 ·have hr : wordR l = ([], cellsR l) := by unfold wordR; rw [if_neg h0]
  have e0 : (cellsR l != 0) = true := by simp [h0]
  generalize cellsR l = x at Hc hr e0
  clear h0
  have Hr := HH1 hr; clear hr
  go_enter Tryd.func19, Tryd.ntmps19
  go_wp2_with fail
  refine Hc.out.mono ?_
  rintro e w1 ⟨rfl, hb1⟩
  have Hb1 := HH1 hb1; clear hb1
  go_wp2
  go_ret2
  exact wordPost_none Hr.out Hb1.out
def greatB (x : Cel) : Bool := decide (300 < x.path.size) || decide (10 < x.mod.args.length)
def greatL (l : List Cel) : Bool := l.any greatB || decide (2100 < l.length)
theorem greatC_calls {F : Nat -> Prop} (A : Option Addr) (c : Nat) (l : List Cel) (w : World) (h : SlAt pCel F w A c l) :
  Calls Tryd.prog 16 #[.slice A l.length c] w fun e w' => e = .returned (.bool (greatL l)) /\ w = w' := by
 have hmx := h.lenle
 have H := HH1 h; clear h
 go_enter Tryd.func16, Tryd.ntmps16
 go_wp2
 go_loop [3] (fun i => ∃ k : Nat, k <= l.length /\ i = .int .i64 k /\ Hid (l.any greatB = (l.drop k).any greatB)) (fun i => l.length - (intOf i).toNat)
 case atStart => exact ⟨0, Nat.zero_le _, rfl, rfl⟩
 case round =>
  obtain ⟨k, hk, rfl, hall⟩ := hrel
  by_cases hlt : k < l.length
  ·obtain ⟨b, o, A', c', x, hd, rfl, hob, k0, k1, k2, hps, hf8, hargs, hal⟩ := H.out.getCel hlt
   clear k1 hargs
   by_cases h1 : 300 < x.path.size
   ·have hy : greatL l = true := by unfold greatL; rw [hall.out, hd.out, List.any_cons, show greatB x = true from by unfold greatB; simp [h1]]; rfl
    have Hy := HH1 hy; clear hy
    clear hall
    go_wp2
    go_ret
    exact ⟨ret_bool Hy.out.symm, rfl⟩
   ·by_cases h2 : 10 < x.mod.args.length
    ·have hy : greatL l = true := by unfold greatL; rw [hall.out, hd.out, List.any_cons, show greatB x = true from by unfold greatB; simp [h2]]; rfl
     have Hy := HH1 hy; clear hy
     clear hall
     go_wp2
     go_ret
     exact ⟨ret_bool Hy.out.symm, rfl⟩
    ·go_wp2
     go_round
     case rel =>
      refine ⟨k + 1, by omega, by go_num, ?_⟩
      unfold Hid; rw [hall.out, hd.out, List.any_cons, show greatB x = false from by unfold greatB; simp; omega]; rfl
     case measure => simp [intOf]; omega
  ·have hy : greatL l = decide (2100 < l.length) := by unfold greatL; rw [hall.out, drop_end hlt]; rfl
   have Hy := HH1 hy; clear hy
   clear hall
   by_cases h1 : 2100 < l.length
   ·go_wp2
    go_ret
    exact ⟨ret_bool (by rw [Hy.out]; simp; omega), rfl⟩
   ·go_wp2
    go_ret
    exact ⟨ret_bool (by rw [Hy.out]; simp; omega), rfl⟩
end
end Go.Proofs.YtlipmagkplbkdaaDoor
