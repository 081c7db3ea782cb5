/-
  Layer 6: what word.Check and its reference compute, and the walks of a module's check.
-/
import Derived.Test.YtlipmagkplbkdaaDoorProg
import Derived.Test.YtlipmagkplbkdaaDoorRep
import Derived.Deep.QuietTactic
import Derived.BigQuiet
import Derived.Lib.QuietBelow
import Derived.Lib.Bytealg
import Derived.Lib.Walk
namespace Go.Proofs.YtlipmagkplbkdaaDoor
open Go.RowKit

def symL : List Int := [43, 45, 38, 94, 124, 33, 91, 93]
def symB (c : Int) : Bool := symL.contains c
def upB (c : Int) : Bool := decide (65 ≤ c) && decide (c ≤ 90)
def loB (c : Int) : Bool := decide (97 ≤ c) && decide (c ≤ 122)
def letterB (c : Int) : Bool := upB c || loB c || symB c
def argOk (x : Int) : Bool := decide (-1000000000 ≤ x) && decide (x ≤ 1000000000)
def shapeOk (m : Mod) : Bool := m.args.length == 0 || (decide (m.args.length ≤ 4) && m.name != 91 && m.name != 93)
def fineF (m : Mod) : Bool := letterB m.name && m.args.all argOk && shapeOk m
/-- how many brackets are open in the end; none: a ] came first -/
def scan (n : Nat) : List Mod → Option Nat
  | [] => some n
  | m :: ms => if m.name = 91 then scan (n + 1) ms else if m.name = 93 then (if n = 0 then none else scan (n - 1) ms) else scan n ms
def checkF (w : List Mod) : Int :=
  if 2000 < w.length then 4 else if w.all fineF = false then 8 else match scan 0 w with
  | none => 28
  | some n => if 0 < n then 28 else 0

def symS : ByteArray := ⟨#[43, 45, 38, 94, 124, 33, 91, 93]⟩
theorem sym_index : ∀ n : Fin 256, (decide (Lib.indexByte [43, 45, 38, 94, 124, 33, 91, 93] n.val.toUInt8 < 0)) = !symB (n.val : Int) := by decide +kernel
set_option maxRecDepth 100000 in
theorem indexByte_calls (s : ByteArray) (c : Int) (w : World) : Calls Tryd.prog 74 #[.string s, .int .u8 c] w fun e w' => e = .returned (.int .i64 (Lib.indexByte s.data.toList c.toNat.toUInt8)) ∧ w = w' := by
  go_enter Tryd.func74, Tryd.ntmps74
  go_wp2
  rw [run_callFunc_extern Tryd.func102 (by kernel_rfl) (by kernel_rfl) (by kernel_rfl) (e := Extern.BytealgIndexByte.indexByte) (by kernel_rfl), Lib.run_indexByteString]
  simp only [Result.andThen]
  rw [Oper.upon_value]
  go_wp2
  go_ret
  exact ⟨rfl, rfl⟩

def symIx (c : Int) : Int := Lib.indexByte [43, 45, 38, 94, 124, 33, 91, 93] c.toNat.toUInt8
theorem symIx_neg {c : Int} (h0 : 0 ≤ c) (h1 : c ≤ 255) : symIx c < 0 ↔ symB c = false := by
  obtain ⟨n, rfl⟩ := Int.eq_ofNat_of_zero_le h0
  have := sym_index ⟨n, by omega⟩
  unfold symIx
  simp only [Int.toNat_natCast] at this ⊢
  rw [← decide_eq_true_iff (p := _ < (0 : Int)), this]; simp
theorem symIx_calls (c : Int) (w : World) : Calls Tryd.prog 74 #[.string ⟨#[43, 45, 38, 94, 124, 33, 91, 93]⟩, .int .u8 c] w fun e w' => e = .returned (.int .i64 (symIx c)) ∧ w = w' := indexByte_calls _ _ _

def FinePost (m : Mod) (w : World) (e : Ending) (w' : World) : Prop := e = .returned (.bool (fineF m)) ∧ Below w.heap.size w w'
theorem argOk_no {x : Int} (h : x < -1000000000 ∨ 1000000000 < x) : argOk x = false := by unfold argOk; simp; omega
theorem argOk_yes {x : Int} (h0 : ¬ x < -1000000000) (h1 : ¬ 1000000000 < x) : argOk x = true := by unfold argOk; simp; omega

set_option maxRecDepth 100000 in
set_option maxHeartbeats 4000000 in
theorem fine_calls {F : Nat → Prop} (A : Option Addr) (c : Nat) (m : Mod) (w : World) (h : SlAt (pI .i64) F w A c m.args) (hF : ∀ k, F k → k < w.heap.size) (hn : Fits .u8 m.name) :
    Calls Tryd.prog 63 #[.agg #[.int .u8 m.name, .slice A m.args.length c]] w (FinePost m w) := by
  obtain ⟨nm, args⟩ := m
  simp only at h hn ⊢
  have hb8 := hn.u8
  have hmx := h.lenle
  have H := Lib.hid h; clear h
  have HF := Lib.hid hF; clear hF
  have hsx := symIx_neg hb8.1 hb8.2
  have Hsx := Lib.hid hsx; clear hsx
  cases hlt : letterB nm
  · have hno := hlt
    unfold letterB at hno
    rw [Bool.or_eq_false_iff, Bool.or_eq_false_iff] at hno
    have hs := Hsx.out.2 hno.2
    have hup : nm < 65 ∨ 90 < nm := by have := hno.1.1; unfold upB at this; simp at this; omega
    have hlo : nm < 97 ∨ 122 < nm := by have := hno.1.2; unfold loB at this; simp at this; omega
    clear hno
    have Hlt := Lib.hid hlt; clear hlt
    have hres : FinePost ⟨nm, args⟩ w (.returned (.bool false)) (w.alloc (.cells #[.int .u8 nm, .slice A args.length c] 49)) :=
      ⟨by unfold fineF; rw [Hlt.out]; rfl, (Below.refl _ _).alloc (Nat.le_refl _) _⟩
    have Hres := Lib.hid hres; clear hres
    have h3 : nm < 65 ∨ (90 < nm ∧ nm < 97) ∨ 122 < nm := by omega
    clear hup hlo
    rcases h3 with h3 | ⟨h3, h4⟩ | h3
    · by_cases h0 : nm = 0
      · have e0 : (nm == 0) = true := by simp [h0]
        clear h0
        go_enter Tryd.func63, Tryd.ntmps63
        go_wp2_with (go_at_call 74; refine (symIx_calls _ _).mono ?_; rintro e w' ⟨rfl, rfl⟩)
        go_ret
        exact Hres.out
      · have e0 : (nm == 0) = false := by simp [h0]
        clear h0
        go_enter Tryd.func63, Tryd.ntmps63
        go_wp2_with (go_at_call 74; refine (symIx_calls _ _).mono ?_; rintro e w' ⟨rfl, rfl⟩)
        go_ret
        exact Hres.out
    · have e0 : (nm == 0) = false := by simp; omega
      go_enter Tryd.func63, Tryd.ntmps63
      go_wp2_with (go_at_call 74; refine (symIx_calls _ _).mono ?_; rintro e w' ⟨rfl, rfl⟩)
      go_ret
      exact Hres.out
    · have e0 : (nm == 0) = false := by simp; omega
      go_enter Tryd.func63, Tryd.ntmps63
      go_wp2_with (go_at_call 74; refine (symIx_calls _ _).mono ?_; rintro e w' ⟨rfl, rfl⟩)
      go_ret
      exact Hres.out
  · have hcase : (65 ≤ nm ∧ nm ≤ 90) ∨ (97 ≤ nm ∧ nm ≤ 122) ∨ (nm < 65 ∧ ¬ symIx nm < 0 ∧ ((nm == 0) = false)) ∨ (90 < nm ∧ nm < 97 ∧ ¬ symIx nm < 0 ∧ ((nm == 0) = false)) ∨ (122 < nm ∧ ¬ symIx nm < 0 ∧ ((nm == 0) = false)) := by
      unfold letterB at hlt
      rw [Bool.or_eq_true, Bool.or_eq_true] at hlt
      rcases hlt with (hu | hl) | hs
      · unfold upB at hu; simp at hu; omega
      · unfold loB at hl; simp at hl; omega
      · have h1 : ¬ symIx nm < 0 := by rw [Hsx.out, hs]; decide
        have h2 : nm ≠ 0 := by rintro rfl; revert hs; decide
        have h3 : (nm == 0) = false := by simp [h2]
        by_cases h4 : nm < 65
        · exact .inr (.inr (.inl ⟨h4, h1, h3⟩))
        · by_cases h5 : nm ≤ 90
          · exact .inl ⟨by omega, h5⟩
          · by_cases h6 : nm < 97
            · exact .inr (.inr (.inr (.inl ⟨by omega, h6, h1, h3⟩)))
            · by_cases h7 : nm ≤ 122
              · exact .inr (.inl ⟨by omega, h7⟩)
              · exact .inr (.inr (.inr (.inr ⟨by omega, h1, h3⟩)))
    have Hlt := Lib.hid hlt; clear hlt
    go_enter Tryd.func63, Tryd.ntmps63
    rcases hcase with ⟨h1, h2⟩ | ⟨h1, h2⟩ | ⟨h1, h2, h3⟩ | ⟨h1, h2, h3, h4⟩ | ⟨h1, h2, h3⟩
    all_goals
      go_wp2_with (go_at_call 74; refine (symIx_calls _ _).mono ?_; rintro e w' ⟨rfl, rfl⟩)
      clear h1 h2
      try clear h3
      try clear h4
      have hkp : ∀ k, F k → (w.alloc (.cells #[.int .u8 nm, .slice A args.length c] 49)).heap[k]? = w.heap[k]? := fun k hk => Below.heap_alloc _ _ _ (HF.out k hk)
      have H2 := Lib.hid (H.out.keep hkp)
      clear hkp
      go_loop [34] (fun i => ∃ k : Nat, k ≤ args.length ∧ i = .int .i64 k ∧ Hid (args.all argOk = (args.drop k).all argOk)) (fun i => args.length - (intOf i).toNat)
      case atStart => exact ⟨0, Nat.zero_le _, rfl, rfl⟩
      case round =>
        obtain ⟨k, hk, rfl, hall⟩ := hrel
        by_cases hlt : k < args.length
        · obtain ⟨b, o, x, hd, rfl, _, hcx, _⟩ := H2.out.getI hlt
          by_cases hx0 : x < -1000000000
          · go_wp2
            go_ret
            refine ⟨ret_bool ?_, (Below.refl _ _).alloc (Nat.le_refl _) _⟩
            unfold fineF; rw [hall.out, hd.out, List.all_cons, argOk_no (.inl hx0)]; simp
          · by_cases hx1 : 1000000000 < x
            · go_wp2
              go_ret
              refine ⟨ret_bool ?_, (Below.refl _ _).alloc (Nat.le_refl _) _⟩
              unfold fineF; rw [hall.out, hd.out, List.all_cons, argOk_no (.inr hx1)]; simp
            · go_wp2
              go_round
              case rel =>
                refine ⟨k + 1, by omega, by go_num, ?_⟩
                unfold Hid; rw [hall.out, hd.out, List.all_cons, argOk_yes hx0 hx1]; rfl
              case measure => simp [intOf]; omega
        · have hok : args.all argOk = true := by rw [hall.out, drop_end hlt]; rfl
          have Hok := Lib.hid hok; clear hok
          by_cases hl0 : args.length = 0
          · have e0 : ((args.length : Int) == 0) = true := by simp [hl0]
            have Hl0 := Lib.hid hl0; clear hl0
            go_wp2
            go_ret
            refine ⟨ret_bool ?_, (Below.refl _ _).alloc (Nat.le_refl _) _⟩
            unfold fineF shapeOk; rw [Hlt.out, Hok.out]; simp [Hl0.out]
          · have e0 : ((args.length : Int) == 0) = false := by simpa using hl0
            by_cases hl4 : args.length ≤ 4
            · by_cases h91 : nm = 91
              · have e1 : (nm != 91) = false := by simp [h91]
                have H91 := Lib.hid h91; clear h91
                go_wp2
                go_ret
                refine ⟨ret_bool ?_, (Below.refl _ _).alloc (Nat.le_refl _) _⟩
                unfold fineF shapeOk; simp [H91.out, hl0]
              · have e1 : (nm != 91) = true := by simp [h91]
                by_cases h93 : nm = 93
                · have e2 : (nm != 93) = false := by simp [h93]
                  have H93 := Lib.hid h93; clear h93
                  go_wp2
                  go_ret
                  refine ⟨ret_bool ?_, (Below.refl _ _).alloc (Nat.le_refl _) _⟩
                  unfold fineF shapeOk; simp [H93.out, hl0]
                · have e2 : (nm != 93) = true := by simp [h93]
                  go_wp2
                  go_ret
                  refine ⟨ret_bool ?_, (Below.refl _ _).alloc (Nat.le_refl _) _⟩
                  unfold fineF shapeOk; rw [Hlt.out, Hok.out]; simp [hl0, hl4, h91, h93]
            · go_wp2
              go_ret
              refine ⟨ret_bool ?_, (Below.refl _ _).alloc (Nat.le_refl _) _⟩
              unfold fineF shapeOk; rw [Hlt.out, Hok.out]; simp [hl0, hl4]

end Go.Proofs.YtlipmagkplbkdaaDoor
