/-
  Layer 42: the walks of modules and of the reference's put.
-/
import Derived.Test.YtckffdaomjbglaaId
namespace Go.Proofs.Ytckffdaomjbglaa
open Go.RowKit Go.Sort

/-- a pair replaced -/
def putF (a b nm : Int) : List Int → List Int
  | x :: y :: r => if x = a ∧ y = b then nm :: putF a b nm r else x :: putF a b nm (y :: r)
  | [x] => [x]
  | [] => []
theorem putF_two (a b nm x y : Int) (r : List Int) : putF a b nm (x :: y :: r) = if x = a ∧ y = b then nm :: putF a b nm r else x :: putF a b nm (y :: r) := by simp [putF]
theorem putF_short {a b nm : Int} {l : List Int} (h : l.length ≤ 1) : putF a b nm l = l := by
  match l, h with
  | [], _ => simp [putF]
  | [x], _ => simp [putF]
def modOf (c : Int) : Mod := ⟨c, []⟩
def ModsPost (l : List Int) (w : World) (e : Ending) (w' : World) : Prop :=
  ∃ A c, e = .returned (.slice A l.length c) ∧ Own pMod 44 w.heap.size (w.heap.size ≤ ·) w' (.slice A l.length c) (l.map modOf) ∧ Below w.heap.size w w'
theorem sl_nilI {F : Nat → Prop} {w : World} {k : IntKind} : SlAt (pI k) F w none 0 [] := ⟨Nat.le_refl _, by simp, fun _ => rfl, fun i x hx => by simp at hx⟩
theorem modOf_R {F : Nat → Prop} {w : World} {c : Int} (h : Fits .u8 c) : pMod.R F w (Value.agg #[.int .u8 c, .slice none 0 0]).cells.toList (modOf c) :=
  ⟨none, 0, by simp [modOf, Value.cells], h, sl_nilI⟩
set_option maxRecDepth 100000 in
set_option maxHeartbeats 1000000 in
theorem modules_calls (A : Option Addr) (c : Nat) (l : List Int) (w : World) (h : SlAt (pI .u8) (Old w) w A c l) (hl : l.length ≤ 100000) : Calls Try.prog 20 #[.slice A l.length c] w (ModsPost l w) := by
  have hmx := h.lenle
  have H := Lib.hid h; clear h
  go_enter Try.func20, Try.ntmps20
  go_wp2
  go_loopw [8, 3] (fun i out wr => ∃ (k : Nat) (Ao : Option Addr) (co : Nat), k ≤ l.length ∧ i = .int .i64 k ∧ out = .slice Ao k co ∧ Hid (Below w.heap.size w wr) ∧ w.heap.size ≤ wr.heap.size ∧ Hid (Own pMod 44 w.heap.size (w.heap.size ≤ ·) wr (.slice Ao k co) ((l.take k).map modOf))) (fun i _ _ => l.length - (intOf i).toNat)
  case atStart => exact ⟨0, none, 0, Nat.zero_le _, rfl, rfl, Below.refl _ _, Nat.le_refl _, Own.nil⟩
  case round =>
    obtain ⟨k, Ao, co, hk, rfl, rfl, hb, hsz, hown⟩ := hrel
    obtain ⟨wo, rfl⟩ : ∃ wo : World, wo = wr := ⟨_, rfl⟩
    by_cases hlt : k < l.length
    case neg =>
      obtain rfl : k = l.length := by omega
      have hown' := hown.out
      rw [List.take_length] at hown'
      have Hown' := Lib.hid hown'; clear hown'
      go_wp2
      go_ret
      exact ⟨Ao, co, rfl, Hown'.out, hb.out⟩
    case pos =>
      obtain ⟨b, o, x, hd, hB, hob, q0, hx8⟩ := (H.out.below hb.out).getI hlt
      subst hB
      have hob' : b < wo.heap.size := by have : b < w.heap.size := hob; omega
      have hln : ((l.take k).map modOf).length + 1 = k + 1 := by rw [List.length_map, List.length_take]; omega
      have hrm : Room ((l.take k).map modOf).length := room_of (by rw [List.length_map, List.length_take]; omega)
      have hR : pMod.R (fun _ => False) wo (Value.agg #[.int .u8 x, .slice none 0 0]).cells.toList (modOf x) := modOf_R hx8
      have Hln := Lib.hid hln; clear hln
      have Hrm := Lib.hid hrm; clear hrm
      have HR := Lib.hid hR; clear hR
      have Hd := Lib.hid hd; clear hd
      have Hown := Lib.hid hown; clear hown
      go_wp2_with ((with_reducible show wpList _ _ _ (Oper.mk (some 15) _ _ _ _ _ :: _) _ _); refine wpList_pushG (E := pMod) (xs := (l.take k).map modOf) (v := .slice Ao k co) (base := w.heap.size) (G := (w.heap.size ≤ ·)) 22 44 (.agg #[.int .u8 0, .slice none 0 0]) 32 15 (.tmp 12) (.tmp 14) rfl rfl rfl rfl rfl Try.underlying22 (by kernel_rfl) rfl (by decide) (fun _ => rfl) (fun _ => rfl) Hown.out.out (.agg #[.int .u8 x, .slice none 0 0]) rfl (modOf x) (fun _ => False) HR.out (fun _ h => h.elim) (k + 1) Hln.out Hrm.out ⟨by decide, by decide⟩ hsz ?_; intro A6 c6 w6 hown6 hg6)
      go_roundw
      case rel =>
        have hz6 := hg6.out.bel.size
        refine ⟨k + 1, A6, c6, hlt, by go_num, rfl, hb.out.trans hg6.out.bel, by omega, ?_⟩
        unfold Hid; rw [take_of_drop Hd.out.out, List.map_append]; exact hown6.out
      case measure => simp [intOf]; omega
end Go.Proofs.Ytckffdaomjbglaa
