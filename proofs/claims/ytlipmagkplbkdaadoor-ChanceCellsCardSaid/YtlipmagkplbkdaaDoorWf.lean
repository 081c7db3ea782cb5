/-
  Layer 6: the walk of the reference's Twin.
-/
import Derived.Test.YtlipmagkplbkdaaDoorWe
namespace Go.Proofs.YtlipmagkplbkdaaDoor
open Go.RowKit

def RefTwinPost (ms : List Mod) (w : World) (e : Ending) (w' : World) : Prop :=
  ∃ A c, e = .returned (.slice A ms.length c) ∧ Own pMod 49 w.heap.size (w.heap.size ≤ ·) w' (.slice A ms.length c) ms ∧ Below w.heap.size w w'

set_option maxRecDepth 100000 in
set_option maxHeartbeats 2000000 in
theorem refTwin_calls (A : Option Addr) (c : Nat) (ms : List Mod) (w : World) (h : SlAt pMod (Old w) w A c ms) (hbd : ms.length ≤ 10000) (hbd2 : ∀ m ∈ ms, m.args.length ≤ 1000) :
    Calls Tryd.prog 45 #[.slice A ms.length c] w (RefTwinPost ms w) := by
  have hmx := h.lenle
  have H := Lib.hid h; clear h
  have Hbd2 := Lib.hid hbd2; clear hbd2
  go_enter Tryd.func45, Tryd.ntmps45
  go_wp2
  go_loopw [4, 3] (fun i out wr => ∃ k : Nat, k ≤ ms.length ∧ i = .int .i64 k ∧ Hid (Below w.heap.size w wr) ∧ w.heap.size ≤ wr.heap.size ∧ ∃ A' c', out = .slice A' k c' ∧
    Hid (Own pMod 49 w.heap.size (w.heap.size ≤ ·) wr out (ms.take k))) (fun i _ _ => ms.length - (intOf i).toNat)
  case atStart => exact ⟨0, Nat.zero_le _, rfl, Below.refl _ _, Nat.le_refl _, none, 0, rfl, Own.nil⟩
  case round =>
    obtain ⟨k, hk, rfl, hb, hsz, Ao, co, rfl, hown⟩ := hrel
    obtain ⟨wo, rfl⟩ : ∃ wo : World, wo = wr := ⟨_, rfl⟩
    by_cases hlt : k < ms.length
    · obtain ⟨b, o, A', c', m, hd, rfl, hob, hc0, hc1, hf8, hargs, hl⟩ := (H.out.below hb.out).getMod hlt
      have hob' : b < wo.heap.size := Nat.lt_of_lt_of_le hob hsz
      have hal : m.args.length ≤ 1000 := Hbd2.out _ (mem_of_drop hd.out)
      have hk0 : (0 : Int) ≤ (k : Int) := Int.natCast_nonneg _
      have hk1 : (k : Int) < (ms.length : Int) := by omega
      have H8 := Lib.hid hf8; clear hf8
      have hnil : Own (pI .i64) 3 wo.heap.size (fun _ => True) ((wo.alloc (.cells #[] 3)).drew) (.slice (some ⟨wo.heap.size, 0, none⟩) 0 0) [] := Own.drew (Own.empty (Nat.le_refl _))
      have hs1 : SlAt (pI .i64) (Old w) ((wo.alloc (.cells #[] 3)).drew) A' c' m.args := hargs.out.keep (fun q hq => Below.heap_alloc _ _ _ (Nat.lt_of_lt_of_le hq hsz))
      have hF1 : ∀ q, Old w q → True ∧ q < ((wo.alloc (.cells #[] 3)).drew).heap.size ∧ some q ≠ (Value.slice (some ⟨wo.heap.size, 0, none⟩) 0 0).ownBlock := fun q hq => by
        have : q < w.heap.size := hq
        refine ⟨trivial, by simp; omega, fun he => ?_⟩
        simp [Value.ownBlock] at he; omega
      have hr1 : Room m.args.length := room_of (by omega)
      have hB1 : wo.heap.size ≤ ((wo.alloc (.cells #[] 3)).drew).heap.size := by simp
      have hk3 : (ms.take k ++ [m]).length = k + 1 := by simp; omega
      have hr2 : Room (k + 1) := room_of (by omega)
      have step2 : ∀ (A1 : Option Addr) (c1 : Nat) (w1 : World), Hid (Own (pI .i64) 3 wo.heap.size (fun _ => True) w1 (.slice A1 m.args.length c1) ([] ++ m.args)) → Below wo.heap.size ((wo.alloc (.cells #[] 3)).drew) w1 →
          Own pMod 49 w.heap.size (w.heap.size ≤ ·) (w1.alloc (.cells #[.int .u8 m.name, .slice A1 m.args.length c1] 49)) (.slice Ao k co) (ms.take k) ∧
          SlAt pMod (fun q => (wo.heap.size ≤ q ∧ q < w1.heap.size) ∨ q = w1.heap.size) (w1.alloc (.cells #[.int .u8 m.name, .slice A1 m.args.length c1] 49)) (some ⟨w1.heap.size, 0, none⟩) 1 [m] ∧
          (∀ q, ((wo.heap.size ≤ q ∧ q < w1.heap.size) ∨ q = w1.heap.size) → w.heap.size ≤ q ∧ q < (w1.alloc (.cells #[.int .u8 m.name, .slice A1 m.args.length c1] 49)).heap.size ∧ some q ≠ (Value.slice Ao k co).ownBlock) ∧
          w.heap.size ≤ (w1.alloc (.cells #[.int .u8 m.name, .slice A1 m.args.length c1] 49)).heap.size ∧ Below w.heap.size w (w1.alloc (.cells #[.int .u8 m.name, .slice A1 m.args.length c1] 49)) := by
        intro A1 c1 w1 h1 h2
        have hs2 : wo.heap.size < w1.heap.size := by have := h2.size; simp at this; omega
        have hb3 : Below wo.heap.size wo w1 := ⟨h2.os, h2.tape, h2.output, Nat.le_of_lt hs2, fun q hq => (h2.block q hq).trans (Below.heap_alloc _ _ _ hq)⟩
        obtain ⟨A3, c3, e3, h3⟩ := (h1.out.flat (pI_flat _) (G' := (wo.heap.size ≤ ·))).fresh
        cases e3
        refine ⟨(hown.out.later hb3).alloc _, sl_boxed (u := .agg #[.int .u8 m.name, .slice A1 m.args.length c1]) (F := fun q => wo.heap.size ≤ q ∧ q < w1.heap.size) ⟨A1, c1, rfl, H8.out, h3⟩ (fun q hq => hq.2), fun q hq => ⟨by omega, by simp; omega, fun he => ?_⟩, by simp; omega, (hb.out.trans (hb3.mono hsz)).alloc (by omega) _⟩
        have := hown.out.lt q he.symm
        omega
      have kp1 : ∀ w1 : World, Below wo.heap.size ((wo.alloc (.cells #[] 3)).drew) w1 → w1.cell? ⟨b, o + k * 2, none⟩ = some (.int .u8 m.name) ∧ w1.cell? ⟨b, o + k * 2 + 1, none⟩ = some (.slice A' m.args.length c') := by
        intro w1 h1
        have e : w1.heap[b]? = wo.heap[b]? := (h1.block b hob').trans (Below.heap_alloc _ _ _ hob')
        exact ⟨(cell_keep e).trans hc0, (cell_keep e).trans hc1⟩
      have kp2 : ∀ (w1 w2 : World) (ob : Obj), Below wo.heap.size ((wo.alloc (.cells #[] 3)).drew) w1 → Below w.heap.size (w1.alloc ob) w2 → w2.cell? ⟨b, o + k * 2, none⟩ = some (.int .u8 m.name) ∧ w2.cell? ⟨b, o + k * 2 + 1, none⟩ = some (.slice A' m.args.length c') := by
        intro w1 w2 ob h1 h2
        have hs2 : b < w1.heap.size := by have := h1.size; simp at this; omega
        have e : w2.heap[b]? = wo.heap[b]? := ((h2.block b hob).trans (Below.heap_alloc _ _ _ hs2)).trans ((h1.block b hob').trans (Below.heap_alloc _ _ _ hob'))
        exact ⟨(cell_keep e).trans hc0, (cell_keep e).trans hc1⟩
      have Kp1 := Lib.hid kp1; have Kp2 := Lib.hid kp2
      clear kp1 kp2
      have Hnil := Lib.hid hnil; have Hs1 := Lib.hid hs1; have HF1 := Lib.hid hF1; have Hr1 := Lib.hid hr1; have HB1 := Lib.hid hB1; have Hk3 := Lib.hid hk3; have Hr2 := Lib.hid hr2; have Step2 := Lib.hid step2
      clear hnil hs1 hF1 hr1 hB1 hk3 hr2 step2
      go_wp2_with fail
      go_region_held3 (fun w' => w'.cell? ⟨b, o + k * 2, none⟩ = some (.int .u8 m.name) ∧ w'.cell? ⟨b, o + k * 2 + 1, none⟩ = some (.slice A' m.args.length c'))
        (first | go_keep | exact Kp1.out _ hb1 | exact Kp2.out _ _ _ hb1 hb2)
        (first
          | ((refine step_cat (E := pI .i64) (xs := []) 47 3 (.int .i64 0) 8 (.tmp 17) (.tmp 22) rfl rfl Tryd.underlying47 info_int2 rfl (by decide) rfl Hnil.out A' c' m.args rfl (Old w) Hs1.out HF1.out m.args.length rfl Hr1.out (by decide) HB1.out ?_; intro A1 c1 w1 hown1 hb1 hk1))
          | ((refine step_cat (E := pMod) (xs := ms.take k) 23 49 (.agg #[.int .u8 0, .slice none 0 0]) 32 (.tmp 11) (.tmp 25) rfl rfl Tryd.underlying23 info_mod rfl (by decide) rfl (Step2.out A1 c1 w1 hown1 hb1).1 _ 1 [m] rfl _ (Step2.out A1 c1 w1 hown1 hb1).2.1 (Step2.out A1 c1 w1 hown1 hb1).2.2.1 (k + 1) Hk3.out Hr2.out (by decide) (Step2.out A1 c1 w1 hown1 hb1).2.2.2.1 ?_; intro A2 c2 w2 hown2 hb2 hk2)))
      have hbw : Below w.heap.size w w2 := (Step2.out A1 c1 w1 hown1 hb1).2.2.2.2.trans hb2
      have Hbw := Lib.hid hbw; clear hbw
      clear Step2 Kp1 Kp2 hb1 hb2
      go_wp2
      go_roundw
      case rel =>
        refine ⟨k + 1, by omega, by go_num, Hbw, Hbw.out.size, A2, c2, rfl, ?_⟩
        unfold Hid; rw [take_of_drop hd.out]; exact hown2.out
      case measure => simp [intOf]; omega
    · obtain rfl : k = ms.length := by omega
      go_wp2
      go_ret
      have := hown.out
      rw [List.take_length] at this
      exact ⟨_, _, rfl, this, hb.out⟩
end Go.Proofs.YtlipmagkplbkdaaDoor
