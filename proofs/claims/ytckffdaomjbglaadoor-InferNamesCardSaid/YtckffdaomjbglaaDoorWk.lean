/-
  Layer 6: the walks of equal, word.Same, Count, Depth.
-/
import Derived.Test.YtckffdaomjbglaaDoorWj
namespace Go.Proofs.YtckffdaomjbglaaDoor
open Go.RowKit

/-! ### Count -/
def countF (c : Int) (ms : List Mod) : Nat := ms.countP (fun m => m.name == c)
set_option maxRecDepth 100000 in
set_option maxHeartbeats 1000000 in
theorem count_calls (A : Option Addr) (c : Nat) (ms : List Mod) (nm : Int) (w : World) (h : SlAt pMod (Old w) w A c ms) :
    Calls Tryd.prog 16 #[.slice A ms.length c, .int .u8 nm] w (IntPost (countF nm ms) w) := by
  have hmx := h.lenle
  have H := Lib.hid h; clear h
  go_enter Tryd.func16, Tryd.ntmps16
  go_wp2
  go_loopw [10, 5] (fun i n wr => ∃ k q : Nat, k ≤ ms.length ∧ q ≤ k ∧ i = .int .i64 k ∧ n = .int .i64 q ∧ Hid (countF nm ms = q + countF nm (ms.drop k)) ∧ Hid (Below w.heap.size w wr)) (fun i _ _ => ms.length - (intOf i).toNat)
  case atStart => exact ⟨0, 0, Nat.zero_le _, Nat.le_refl _, rfl, rfl, by unfold Hid; simp, Below.refl _ _⟩
  case round =>
    obtain ⟨k, q, hk, hq, rfl, rfl, hc, hb⟩ := hrel
    obtain ⟨wo, rfl⟩ : ∃ wo : World, wo = wr := ⟨_, rfl⟩
    by_cases hlt : k < ms.length
    · obtain ⟨b, o, A', c', m, hd, rfl, _, hx0, hx1, _, _, _⟩ := (H.out.below hb.out).getMod hlt
      cases hn : (m.name == nm)
      · go_wp2
        go_roundw
        case rel =>
          refine ⟨k + 1, q, by omega, by omega, by go_num, rfl, ?_, hb.out.alloc hb.out.size _⟩
          unfold Hid; rw [hc.out, hd.out]; unfold countF; rw [List.countP_cons, hn]; simp
        case measure => simp [intOf]; omega
      · go_wp2
        go_roundw
        case rel =>
          refine ⟨k + 1, q + 1, by omega, by omega, by go_num, by go_num, ?_, hb.out.alloc hb.out.size _⟩
          unfold Hid; rw [hc.out, hd.out]; unfold countF; rw [List.countP_cons, hn]; simp; omega
        case measure => simp [intOf]; omega
    · go_wp2
      go_ret
      exact ⟨ret_int (by rw [hc.out, drop_end hlt]; simp [countF]), hb.out⟩
end Go.Proofs.YtckffdaomjbglaaDoor
