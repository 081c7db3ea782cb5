/-
  Layer 6: the walks of Depth.
-/
import Derived.Test.YtnhdjcdipnginaaDoorWl
namespace Go.Proofs.YtnhdjcdipnginaaDoor
open Go.RowKit

set_option maxRecDepth 100000 in
set_option maxHeartbeats 1000000 in
theorem depth_calls (A : Option Addr) (c : Nat) (ms : List Mod) (w : World) (h : SlAt pMod (Old w) w A c ms) :
    Calls Tryd.prog 17 #[.slice A ms.length c] w (PairPost (depthF ms) w) := by
  have hmx := h.lenle
  have H := Lib.hid h; clear h
  go_enter Tryd.func17, Tryd.ntmps17
  go_wp2_with fail
  refine (wordCheck_calls A c ms w H.out).mono ?_
  rintro e w1 ⟨rfl, hb1⟩
  have hs1 := hb1.size
  have Hb1 := Lib.hid hb1; clear hb1
  by_cases hc : checkF ms = 0
  · have e1 : (checkF ms != 0) = false := by simp [hc]
    have hle := (check_zero hc).1
    have hdf : depthF ms = (deep 0 0 ms, 0) := by unfold depthF; rw [if_pos hc]
    have Hdf := Lib.hid hdf; clear hdf hc
    go_wp2
    go_loopw [16, 5, 6] (fun i op mo wr => ∃ k : Nat, ∃ p q : Int, k ≤ ms.length ∧ i = .int .i64 k ∧ op = .int .i64 p ∧ mo = .int .i64 q ∧ -(k : Int) ≤ p ∧ p ≤ k ∧ -(k : Int) ≤ q ∧ q ≤ k ∧ Hid (deep 0 0 ms = deep p q (ms.drop k)) ∧ Hid (Below w.heap.size w wr)) (fun i _ _ _ => ms.length - (intOf i).toNat)
    case atStart => exact ⟨0, 0, 0, Nat.zero_le _, rfl, rfl, rfl, by omega, by omega, by omega, by omega, rfl, Hb1⟩
    case round =>
      obtain ⟨k, p, q, hk, rfl, rfl, rfl, hp0, hp1, hq0, hq1, hdp, hb⟩ := hrel
      obtain ⟨wo, rfl⟩ : ∃ wo : World, wo = wr := ⟨_, rfl⟩
      by_cases hlt : k < ms.length
      · obtain ⟨b, o, A', c', m, hd, rfl, _, hx0, hx1, _, _, _⟩ := (H.out.below hb.out).getMod hlt
        by_cases h91 : m.name = 91
        · have e2 : (m.name == 91) = true := by simp [h91]
          have e3 : (m.name == 93) = false := by simp [h91]
          have Hn := Lib.hid h91; clear h91
          go_wp2
          go_roundw
          case rel =>
            refine ⟨k + 1, p + 1, max q (p + 1), by omega, by go_num, by go_num, by go_num, by omega, by omega, by omega, by omega, ?_, hb.out.alloc hb.out.size _⟩
            unfold Hid; rw [hdp.out, hd.out]; conv => lhs; unfold deep
            rw [if_pos Hn.out]
          case measure => simp [intOf]; omega
        · have e2 : (m.name == 91) = false := by simp [h91]
          by_cases h93 : m.name = 93
          · have e3 : (m.name == 93) = true := by simp [h93]
            have Hn := Lib.hid h91; have Hn2 := Lib.hid h93; clear h91 h93
            go_wp2
            go_roundw
            case rel =>
              refine ⟨k + 1, p - 1, q, by omega, by go_num, by go_num, rfl, by omega, by omega, by omega, by omega, ?_, hb.out.alloc hb.out.size _⟩
              unfold Hid; rw [hdp.out, hd.out]; conv => lhs; unfold deep
              rw [if_neg Hn.out, if_pos Hn2.out]
            case measure => simp [intOf]; omega
          · have e3 : (m.name == 93) = false := by simp [h93]
            have Hn := Lib.hid h91; have Hn2 := Lib.hid h93; clear h91 h93
            go_wp2
            go_roundw
            case rel =>
              refine ⟨k + 1, p, q, by omega, by go_num, rfl, rfl, by omega, by omega, by omega, by omega, ?_, hb.out.alloc hb.out.size _⟩
              unfold Hid; rw [hdp.out, hd.out]; conv => lhs; unfold deep
              rw [if_neg Hn.out, if_neg Hn2.out]
            case measure => simp [intOf]; omega
      · have hq : deep 0 0 ms = q := by rw [hdp.out, drop_end hlt]; rfl
        have Hq := Lib.hid hq; clear hq
        go_wp2
        go_ret2
        exact ⟨by rw [Hdf.out, Hq.out]; rfl, hb.out⟩
  · have e1 : (checkF ms != 0) = true := by simp [hc]
    have Hc := Lib.hid hc; clear hc
    go_wp2
    go_ret2
    exact ⟨by unfold depthF; rw [if_neg Hc.out]; rfl, Hb1.out⟩

end Go.Proofs.YtnhdjcdipnginaaDoor
