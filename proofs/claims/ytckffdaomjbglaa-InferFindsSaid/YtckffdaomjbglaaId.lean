/-
  Layer 42: the walk of the reference's Count.
-/
import Derived.Test.YtckffdaomjbglaaIb
namespace Go.Proofs.Ytckffdaomjbglaa
open Go.RowKit Go.Sort

theorem cntR_short {a b : Int} {l : List Int} (h : l.length ≤ 1) : cntR a b l = 0 := by
  match l, h with
  | [], _ => exact cntR_nil a b
  | [x], _ => exact cntR_one a b x
theorem map_drop_cons {ms : List Mod} {k : Nat} {m : Mod} (h : ms.drop k = m :: ms.drop (k + 1)) : (ms.map Mod.name).drop k = m.name :: (ms.map Mod.name).drop (k + 1) := by
  rw [← List.map_drop, h, List.map_cons, List.map_drop]
set_option maxRecDepth 100000 in
set_option maxHeartbeats 2000000 in
theorem refPairs_calls {F : Nat → Prop} (A : Option Addr) (c : Nat) (ms : List Mod) (x y : Int) (w : World) (h : SlAt pMod F w A c ms) (hl : ms.length ≤ 100000) : Calls Try.prog 31 #[.slice A ms.length c, .int .u8 x, .int .u8 y] w fun e w' => e = .returned (.int .i64 (cntR x y (ms.map Mod.name))) ∧ w = w' := by
  have hmx := h.lenle
  have H := Lib.hid h; clear h
  go_enter Try.func31, Try.ntmps31
  go_wp2
  go_loop [8, 7] (fun i nv => ∃ k : Nat, k ≤ ms.length ∧ i = .int .i64 k ∧ ∃ n : Int, nv = .int .i64 n ∧ 0 ≤ n ∧ n ≤ k ∧ Hid (cntR x y (ms.map Mod.name) = n + cntR x y ((ms.map Mod.name).drop k))) (fun i _ => ms.length - (intOf i).toNat)
  case atStart => exact ⟨0, Nat.zero_le _, rfl, 0, rfl, Int.le_refl _, Int.le_refl _, by unfold Hid; simp⟩
  case round =>
    obtain ⟨k, hk, rfl, n, rfl, hn0, hn1, hs⟩ := hrel
    by_cases hlt : k + 1 < ms.length
    case neg =>
      have hy : cntR x y (ms.map Mod.name) = n := by rw [hs.out, cntR_short (by rw [List.length_drop, List.length_map]; omega)]; omega
      have Hy := Lib.hid hy; clear hy
      go_wp2
      go_ret
      exact ⟨ret_int Hy.out.symm, rfl⟩
    case pos =>
      obtain ⟨b, o, D, d, m, hd, hB, hob, q0, q1, hx8, hxa, hxl⟩ := H.out.getMod (i := k) (by omega)
      obtain ⟨b', o', D', d', m', hd', hB', hob', q0', q1', hx8', hxa', hxl'⟩ := H.out.getMod (i := k + 1) hlt
      subst hB
      cases hB'
      have hst : cntR x y ((ms.map Mod.name).drop k) = if m.name = x ∧ m'.name = y then cntR x y ((ms.map Mod.name).drop (k + 2)) + 1 else cntR x y ((ms.map Mod.name).drop (k + 1)) := by
        rw [map_drop_cons hd.out, map_drop_cons hd'.out, cntR_two]
      have hk0 : (0 : Int) ≤ (k : Int) := Int.natCast_nonneg _
      have hk1 : (k : Int) < (ms.length : Int) := by omega
      have hk2 : (k : Int) + 1 < (ms.length : Int) := by omega
      clear q1 q1'
      by_cases h1 : m.name = x
      · have e1 : (m.name == x) = true := by simpa using h1
        by_cases h2 : m'.name = y
        · have e2 : (m'.name == y) = true := by simpa using h2
          rw [if_pos ⟨h1, h2⟩] at hst
          have Hst := Lib.hid hst; clear hst
          clear h1 h2
          go_wp2
          go_round
          case rel => exact ⟨k + 2, by omega, by go_num, n + 1, by go_num, by omega, by omega, by unfold Hid; rw [hs.out, Hst.out]; omega⟩
          case measure => simp [intOf]; omega
        · have e2 : (m'.name == y) = false := by simpa using h2
          rw [if_neg (fun h => h2 h.2)] at hst
          have Hst := Lib.hid hst; clear hst
          clear h1 h2
          go_wp2
          go_round
          case rel => exact ⟨k + 1, by omega, by go_num, n, by go_num, by omega, by omega, by unfold Hid; rw [hs.out, Hst.out]⟩
          case measure => simp [intOf]; omega
      · have e1 : (m.name == x) = false := by simpa using h1
        rw [if_neg (fun h => h1 h.1)] at hst
        have Hst := Lib.hid hst; clear hst
        clear h1
        go_wp2
        go_round
        case rel => exact ⟨k + 1, by omega, by go_num, n, by go_num, by omega, by omega, by unfold Hid; rw [hs.out, Hst.out]⟩
        case measure => simp [intOf]; omega
end Go.Proofs.Ytckffdaomjbglaa
