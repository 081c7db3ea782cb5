/-
  Layer 42: the walk of the reference's put.
-/
import Derived.Test.YtckffdaomjbglaaIe
namespace Go.Proofs.Ytckffdaomjbglaa
open Go.RowKit Go.Sort

theorem putF_last {a b nm : Int} {l : List Int} {k : Nat} {x : Int} (hd : l.drop k = x :: l.drop (k + 1)) (h : l.length ≤ k + 1) : putF a b nm (l.drop k) = x :: putF a b nm (l.drop (k + 1)) := by
  have h1 : l.drop (k + 1) = [] := List.drop_eq_nil_iff.2 h
  rw [hd, h1]; simp [putF]
set_option maxRecDepth 100000 in
set_option maxHeartbeats 2000000 in
theorem refPut_calls (A : Option Addr) (c : Nat) (ms : List Mod) (x y nm : Int) (w : World) (h : SlAt pMod (Old w) w A c ms) (hl : ms.length ≤ 100000) (hnm : Fits .u8 nm) :
    Calls Try.prog 23 #[.slice A ms.length c, .int .u8 x, .int .u8 y, .int .u8 nm] w (ModsPost (putF x y nm (ms.map Mod.name)) w) := by
  have hmx := h.lenle
  have H := Lib.hid h; clear h
  go_enter Try.func23, Try.ntmps23
  go_wp2
  go_loopw [10, 9] (fun i out wr => ∃ (k n : Nat) (Ao : Option Addr) (co : Nat) (pre : List Int), k ≤ ms.length ∧ i = .int .i64 k ∧ out = .slice Ao n co ∧ n ≤ k ∧ Hid (pre.length = n) ∧ Hid (Below w.heap.size w wr) ∧ w.heap.size ≤ wr.heap.size ∧
    Hid (putF x y nm (ms.map Mod.name) = pre ++ putF x y nm ((ms.map Mod.name).drop k)) ∧ Hid (Own pMod 44 w.heap.size (w.heap.size ≤ ·) wr (.slice Ao n co) (pre.map modOf))) (fun i _ _ => ms.length - (intOf i).toNat)
  case atStart => exact ⟨0, 0, none, 0, [], Nat.zero_le _, rfl, rfl, Nat.le_refl _, rfl, Below.refl _ _, Nat.le_refl _, by unfold Hid; simp, Own.nil⟩
  case round =>
    obtain ⟨k, n, Ao, co, pre, hk, rfl, rfl, hnk, hpn, hb, hsz, hs, hown⟩ := hrel
    obtain ⟨wo, rfl⟩ : ∃ wo : World, wo = wr := ⟨_, rfl⟩
    by_cases hlt : k < ms.length
    case neg =>
      obtain rfl : k = ms.length := by omega
      have hfin : putF x y nm (ms.map Mod.name) = pre := by
        rw [hs.out, List.drop_eq_nil_iff.2 (by rw [List.length_map]; exact Nat.le_refl _)]; simp [putF]
      have Hfin := Lib.hid hfin; clear hfin
      go_wp2
      go_ret
      exact ⟨Ao, co, by rw [Hfin.out, hpn.out]; rfl, by rw [Hfin.out, hpn.out]; exact hown.out, hb.out⟩
    case pos =>
      obtain ⟨b, o, D, d, m, hd, hB, hob, q0, q1, hx8, hxa, hxl⟩ := (H.out.below hb.out).getMod (i := k) hlt
      subst hB
      have hdn := map_drop_cons hd.out
      have hk0 : (0 : Int) ≤ (k : Int) := Int.natCast_nonneg _
      have hk1 : (k : Int) < (ms.length : Int) := by omega
      have hln : (pre.map modOf).length + 1 = n + 1 := by rw [List.length_map, hpn.out]
      have hrm : Room (pre.map modOf).length := room_of (by rw [List.length_map, hpn.out]; omega)
      have hRm : pMod.R (fun _ => False) wo (Value.agg #[.int .u8 m.name, .slice none 0 0]).cells.toList (modOf m.name) := modOf_R hx8
      have hRn : pMod.R (fun _ => False) wo (Value.agg #[.int .u8 nm, .slice none 0 0]).cells.toList (modOf nm) := modOf_R hnm
      clear q1
      have Hln := Lib.hid hln; clear hln
      have Hrm := Lib.hid hrm; clear hrm
      have HRm := Lib.hid hRm; clear hRm
      have HRn := Lib.hid hRn; clear hRn
      have Hdn := Lib.hid hdn; clear hdn
      have Hd := Lib.hid hd; clear hd
      by_cases hl2 : k + 1 < ms.length
      case neg =>
        have hst : putF x y nm ((ms.map Mod.name).drop k) = m.name :: putF x y nm ((ms.map Mod.name).drop (k + 1)) := putF_last Hdn.out (by rw [List.length_map]; omega)
        have Hst := Lib.hid hst; clear hst
        go_wp2_with ((with_reducible show wpList _ _ _ (Oper.mk (some 55) _ _ _ _ _ :: _) _ _); refine wpList_pushG (E := pMod) (xs := pre.map modOf) (v := .slice Ao n co) (base := w.heap.size) (G := (w.heap.size ≤ ·)) 22 44 (.agg #[.int .u8 0, .slice none 0 0]) 32 55 (.tmp 48) (.tmp 54) rfl rfl rfl rfl rfl Try.underlying22 (by kernel_rfl) rfl (by decide) (fun _ => rfl) (fun _ => rfl) hown.out (.agg #[.int .u8 m.name, .slice none 0 0]) rfl (modOf m.name) (fun _ => False) HRm.out (fun _ h => h.elim) (n + 1) Hln.out Hrm.out ⟨by decide, by decide⟩ hsz ?_; intro A6 c6 w6 hown6 hg6)
        go_roundw
        case rel =>
          have hz6 := hg6.out.bel.size
          refine ⟨k + 1, n + 1, A6, c6, pre ++ [m.name], hlt, by go_num, rfl, by omega, ?_, hb.out.trans hg6.out.bel, by omega, ?_, ?_⟩
          · unfold Hid; rw [List.length_append, hpn.out]; rfl
          · unfold Hid; rw [hs.out, Hst.out, List.append_assoc]; rfl
          · unfold Hid; rw [List.map_append]; exact hown6.out
        case measure => simp [intOf]; omega
      case pos =>
        obtain ⟨b', o', D', d', m', hd', hB', hob', q0', q1', hx8', hxa', hxl'⟩ := (H.out.below hb.out).getMod (i := k + 1) hl2
        cases hB'
        have hst : putF x y nm ((ms.map Mod.name).drop k) = if m.name = x ∧ m'.name = y then nm :: putF x y nm ((ms.map Mod.name).drop (k + 2)) else m.name :: putF x y nm ((ms.map Mod.name).drop (k + 1)) := by
          rw [Hdn.out, map_drop_cons hd'.out, putF_two]
        have hk2 : (k : Int) + 1 < (ms.length : Int) := by omega
        clear q1'
        by_cases hm : m.name = x ∧ m'.name = y
        · have e1 : (m.name == x) = true := by simpa using hm.1
          have e2 : (m'.name == y) = true := by simpa using hm.2
          rw [if_pos hm] at hst
          have Hst := Lib.hid hst; clear hst
          clear hm
          go_wp2_with ((with_reducible show wpList _ _ _ (Oper.mk (some 44) _ _ _ _ _ :: _) _ _); refine wpList_pushG (E := pMod) (xs := pre.map modOf) (v := .slice Ao n co) (base := w.heap.size) (G := (w.heap.size ≤ ·)) 22 44 (.agg #[.int .u8 0, .slice none 0 0]) 32 44 (.tmp 41) (.tmp 43) rfl rfl rfl rfl rfl Try.underlying22 (by kernel_rfl) rfl (by decide) (fun _ => rfl) (fun _ => rfl) hown.out (.agg #[.int .u8 nm, .slice none 0 0]) rfl (modOf nm) (fun _ => False) HRn.out (fun _ h => h.elim) (n + 1) Hln.out Hrm.out ⟨by decide, by decide⟩ hsz ?_; intro A6 c6 w6 hown6 hg6)
          go_roundw
          case rel =>
            have hz6 := hg6.out.bel.size
            refine ⟨k + 2, n + 1, A6, c6, pre ++ [nm], by omega, by go_num, rfl, by omega, ?_, hb.out.trans hg6.out.bel, by omega, ?_, ?_⟩
            · unfold Hid; rw [List.length_append, hpn.out]; rfl
            · unfold Hid; rw [hs.out, Hst.out, List.append_assoc]; rfl
            · unfold Hid; rw [List.map_append]; exact hown6.out
          case measure => simp [intOf]; omega
        · rw [if_neg hm] at hst
          have hcas : ((m.name == x) = false) ∨ ((m.name == x) = true ∧ (m'.name == y) = false) := by
            by_cases h1 : m.name = x
            · exact .inr ⟨by simpa using h1, by simpa using fun h2 => hm ⟨h1, h2⟩⟩
            · exact .inl (by simpa using h1)
          have Hst := Lib.hid hst; clear hst
          clear hm
          rcases hcas with e1 | ⟨e1, e2⟩
          all_goals
            go_wp2_with ((with_reducible show wpList _ _ _ (Oper.mk (some 55) _ _ _ _ _ :: _) _ _); refine wpList_pushG (E := pMod) (xs := pre.map modOf) (v := .slice Ao n co) (base := w.heap.size) (G := (w.heap.size ≤ ·)) 22 44 (.agg #[.int .u8 0, .slice none 0 0]) 32 55 (.tmp 48) (.tmp 54) rfl rfl rfl rfl rfl Try.underlying22 (by kernel_rfl) rfl (by decide) (fun _ => rfl) (fun _ => rfl) hown.out (.agg #[.int .u8 m.name, .slice none 0 0]) rfl (modOf m.name) (fun _ => False) HRm.out (fun _ h => h.elim) (n + 1) Hln.out Hrm.out ⟨by decide, by decide⟩ hsz ?_; intro A6 c6 w6 hown6 hg6)
            go_roundw
            case rel =>
              have hz6 := hg6.out.bel.size
              refine ⟨k + 1, n + 1, A6, c6, pre ++ [m.name], hlt, by go_num, rfl, by omega, ?_, hb.out.trans hg6.out.bel, by omega, ?_, ?_⟩
              · unfold Hid; rw [List.length_append, hpn.out]; rfl
              · unfold Hid; rw [hs.out, Hst.out, List.append_assoc]; rfl
              · unfold Hid; rw [List.map_append]; exact hown6.out
            case measure => simp [intOf]; omega
end Go.Proofs.Ytckffdaomjbglaa
