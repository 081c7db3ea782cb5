/-
  Layer 42: the walk of the reference's SameRules, of two lists that are alike.
-/
import Derived.Test.YtckffdaomjbglaaDoorIr
import Derived.BigQuiet
import Derived.Deep.QuietTactic
import Derived.Test.YtckffdaomjbglaaDoorLx
namespace Go.Proofs.YtckffdaomjbglaaDoor
open Go.RowKit Go.Sort Go.BigFrame
set_option linter.unusedVariables false

set_option maxRecDepth 100000 in
set_option maxHeartbeats 4000000 in
theorem sameRules_calls (A B : Option Addr) (c d : Nat) (rl : List (Int × Int × Int)) (w : World) (h : SlAt pRul (Old w) w A c (rl.map rulO)) (h' : SlAt pRul (Old w) w B d (rl.map rulO)) (hl : rl.length ≤ 1000) :
    Calls Tryd.prog 14 #[.slice A rl.length c, .slice B rl.length d] w (OkPost w) := by
  have hmx := h.lenle
  have hmrl : (rl.map rulO).length = rl.length := List.length_map ..
  have enl : ((rl.length : Int) != (rl.length : Int)) = false := by simp
  rw [hmrl] at hmx
  have H := Lib.hid h; clear h
  have H' := Lib.hid h'; clear h'
  have Hmrl := Lib.hid hmrl; clear hmrl
  go_enter Tryd.func14, Tryd.ntmps14
  go_wp2
  go_loopw [5] (fun i wr => ∃ (k : Nat), k ≤ rl.length ∧ i = .int .i64 k ∧ Hid (Below w.heap.size w wr)) (fun i _ => rl.length - (intOf i).toNat)
  case atStart => exact ⟨0, Nat.zero_le _, rfl, Below.refl _ _⟩
  case round =>
    obtain ⟨k, hk, rfl, hb⟩ := hrel
    obtain ⟨wo, rfl⟩ : ∃ wo : World, wo = wr := ⟨_, rfl⟩
    by_cases hlt : k < rl.length
    case neg =>
      obtain rfl : k = rl.length := by omega
      go_wp2
      go_ret
      exact ⟨rfl, hb.out⟩
    case pos =>
      obtain ⟨r, hr⟩ : ∃ r, rl[k]? = some r := ⟨_, List.getElem?_eq_getElem hlt⟩
      have Hr := Lib.hid hr; clear hr
      obtain ⟨ba, oa, A1, A2, A3, A4, qa, xdr, xA, xob, x0, x1, x2, x3, x4, x5, x6, xfits, xgs, xos, xgl, xol⟩ := (H.out.later hb.out).getRul (i := k) (by rw [Hmrl.out]; exact hlt)
      subst xA
      obtain rfl : qa = rulO r := by
        have h1 := get_of_drop xdr.out
        rw [List.getElem?_map, Hr.out] at h1
        exact (Option.some.inj h1).symm
      have x0' : wo.cell? ⟨ba, oa + k * 7, none⟩ = some (.int .u8 r.1) := x0
      have x1' : wo.cell? ⟨ba, oa + k * 7 + 1, none⟩ = some (.int .i64 0) := x1
      have x2' : wo.cell? ⟨ba, oa + k * 7 + 2, none⟩ = some (.int .u8 0) := x2
      have x3' : wo.cell? ⟨ba, oa + k * 7 + 3, none⟩ = some (.int .u8 0) := x3
      have x4' : wo.cell? ⟨ba, oa + k * 7 + 4, none⟩ = some (.slice A1 0 A2) := x4
      have x5' : wo.cell? ⟨ba, oa + k * 7 + 5, none⟩ = some (.int .i64 0) := x5
      have x6' : wo.cell? ⟨ba, oa + k * 7 + 6, none⟩ = some (.slice A3 2 A4) := x6
      clear x0 x1 x2 x3 x4 x5 x6
      obtain ⟨bb, ob, B1, B2, B3, B4, qb, ydr, yA, yob, y0, y1, y2, y3, y4, y5, y6, yfits, ygs, yos, ygl, yol⟩ := (H'.out.later hb.out).getRul (i := k) (by rw [Hmrl.out]; exact hlt)
      subst yA
      obtain rfl : qb = rulO r := by
        have h1 := get_of_drop ydr.out
        rw [List.getElem?_map, Hr.out] at h1
        exact (Option.some.inj h1).symm
      have y0' : wo.cell? ⟨bb, ob + k * 7, none⟩ = some (.int .u8 r.1) := y0
      have y1' : wo.cell? ⟨bb, ob + k * 7 + 1, none⟩ = some (.int .i64 0) := y1
      have y2' : wo.cell? ⟨bb, ob + k * 7 + 2, none⟩ = some (.int .u8 0) := y2
      have y3' : wo.cell? ⟨bb, ob + k * 7 + 3, none⟩ = some (.int .u8 0) := y3
      have y4' : wo.cell? ⟨bb, ob + k * 7 + 4, none⟩ = some (.slice B1 0 B2) := y4
      have y5' : wo.cell? ⟨bb, ob + k * 7 + 5, none⟩ = some (.int .i64 0) := y5
      have y6' : wo.cell? ⟨bb, ob + k * 7 + 6, none⟩ = some (.slice B3 2 B4) := y6
      clear y0 y1 y2 y3 y4 y5 y6
      have hk0 : (0 : Int) ≤ (k : Int) := Int.natCast_nonneg _
      have hk1 : (k : Int) < (rl.length : Int) := by omega
      have en : (r.1 != r.1) = false := by simp
      have Xdr := Lib.hid xdr; clear xdr
      have Ydr := Lib.hid ydr; clear ydr
      have Xgs := Lib.hid xgs; clear xgs
      have Ygs := Lib.hid ygs; clear ygs
      have Xos := Lib.hid xos; clear xos
      have Yos := Lib.hid yos; clear yos
      clear xfits yfits xgl ygl xol yol
      go_wp2
      dsimp only [List.append]
      refine wp_region_quiet_big (by kernel_rfl) (by kernel_rfl) (by kernel_rfl) ?_
      repeat (go_big_quiet_step (fail))
      refine wpQuiet_nil ?_
      intro _ hw'
      obtain ⟨nq, hw''⟩ := hw'
      subst hw''
      have hbr := hb.out.trans ((below_drewN (Below.refl wo.heap.size wo) nq).mono hb.out.size)
      have hb5 := below_drewN (Below.refl wo.heap.size wo) nq
      have q6 := fun (n off : Nat) (v : Value) (hv : wo.cell? ⟨n, off, none⟩ = some v) => (show (wo.drewN nq).cell? ⟨n, off, none⟩ = some v from hv)
      have x6' := q6 _ _ _ x6'
      have y6' := q6 _ _ _ y6'
      generalize wo.drewN nq = w5 at hbr hb5 x6' y6' ⊢
      have hzo5 : wo.heap.size ≤ w5.heap.size := by
        have := hbr.size
        have h2 : Below wo.heap.size wo w5 := hb5
        exact h2.size
      have xos5 := Xos.out.out.later hb5
      have yos5 := Yos.out.out.later hb5
      have hba5 : ba < w5.heap.size := by have : ba < wo.heap.size := xob; omega
      have hbb5 : bb < w5.heap.size := by have : bb < wo.heap.size := yob; omega
      have Hbr := Lib.hid hbr; clear hbr
      have Q6 := Lib.hid q6; clear q6
      have Xos5 := Lib.hid xos5; clear xos5
      have Yos5 := Lib.hid yos5; clear yos5
      have Hb5 := Lib.hid hb5; clear hb5
      clear x0' x1' x2' x3' x4' x5' y0' y1' y2' y3' y4' y5'
      go_wp2_with fail
      go_loopw [6] (fun iv wv => ∃ (n : Nat), iv = .int .i64 n ∧ n ≤ 2 ∧ Hid (Below w5.heap.size w5 wv)) (fun i _ => 2 - (intOf i).toNat)
      case atStart => exact ⟨0, rfl, by omega, Below.refl _ _⟩
      case round =>
        obtain ⟨n, rfl, hn2, hbv⟩ := hrel
        obtain ⟨wv, rfl⟩ : ∃ wv : World, wv = wr := ⟨_, rfl⟩
        have x6v := (cell_keep (hbv.out.block ba hba5)).trans x6'
        have y6v := (cell_keep (hbv.out.block bb hbb5)).trans y6'
        have hbwv : Below w.heap.size w wv := Hbr.out.trans (hbv.out.mono (Hbr.out.size))
        by_cases hlt2 : n < 2
        case neg =>
          obtain rfl : n = 2 := by omega
          have Hbwv := Lib.hid hbwv; clear hbwv
          go_wp2
          go_roundw
          case rel => exact ⟨k + 1, by omega, by go_num, Hbwv⟩
          case measure => simp [intOf]; omega
        case pos =>
          obtain ⟨b8, o8, As, cs, s1, hd1, hA8, hob8, s10, s11, hs18, _, _⟩ := (Xos5.out.later hbv.out).getShp (i := n) (by show n < 2; omega)
          subst hA8
          obtain ⟨b9, o9, At, ct, s2, hd2, hA9, hob9, t10, t11, ht18, _, _⟩ := (Yos5.out.later hbv.out).getShp (i := n) (by show n < 2; omega)
          subst hA9
          obtain rfl : s2 = s1 := by
            have h1 := hd1.out
            rw [hd2.out] at h1
            injection h1
          have en2 : (s2.name != s2.name) = false := by simp
          have el2 : ((s2.args.length : Int) != (s2.args.length : Int)) = false := by simp
          have hn0 : (0 : Int) ≤ (n : Int) := Int.natCast_nonneg _
          have hn1 : (n : Int) < 2 := by omega
          have Hd1 := Lib.hid hd1; clear hd1
          have Hd2 := Lib.hid hd2; clear hd2
          have Hbwv := Lib.hid hbwv; clear hbwv
          clear hs18 ht18 hob8 hob9
          go_wp2_with fail
          go_big_quiet (fail)
          have hb6 := hbv.out.trans ((below_drewN (Below.refl wv.heap.size wv) nq).mono hbv.out.size)
          generalize wv.drewN nq = w6 at hb6 ⊢
          have Hb6 := Lib.hid hb6; clear hb6
          go_wp2
          go_roundw
          case rel => exact ⟨n + 1, by go_num, by omega, Hb6⟩
          case measure => simp [intOf]; omega
end Go.Proofs.YtckffdaomjbglaaDoor
