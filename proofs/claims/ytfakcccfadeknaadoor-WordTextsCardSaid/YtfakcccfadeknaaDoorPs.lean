/-
  Layer 6: the walk of the reference's Text.
-/
import Derived.Test.YtfakcccfadeknaaDoorPq
import Derived.Test.YtfakcccfadeknaaDoorPh
import Derived.Laws.IdiomStrings
namespace Go.Proofs.YtfakcccfadeknaaDoor
open Go.RowKit Go.Sort
set_option linter.unusedVariables false

theorem fineS_args {m : Mod} (h : fineF m = true) : m.args.all argOk = true ∧ m.args.length ≤ 4 := by
  unfold fineF shapeOk at h
  simp only [Bool.and_eq_true, Bool.or_eq_true, beq_iff_eq, decide_eq_true_eq] at h
  refine ⟨h.1.2, ?_⟩
  rcases h.2 with h | h
  · omega
  · exact h.1.1
theorem own_str {w : World} {B n : Nat} {Ao : Option Addr} {co : Nat} {l : List UInt8} (h : w.ownsRowF B 5 1 (.slice Ao n co) n (Lib.byteCells l)) (hl : l.length = n) :
    (convert 40 9 (.slice Ao n co)).run Tryd.prog w = .ok (.string ⟨l.toArray⟩) w := by
  subst hl
  rcases h.2 with ⟨hv, h0⟩ | ⟨g, cap, cur, fz, hv, _, hg, _, _, _, _, ht⟩
  · have : l = [] := List.eq_nil_of_length_eq_zero h0
    subst this
    rw [hv]
    rw [run_convert_bytes_string w 40 9 5 none 0 0 Tryd.underlying40 Tryd.underlying5 Tryd.underlying9]; rfl
  · rw [hv]
    refine run_convert_bytes_back (P := Tryd.prog) w 40 9 5 ⟨g, 0, none⟩ cap l Tryd.underlying40 Tryd.underlying5 Tryd.underlying9 fun j hj => ?_
    rw [Addr.add_lit, Nat.zero_add, Lib.cell_of_heap hg]
    have h1 := congrArg (fun x => x[j]?) ht
    simp only [List.getElem?_take_of_lt (show j < l.length * 1 by omega), Array.getElem?_toList] at h1
    rw [h1]
    unfold Lib.byteCells
    rw [List.getElem?_map, List.getElem?_eq_getElem hj]
    rfl
set_option maxRecDepth 100000 in
set_option maxHeartbeats 4000000 in
theorem refText_calls (A : Option Addr) (c : Nat) (ms : List Mod) (w : World) (h : SlAt pMod (Old w) w A c ms) :
    Calls Tryd.prog 6 #[.slice A ms.length c] w (TextPost ms w) := by
  have hmx := h.lenle
  have H := Lib.hid h; clear h
  by_cases hck : checkF ms = 0
  · have e0 : (checkF ms != 0) = false := by simp [hck]
    have hall := check_all hck
    have hlen := check_len hck
    have htl := textL_len hall
    have hres : textF ms = if 50000 < (textL ms).length then ([], 4) else (textL ms, 0) := by unfold textF; rw [if_pos hck]
    have Hall := Lib.hid hall; clear hall
    have Hres := Lib.hid hres; clear hres
    have Hck := Lib.hid hck; clear hck
    go_enter Tryd.func6, Tryd.ntmps6
    go_wp2_with fail
    refine (refCheck_calls A c ms w H.out).mono ?_
    rintro e w1 ⟨rfl, b1⟩
    have z1 := b1.size
    have hnil : Hid (w1.ownsRowF w1.heap.size 5 1 (.slice none 0 0) 0 (Lib.byteCells (textL (ms.take 0)))) := ⟨rfl, .inl ⟨rfl, rfl⟩⟩
    have B1 := Lib.hid b1; clear b1
    go_wp2
    clear e0
    go_loopw [5, 4] (fun i s wr => ∃ (k n : Nat) (Ao : Option Addr) (co : Nat), k ≤ ms.length ∧ i = .int .i64 k ∧ s = .slice Ao n co ∧ n ≤ 100000 ∧ Hid ((textL (ms.take k)).length = n) ∧ w1.heap.size ≤ wr.heap.size ∧ Hid (Below w.heap.size w wr) ∧ Hid (wr.ownsRowF w1.heap.size 5 1 (.slice Ao n co) n (Lib.byteCells (textL (ms.take k))))) (fun i _ _ => ms.length - (intOf i).toNat)
    case atStart => exact ⟨0, 0, none, 0, Nat.zero_le _, rfl, rfl, by omega, rfl, Nat.le_refl _, B1.out, hnil⟩
    case round =>
      obtain ⟨k, n, Ao, co, hk, rfl, rfl, hn, hln, hsz, hb, hown⟩ := hrel
      obtain ⟨wo, rfl⟩ : ∃ wo : World, wo = wr := ⟨_, rfl⟩
      by_cases hlt : k < ms.length
      · obtain ⟨b, o, A1, c1, m, hd, rfl, hob, hc0, hc1, hm8, hargs, hal⟩ := (H.out.below hb.out).getMod hlt
        have hfm : fineF m = true := List.all_eq_true.1 Hall.out m (mem_of_drop hd.out)
        have hlet := letter_fine hfm
        obtain ⟨hao, hal4⟩ := fineS_args hfm
        have hpl : (textL (ms.take k)).length ≤ 50 * k := by
          have := textL_len (ms := ms.take k) (by
            rw [List.all_eq_true]
            exact fun x hx => List.all_eq_true.1 Hall.out x (List.mem_of_mem_take hx))
          rw [List.length_take] at this; omega
        have hpl2 : (textL (ms.take (k + 1))).length ≤ 100000 := by
          have := textL_len (ms := ms.take (k + 1)) (by
            rw [List.all_eq_true]
            exact fun x hx => List.all_eq_true.1 Hall.out x (List.mem_of_mem_take hx))
          rw [List.length_take] at this; omega
        have htk := textL_take hd.out
        obtain ⟨T, hT⟩ : ∃ T, textL (ms.take k) = T := ⟨_, rfl⟩
        rw [hT] at htk hpl hown hln
        have hcb : m.name = ((m.name.toNat.toUInt8).toNat : Int) := (name_byte hlet).symm
        have hl2 : (T ++ [m.name.toNat.toUInt8]).length = n + 1 := by rw [List.length_append, hln.out]; rfl
        obtain ⟨P0, hP0⟩ : ∃ P0, T ++ [m.name.toNat.toUInt8] = P0 := ⟨_, rfl⟩
        rw [hP0] at hl2
        have hml : textL (ms.take (k + 1)) = P0 ++ argL m.args := by rw [htk, ← hP0, List.append_assoc]; rfl
        have Hcb := Lib.hid hcb; clear hcb
        have Htk := Lib.hid htk; clear htk
        have HT := Lib.hid hT; clear hT
        have Hpl2 := Lib.hid hpl2; clear hpl2
        have Hl2 := Lib.hid hl2; clear hl2
        have HP0 := Lib.hid hP0; clear hP0
        have Hml := Lib.hid hml; clear hml
        have Hfm := Lib.hid hfm; clear hfm
        go_wp2_with (at_builtin; refine byte_app (w0 := w) (B := w1.heap.size) (l := T) (b := m.name.toNat.toUInt8) Hcb.out rfl (.tmp 19) (.tmp 25) rfl rfl rfl hown.out hln.out (by omega) hsz hb.out z1 ?_; intro A2 c2 w2 hown2 hb2 z2)
        rw [HP0.out] at hown2
        have hown2' : Hid (w2.ownsRowF w1.heap.size 5 1 (.slice A2 (n + 1) c2) (n + 1) (Lib.byteCells (P0 ++ argP (m.args.take 0)))) := by unfold Hid; rw [List.take_zero]; show World.ownsRowF _ _ _ _ _ _ (Lib.byteCells (P0 ++ [])); rw [List.append_nil]; exact hown2.out
        have hl2' : Hid ((P0 ++ argP (m.args.take 0)).length = n + 1) := by unfold Hid; rw [List.take_zero]; show (P0 ++ []).length = _; rw [List.append_nil]; exact Hl2.out
        clear hown2
        go_wp2
        go_loopw [6, 4] (fun i s wr => ∃ (j n3 : Nat) (A3 : Option Addr) (c3 : Nat), j ≤ m.args.length ∧ i = .int .i64 j ∧ s = .slice A3 n3 c3 ∧ n3 ≤ 100001 + 30 * j ∧ Hid ((P0 ++ argP (m.args.take j)).length = n3) ∧ w1.heap.size ≤ wr.heap.size ∧ Hid (Below w.heap.size w wr) ∧ Hid (wr.ownsRowF w1.heap.size 5 1 (.slice A3 n3 c3) n3 (Lib.byteCells (P0 ++ argP (m.args.take j))))) (fun i _ _ => m.args.length - (intOf i).toNat)
        case atStart => exact ⟨0, n + 1, A2, c2, Nat.zero_le _, rfl, rfl, by omega, hl2', z2, hb2, hown2'⟩
        case round =>
          obtain ⟨j, n3, A3, c3, hj, rfl, rfl, hn3, hln3, hsz3, hb3, hown3⟩ := hrel
          obtain ⟨wp, rfl⟩ : ∃ wp : World, wp = wr := ⟨_, rfl⟩
          have hargs3 : SlAt (pI .i64) (Old w) wp A1 c1 m.args := hargs.out.keep fun q hq => (hb3.out.block q hq).trans (hb.out.block q hq).symm
          have y1 : wp.cell? ⟨b, o + k * 2 + 1, none⟩ = some (.slice A1 m.args.length c1) := (cell_keep ((hb3.out.block b hob).trans (hb.out.block b hob).symm)).trans hc1
          by_cases hlt3 : j < m.args.length
          · obtain ⟨b4, o4, x, hdx, rfl, hob4, hcx, hfx⟩ := hargs3.getI hlt3
            have hxo : argOk x = true := List.all_eq_true.1 hao x (mem_of_drop hdx.out)
            obtain ⟨hx0, hx1⟩ := argOk_le hxo
            have hsn := argP_snoc x (m.args.take j)
            rw [← take_of_drop hdx.out, List.length_take, Nat.min_eq_left (Nat.le_of_lt hlt3)] at hsn
            have hil := itoa_len hx0 hx1
            obtain ⟨Q, hQ⟩ : ∃ Q, P0 ++ argP (m.args.take j) = Q := ⟨_, rfl⟩
            rw [hQ] at hown3 hln3
            have Hargs3 := Lib.hid hargs3; clear hargs3
            have Hao := Lib.hid hao; clear hao
            have Hown3 := Lib.hid hown3; clear hown3
            have Hln3 := Lib.hid hln3; clear hln3
            by_cases hj0 : j = 0
            · subst hj0
              have hnx : P0 ++ argP (m.args.take (0 + 1)) = Q ++ [(40 : UInt8)] ++ Lib.itoa x := by rw [hsn, ← hQ]; simp
              rw [Nat.add_zero] at hcx
              clear hsn
              have Hnx := Lib.hid hnx; clear hnx
              have HQ := Lib.hid hQ; clear hQ
              go_wp2_with (at_builtin; refine byte_app (w0 := w) (B := w1.heap.size) (l := Q) (b := 40) rfl rfl (.tmp 39) (.tmp 41) rfl rfl rfl Hown3.out Hln3.out (by omega) hsz3 hb3.out z1 ?_; intro A5 c5 w5 hown5 hb5 z5; (have cx5 : w5.cell? ⟨b4, o4, none⟩ = some (.int .i64 x) := (cell_keep ((hb5.out.block b4 hob4).trans (hb3.out.block b4 hob4).symm)).trans hcx); (have y5 : w5.cell? ⟨b, o + k * 2 + 1, none⟩ = some (.slice (some ⟨b4, o4, none⟩) m.args.length c1) := (cell_keep ((hb5.out.block b hob).trans (hb.out.block b hob).symm)).trans hc1))
              go_wp2_with fail
              refine (decimal_calls x ⟨by omega, by omega⟩ w5).mono ?_
              rintro e w6 ⟨rfl, rfl⟩
              have hl5 : (Q ++ [(40 : UInt8)]).length = n3 + 1 := by rw [List.length_append, Hln3.out]; rfl
              have hl6 : (Q ++ [(40 : UInt8)] ++ Lib.itoa x).length = n3 + 1 + (Lib.itoa x).length := by rw [List.length_append, hl5]
              obtain ⟨L, hL⟩ : ∃ L, (Lib.itoa x).length = L := ⟨_, rfl⟩
              rw [hL] at hil hl6
              have Hl5 := Lib.hid hl5; clear hl5
              have Hl6 := Lib.hid hl6; clear hl6
              have HL := Lib.hid hL; clear hL
              go_wp2_with (at_builtin; refine str_app (w0 := w) (B := w1.heap.size) (l := Q ++ [(40 : UInt8)]) (m := Lib.itoa x) (k := L) rfl (.tmp 43) (.tmp 52) rfl rfl rfl HL.out hown5.out Hl5.out (by omega) z5 hb5.out z1 ?_; intro A7 c7 w7 hown7 hb7 z7)
              rw [← Hnx.out] at hown7 Hl6
              go_roundw
              case rel => exact ⟨0 + 1, n3 + 1 + L, A7, c7, by omega, by go_num, rfl, by omega, Hl6, z7, hb7, hown7⟩
              case measure => simp [intOf]; omega
            · have hnx : P0 ++ argP (m.args.take (j + 1)) = Q ++ [(44 : UInt8)] ++ Lib.itoa x := by rw [hsn, if_neg hj0, ← hQ]; simp
              have ej : ((j : Int) == 0) = false := by simp; omega
              clear hsn
              have Hnx := Lib.hid hnx; clear hnx
              have HQ := Lib.hid hQ; clear hQ
              go_wp2_with (at_builtin; refine byte_app (w0 := w) (B := w1.heap.size) (l := Q) (b := 44) rfl rfl (.tmp 39) (.tmp 41) rfl rfl rfl Hown3.out Hln3.out (by omega) hsz3 hb3.out z1 ?_; intro A5 c5 w5 hown5 hb5 z5; (have cx5 : w5.cell? ⟨b4, o4 + j, none⟩ = some (.int .i64 x) := (cell_keep ((hb5.out.block b4 hob4).trans (hb3.out.block b4 hob4).symm)).trans hcx); (have y5 : w5.cell? ⟨b, o + k * 2 + 1, none⟩ = some (.slice (some ⟨b4, o4, none⟩) m.args.length c1) := (cell_keep ((hb5.out.block b hob).trans (hb.out.block b hob).symm)).trans hc1))
              go_wp2_with fail
              refine (decimal_calls x ⟨by omega, by omega⟩ w5).mono ?_
              rintro e w6 ⟨rfl, rfl⟩
              have hl5 : (Q ++ [(44 : UInt8)]).length = n3 + 1 := by rw [List.length_append, Hln3.out]; rfl
              have hl6 : (Q ++ [(44 : UInt8)] ++ Lib.itoa x).length = n3 + 1 + (Lib.itoa x).length := by rw [List.length_append, hl5]
              obtain ⟨L, hL⟩ : ∃ L, (Lib.itoa x).length = L := ⟨_, rfl⟩
              rw [hL] at hil hl6
              have Hl5 := Lib.hid hl5; clear hl5
              have Hl6 := Lib.hid hl6; clear hl6
              have HL := Lib.hid hL; clear hL
              go_wp2_with (at_builtin; refine str_app (w0 := w) (B := w1.heap.size) (l := Q ++ [(44 : UInt8)]) (m := Lib.itoa x) (k := L) rfl (.tmp 43) (.tmp 52) rfl rfl rfl HL.out hown5.out Hl5.out (by omega) z5 hb5.out z1 ?_; intro A7 c7 w7 hown7 hb7 z7)
              rw [← Hnx.out] at hown7 Hl6
              go_roundw
              case rel => exact ⟨j + 1, n3 + 1 + L, A7, c7, by omega, by go_num, rfl, by omega, Hl6, z7, hb7, hown7⟩
              case measure => simp [intOf]; omega
          · obtain rfl : j = m.args.length := by omega
            have hal2 := argL_argP m.args
            rw [List.take_length] at hown3 hln3
            obtain ⟨Q, hQ⟩ : ∃ Q, P0 ++ argP m.args = Q := ⟨_, rfl⟩
            rw [hQ] at hown3 hln3
            have hp2 := Hpl2.out
            have hm2 := Hml.out
            by_cases hl0 : 0 < m.args.length
            · have hnx : textL (ms.take (k + 1)) = Q ++ [(41 : UInt8)] := by rw [hm2, hal2, if_pos hl0, ← hQ, List.append_assoc]
              have hl5 : (Q ++ [(41 : UInt8)]).length = n3 + 1 := by rw [List.length_append, hln3.out]; rfl
              rw [hnx, hl5] at hp2
              have Hnx := Lib.hid hnx; clear hnx
              have Hl5 := Lib.hid hl5; clear hl5
              have HQ := Lib.hid hQ; clear hQ
              have Hal2 := Lib.hid hal2; clear hal2
              have Hm2 := Lib.hid hm2; clear hm2
              go_wp2_with (at_builtin; refine byte_app (w0 := w) (B := w1.heap.size) (l := Q) (b := 41) rfl rfl (.tmp 61) (.tmp 62) rfl rfl rfl hown3.out hln3.out (by omega) hsz3 hb3.out z1 ?_; intro A5 c5 w5 hown5 hb5 z5)
              rw [← Hnx.out] at hown5 Hl5
              go_roundw
              case rel => exact ⟨k + 1, n3 + 1, A5, c5, by omega, by go_num, rfl, by omega, Hl5, z5, hb5, hown5⟩
              case measure => simp [intOf]; omega
            · have hnx : textL (ms.take (k + 1)) = Q := by rw [hm2, hal2, if_neg hl0, ← hQ, List.append_nil]
              rw [hnx, hln3.out] at hp2
              rw [← hnx] at hown3 hln3
              clear hnx hal2 hm2
              have HQ := Lib.hid hQ; clear hQ
              go_wp2
              go_roundw
              case rel => exact ⟨k + 1, n3, A3, c3, by omega, by go_num, rfl, by omega, hln3, hsz3, hb3, hown3⟩
              case measure => simp [intOf]; omega
      · have hkt : ms.take k = ms := List.take_of_length_le (by omega)
        rw [hkt] at hown hln
        have hcv := own_str hown.out hln.out
        have hr := Hres.out
        have hl' := hln.out
        by_cases hbig : 50000 < n
        · rw [hl', if_pos hbig] at hr
          have Hr := Lib.hid hr; clear hr
          clear hcv
          go_wp2
          go_ret2
          exact ⟨by rw [Hr.out]; rfl, hb.out⟩
        · rw [hl', if_neg hbig] at hr
          obtain ⟨st, hst⟩ : ∃ st : ByteArray, st = ⟨(textL ms).toArray⟩ := ⟨_, rfl⟩
          rw [← hst] at hcv
          have Hr := Lib.hid hr; clear hr
          have Hst := Lib.hid hst; clear hst
          go_wp2
          go_ret2
          exact ⟨by rw [Hr.out, Hst.out]; rfl, hb.out⟩
  · have e0 : (checkF ms != 0) = true := by simp [hck]
    have hres : textF ms = ([], checkF ms) := by unfold textF; rw [if_neg hck]
    have Hres := Lib.hid hres; clear hres
    have Hck := Lib.hid hck; clear hck
    go_enter Tryd.func6, Tryd.ntmps6
    go_wp2_with fail
    refine (refCheck_calls A c ms w H.out).mono ?_
    rintro e w1 ⟨rfl, b1⟩
    have B1 := Lib.hid b1; clear b1
    go_wp2_with fail
    refine (refCheck_calls A c ms w1 (H.out.later B1.out)).mono ?_
    rintro e w2 ⟨rfl, b2⟩
    have T2 := Lib.hid (B1.out.trans (b2.mono B1.out.size)); clear b2
    go_wp2
    go_ret2
    exact ⟨by rw [Hres.out]; rfl, T2.out⟩
end Go.Proofs.YtfakcccfadeknaaDoor
