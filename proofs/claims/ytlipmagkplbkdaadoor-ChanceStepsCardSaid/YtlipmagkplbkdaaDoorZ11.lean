/-
  Several texts in one.
-/
import Derived.Test.YtlipmagkplbkdaaDoorZ10
import Derived.Laws.ResultCell
import Derived.Test.YtlipmagkplbkdaaDoorL6
/-! L4 -/
namespace Go.Proofs.YtlipmagkplbkdaaDoor
open Go.RowKit Go.Sort Go.BigFrame
set_option linter.unusedVariables false
set_option linter.unusedSimpArgs false
theorem results_row1 {fn : Func} {p : Tmp} {ty : TypeId} (h : fn.results = #[.cell p ty]) (tmps : Array Value) (P : Program) (w : World) (g : Nat) (t : TypeId) (cs : Array Value) {fs}
    (hp : tmps.getD p undef = .pointer (some ⟨g, 0, none⟩)) (hg : Blk w g t cs) (hu : P.underlying ty = some (.struct fs)) (hi : (P.info? ty).map (·.size) = some cs.size) :
    (results fn tmps).run P w = .ok (.agg cs) w := by
  simp only [results, h]
  rw [Array.getD_eq_getD_getElem?] at hp
  simp [Sem.run_bind, Result.andThen, hp, asAddr, run_loadVar_row w g t ty cs (0, 0) _ hg hu rfl hi]
end Go.Proofs.YtlipmagkplbkdaaDoor

/-! L7 -/
namespace Go.Proofs.YtlipmagkplbkdaaDoor
open Go.RowKit Go.Sort Go.BigFrame
set_option linter.unusedVariables false
set_option linter.unusedSimpArgs false
def rStep9 (rs : List Rul) (s : Int) (l : List Cel) : List Cel × Int := if checkC rs = 0 then (if cellsR l = 0 then stepR9 rs s l else ([], cellsR l)) else ([], checkC rs)
theorem cells_fine {l : List Cel} (h : cellsR l = 0) : l.length ≤ 2000 ∧ (∀ x ∈ l, pathF x.path = true) ∧ checkF (l.map (·.mod)) = 0 := by
  unfold cellsR at h
  by_cases h1 : 2000 < l.length
  · rw [if_pos h1] at h; cases h
  · rw [if_neg h1] at h
    by_cases h2 : (l.all fun x => pathF x.path) = true
    · rw [if_pos h2] at h
      exact ⟨by omega, List.all_eq_true.1 h2, h⟩
    · rw [if_neg h2] at h; cases h
theorem cells_each {l : List Cel} (h : cellsR l = 0) : ∀ x ∈ l, fineF x.mod = true ∧ x.path.size ≤ 300 := fun x hx => by
  obtain ⟨_, h2, h3⟩ := cells_fine h
  refine ⟨checkF_fine h3 _ (List.mem_map.2 ⟨x, hx, rfl⟩), ?_⟩
  have := h2 x hx
  unfold pathF at this
  simp only [Bool.and_eq_true, decide_eq_true_eq] at this
  have := this.1.2
  omega
theorem stepR9_err {rs : List Rul} {s : Int} {l : List Cel} (h : errL rs s l ≠ 0) : stepR9 rs s l = ([], errL rs s l) := by unfold stepR9; rw [if_pos h]
theorem stepR9_many {rs : List Rul} {s : Int} {l : List Cel} (h : errL rs s l = 0) (h2 : 2000 < (allL rs s l).length) : stepR9 rs s l = ([], 4) := by unfold stepR9; rw [if_neg (by rw [h]; decide), if_pos h2]
theorem stepR9_ok {rs : List Rul} {s : Int} {l : List Cel} (h : errL rs s l = 0) (h2 : ¬ 2000 < (allL rs s l).length) : stepR9 rs s l = (allL rs s l, 0) := by unfold stepR9; rw [if_neg (by rw [h]; decide), if_neg h2]
set_option maxRecDepth 100000 in
set_option maxHeartbeats 8000000 in
theorem refStep9_calls (A : Option Addr) (c : Nat) (rs : List Rul) (s : Int) (B : Option Addr) (cb : Nat) (l : List Cel) (w : World) (h : SlAt pRul (Old w) w A c rs) (h' : SlAt pCel (Old w) w B cb l) (hs : Fits .i64 s) (hsm : Small rs) :
    Calls Tryd.prog 29 #[.slice A rs.length c, .int .i64 s, .slice B l.length cb] w (CelsPost (rStep9 rs s l) w) := by
  have hmx := h.lenle
  have hmx' := h'.lenle
  have hck := refCheckC_calls A c rs w h hsm
  unfold IntPost at hck
  by_cases hc : checkC rs = 0
  case neg =>
    have e0 : (checkC rs != 0) = true := by simp [hc]
    have hff : rStep9 rs s l = ([], checkC rs) := by unfold rStep9; rw [if_neg hc]
    have hck2 : ∀ w1, Below w.heap.size w w1 → Calls Tryd.prog 22 #[.slice A rs.length c] w1 fun e w' => e = .returned (.int .i64 (checkC rs)) ∧ Below w1.heap.size w1 w' := fun w1 hb => refCheckC_calls A c rs w1 (h.later hb) hsm
    generalize checkC rs = x at hck hck2 hff e0
    clear hc
    have H := Lib.hid h; clear h
    have H' := Lib.hid h'; clear h'
    have Hff := Lib.hid hff; clear hff
    have Hck := Lib.hid hck; clear hck
    have Hck2 := Lib.hid hck2; clear hck2
    go_enter Tryd.func29, Tryd.ntmps29
    go_wp2_with fail
    refine Hck.out.mono ?_
    rintro e w1 ⟨rfl, hb1⟩
    have hz1 := hb1.size
    have hck3 := Hck2.out _ hb1
    have Hb1 := Lib.hid hb1; clear hb1
    have Hck3 := Lib.hid hck3; clear hck3
    go_wp2_with fail
    refine Hck3.out.mono ?_
    rintro e w2 ⟨rfl, hb2⟩
    have hbw2 := Hb1.out.trans (hb2.mono hz1)
    have Hbw2 := Lib.hid hbw2; clear hbw2
    go_wp2
    go_ret2
    exact celsPost_none Hff.out Hbw2.out
  case pos =>
  rw [hc] at hck
  have hv := rval_of hc
  have hcl : ∀ w1, Below w.heap.size w w1 → Calls Tryd.prog 24 #[.slice B l.length cb] w1 fun e w' => e = .returned (.int .i64 (cellsR l)) ∧ Below w1.heap.size w1 w' := fun w1 hb => refCells_calls B cb l w1 (h'.later hb)
  by_cases hl0 : cellsR l = 0
  case neg =>
    have e0 : (cellsR l != 0) = true := by simp [hl0]
    have hff : rStep9 rs s l = ([], cellsR l) := by unfold rStep9; rw [if_pos hc, if_neg hl0]
    generalize cellsR l = x at hcl hff e0
    clear hl0
    have H := Lib.hid h; clear h
    have H' := Lib.hid h'; clear h'
    have Hff := Lib.hid hff; clear hff
    have Hck := Lib.hid hck; clear hck
    have Hcl := Lib.hid hcl; clear hcl
    have Hc := Lib.hid hc; clear hc
    have Hv := Lib.hid hv; clear hv
    go_enter Tryd.func29, Tryd.ntmps29
    go_wp2_with fail
    refine Hck.out.mono ?_
    rintro e w1 ⟨rfl, hb1⟩
    have hz1 := hb1.size
    have hcl1 := Hcl.out _ hb1
    have Hb1 := Lib.hid hb1; clear hb1
    have Hcl1 := Lib.hid hcl1; clear hcl1
    go_wp2_with fail
    refine Hcl1.out.mono ?_
    rintro e w2 ⟨rfl, hb2⟩
    have hbw2 := Hb1.out.trans (hb2.mono hz1)
    have hz2 := hbw2.size
    have hcl2 := Hcl.out _ hbw2
    have Hbw2 := Lib.hid hbw2; clear hbw2
    have Hcl2 := Lib.hid hcl2; clear hcl2
    clear hb2
    go_wp2_with fail
    refine Hcl2.out.mono ?_
    rintro e w3 ⟨rfl, hb3⟩
    have hbw3 := Hbw2.out.trans (hb3.mono hz2)
    have Hbw3 := Lib.hid hbw3; clear hbw3
    go_wp2
    go_ret2
    exact celsPost_none Hff.out Hbw3.out
  case pos =>
  have hff : rStep9 rs s l = stepR9 rs s l := by unfold rStep9; rw [if_pos hc, if_pos hl0]
  have heach := cells_each hl0
  have hlen := (cells_fine hl0).1
  have hcl0 := hcl
  rw [hl0] at hcl
  have hn0 : (allL rs s (l.take 0)).length = 0 := rfl
  have he0 : errL rs s (l.take 0) = 0 := rfl
  have H := Lib.hid h; clear h
  have H' := Lib.hid h'; clear h'
  have Hff := Lib.hid hff; clear hff
  have Hck := Lib.hid hck; clear hck
  have Hcl := Lib.hid hcl; clear hcl
  have Hc := Lib.hid hc; clear hc
  have Hv := Lib.hid hv; clear hv
  have Hl0 := Lib.hid hl0; clear hl0
  have Heach := Lib.hid heach; clear heach
  have Hs := Lib.hid hs; clear hs
  have Hn0 := Lib.hid hn0; clear hn0
  have He0 := Lib.hid he0; clear he0
  have Hcl0 := Lib.hid hcl0; clear hcl0
  go_enter Tryd.func29, Tryd.ntmps29
  go_wp2_with fail
  refine Hck.out.mono ?_
  rintro e w1 ⟨rfl, hb1⟩
  have hz1 := hb1.size
  have hcl1 := Hcl.out _ hb1
  have Hb1 := Lib.hid hb1; clear hb1
  have Hcl1 := Lib.hid hcl1; clear hcl1
  go_wp2_with fail
  refine Hcl1.out.mono ?_
  rintro e w2 ⟨rfl, hb2⟩
  have hbw2 := Hb1.out.trans (hb2.mono hz1)
  have hz2 := hbw2.size
  have Hbw2 := Lib.hid hbw2; clear hbw2
  clear hb2 hz1
  go_wp2
  go_loopw [9, 8] (fun i out wr => ∃ (k n : Nat) (Ao : Option Addr) (co : Nat), k ≤ l.length ∧ i = .int .i64 k ∧ out = .slice Ao n co ∧ Hid (Below w2.heap.size w2 wr) ∧ w2.heap.size ≤ wr.heap.size ∧ Hid ((allL rs s (l.take k)).length = n) ∧ Hid (errL rs s (l.take k) = 0) ∧
    Hid (Own pCel 51 w2.heap.size (w2.heap.size ≤ ·) wr (.slice Ao n co) (allL rs s (l.take k)))) (fun i _ _ => l.length - (intOf i).toNat)
  case atStart => exact ⟨0, 0, none, 0, Nat.zero_le _, rfl, rfl, Below.refl _ _, Nat.le_refl _, Hn0, He0, Own.nil⟩
  case round =>
    obtain ⟨k, n, Ao, co, hk, rfl, rfl, hb, hsz, hn, he, how⟩ := hrel
    obtain ⟨wo, rfl⟩ : ∃ wo : World, wo = wr := ⟨_, rfl⟩
    have hbwo : Below w.heap.size w wo := Hbw2.out.trans (hb.out.mono hz2)
    by_cases hlt : k < l.length
    case neg =>
      obtain rfl : k = l.length := by omega
      have hn' := hn.out
      have he' := he.out
      have how' := how.out
      rw [List.take_length] at hn' he' how'
      by_cases hbig : 2000 < n
      · have hst := stepR9_many he' (by rw [hn']; exact hbig)
        have Hst := Lib.hid hst; clear hst
        have Hbwo := Lib.hid hbwo; clear hbwo
        clear hn' he' how' hn he how
        go_wp2
        go_ret2
        exact celsPost_none (Hff.out.trans Hst.out) Hbwo.out
      · have hst := stepR9_ok he' (by rw [hn']; exact hbig)
        have hsl : SlAt pCel (fun q => w.heap.size ≤ q ∧ q < wo.heap.size) wo Ao co (allL rs s l) := by
          obtain ⟨A2, c2, e2, hs2⟩ := how'.fresh
          injection e2 with e21 e22 e23
          subst e21 e23
          exact hs2.wide fun q hq => ⟨Nat.le_trans hz2 hq.1, hq.2⟩
        have Hst := Lib.hid hst; clear hst
        have Hbwo := Lib.hid hbwo; clear hbwo
        have Hsl := Lib.hid hsl; clear hsl
        have Hn' := Lib.hid hn'; clear hn'
        clear he' how' hn he how
        go_wp2
        go_ret2
        rw [Hff.out, Hst.out]
        refine ⟨Ao, co, ?_, Hsl.out, Hbwo.out⟩
        show Ending.returned (.tuple #[.slice Ao n co, .int .i64 0]) = _
        rw [Hn'.out]
    case pos =>
      obtain ⟨b, o, D, d, x, hd, hB, hob, q0, q1, q2, hps, hf8, hxa, hxl⟩ := (H'.out.below hbwo).getCel hlt
      subst hB
      have hobw : b < w.heap.size := hob
      have hxk : l[k]? = some x := get_of_drop hd.out
      obtain ⟨hxf, hxp⟩ := Heach.out x (mem_of_drop hd.out)
      have hnl : n ≤ k * 20 := by have h1 := allL_len Hv.out s (l.take k); rw [hn.out, List.length_take] at h1; omega
      have hcall := refSucc_calls A c rs s x D d wo (H.out.later hbwo) (hxa.out.wide fun q hq => by have : q < w.heap.size := hq; show q < _; omega) hf8 Hs.out Hv.out hxf hxp
      have hlen20 := succR_len Hv.out s x
      have hes := errL_snoc hxk he.out
      have has := allL_snoc (rs := rs) (s := s) hxk
      have hk0 : (0 : Int) ≤ (k : Int) := Int.natCast_nonneg _
      have hk1 : (k : Int) < (l.length : Int) := by omega
      obtain ⟨⟨sl, sv⟩, hsr⟩ : ∃ p, succR rs s x = p := ⟨_, rfl⟩
      rw [hsr] at hcall hlen20 hes has
      simp only at hlen20 hes has
      unfold CelsPost at hcall
      by_cases h0 : sv = 0
      case neg =>
        have e0 : (sv != 0) = true := by simp [h0]
        have her : errL rs s l = sv := by rw [← hes]; exact errL_take (by rw [hes]; exact h0)
        have hr : stepR9 rs s l = ([], sv) := by rw [stepR9_err (by rw [her]; exact h0), her]
        have Hcall := Lib.hid hcall; clear hcall
        have Hes := Lib.hid hes; clear hes
        have Has := Lib.hid has; clear has
        have Her := Lib.hid her; clear her
        have Hr := Lib.hid hr; clear hr
        have Hd := Lib.hid hd; clear hd
        have Hxa := Lib.hid hxa; clear hxa
        have Hxk := Lib.hid hxk; clear hxk
        have H0 := Lib.hid h0; clear h0
        have Hbwo := Lib.hid hbwo; clear hbwo
        go_wp2_with (go_at_call 54; refine Hcall.out.mono ?_; rintro e w4 ⟨A4, c4, rfl, hs4, hb4⟩)
        go_ret2
        exact celsPost_none (Hff.out.trans Hr.out) (Hbwo.out.trans (hb4.mono (by omega)))
      case pos =>
        subst h0
        have Hcall := Lib.hid hcall; clear hcall
        have Hes := Lib.hid hes; clear hes
        have Has := Lib.hid has; clear has
        have Hd := Lib.hid hd; clear hd
        have Hxa := Lib.hid hxa; clear hxa
        have Hxk := Lib.hid hxk; clear hxk
        have Hbwo := Lib.hid hbwo; clear hbwo
        go_upto_region 12 with (go_at_call 54; refine Hcall.out.mono ?_; rintro e w4 ⟨A4, c4, rfl, hs4, hb4⟩)
        have hs4 : SlAt pCel (fun q => wo.heap.size ≤ q ∧ q < w4.heap.size) w4 A4 c4 sl := hs4
        have hz4 := hb4.size
        have hb24 : Below w2.heap.size w2 w4 := hb.out.trans (hb4.mono hsz)
        have how4 := how.out.later hb4
        have hF : ∀ q, (wo.heap.size ≤ q ∧ q < w4.heap.size) → w2.heap.size ≤ q ∧ q < w4.heap.size ∧ some q ≠ (Value.slice Ao n co).ownBlock := fun q hq => ⟨by omega, hq.2, fun he => by have := (how.out.lt q he.symm).2; omega⟩
        have hlk : (allL rs s (l.take k) ++ sl).length = n + sl.length := by rw [List.length_append, hn.out]
        have hrk : Room (n + sl.length) := room_of (by omega)
        have hba : w2.heap.size ≤ w4.heap.size := by omega
        have Hs4 := Lib.hid hs4; clear hs4
        have Hb4 := Lib.hid hb4; clear hb4
        have Hb24 := Lib.hid hb24; clear hb24
        have How4 := Lib.hid how4; clear how4
        have HF := Lib.hid hF; clear hF
        have Hlk := Lib.hid hlk; clear hlk
        have Hrk := Lib.hid hrk; clear hrk
        clear q0 q1 q2
        go_wp2_with (at_builtin; refine wpList_catG (E := pCel) (xs := allL rs s (l.take k)) (v := .slice Ao n co) (base := w2.heap.size) (G := (w2.heap.size ≤ ·)) 26 51 (.agg #[.string ByteArray.empty, .int .u8 0, .slice none 0 0]) 48 (.tmp 41) (.tmp 42) rfl rfl Tryd.underlying26 info_cel rfl (by decide) rfl How4.out A4 c4 sl rfl _ Hs4.out HF.out (n + sl.length) Hlk.out Hrk.out (by decide) hba ?_; intro A6 c6 w6 hown6 hg6)
        go_roundw
        case rel =>
          have hz6 := hg6.out.bel.size
          refine ⟨k + 1, n + sl.length, A6, c6, hlt, by go_num, rfl, Hb24.out.trans hg6.out.bel, by omega, ?_, Hes, ?_⟩
          · unfold Hid; rw [Has.out]; exact Hlk.out
          · unfold Hid; rw [Has.out]; exact hown6.out
        case measure => simp [intOf]; omega
end Go.Proofs.YtlipmagkplbkdaaDoor

/-! L8 -/
namespace Go.Proofs.YtlipmagkplbkdaaDoor
open Go.RowKit Go.Sort Go.BigFrame
set_option linter.unusedVariables false
set_option linter.unusedSimpArgs false
end Go.Proofs.YtlipmagkplbkdaaDoor

/-! L9 -/
namespace Go.Proofs.YtlipmagkplbkdaaDoor
open Go.RowKit
set_option linter.unusedVariables false
set_option linter.unusedSimpArgs false
end Go.Proofs.YtlipmagkplbkdaaDoor
