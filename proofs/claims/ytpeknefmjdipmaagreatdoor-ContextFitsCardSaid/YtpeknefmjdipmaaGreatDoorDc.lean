/-
  Layer 8: the walk of Step.
-/
import Derived.Test.YtpeknefmjdipmaaGreatDoorDa
import Derived.Test.YtpeknefmjdipmaaGreatDoorRq
import Derived.Test.YtpeknefmjdipmaaGreatDoorRt
import Derived.Test.YtpeknefmjdipmaaGreatDoorWh
import Derived.Test.YtpeknefmjdipmaaGreatDoorWe
namespace Go.Proofs.YtpeknefmjdipmaaGreatDoor
open Go.RowKit Go.Sort Go.BigFrame

theorem fit_forms {r : Rul} {m : Mod} (hco : coreR r = true) (hfit : fitsF r m = true) : ∀ s ∈ r.out, ∀ f ∈ s.args, formF f m.args.length = true := fun s hs f hf => by
  have har : r.arity = (m.args.length : Int) := by
    unfold fitsF at hfit
    simp only [Bool.and_eq_true, beq_iff_eq] at hfit
    exact hfit.1.2
  have h1 := (fineR_guards hco).2.2.2 s hs f hf
  rwa [har, Int.toNat_natCast] at h1
theorem valueF_fit {f : Frm} {args : List Int} (h1 : formF f args.length = true) (h2 : args.all argOk = true ∧ args.length ≤ 4) : valueF f args = if worthF f args < -1000000000 ∨ 1000000000 < worthF f args then (0, 16) else (worthF f args, 0) := by
  unfold valueF; rw [if_pos ⟨h1, h2.1, h2.2⟩]

def CStepPost (rs : List Rul) (p : ByteArray) (ms : List Mod) (w : World) (e : Ending) (w' : World) : Prop :=
  ∃ A c, e = .returned (.tuple #[.slice A (cStepF rs p ms).1.length c, .int .i64 (cStepF rs p ms).2]) ∧ Own pModF 27 w.heap.size (w.heap.size ≤ ·) w' (.slice A (cStepF rs p ms).1.length c) (cStepF rs p ms).1 ∧ Below w.heap.size w w'

set_option maxRecDepth 100000 in
set_option maxHeartbeats 8000000 in
theorem cStep_calls (A : Option Addr) (c : Nat) (rs : List Rul) (p : ByteArray) (B : Option Addr) (cb : Nat) (ms : List Mod) (w : World) (h : SlAt pRul (Old w) w A c rs) (h' : SlAt pMod (Old w) w B cb ms) (hs : Small rs) (hp : p.size ≤ 1000) :
    Calls Tryz.prog 13 #[.slice A rs.length c, .string p, .slice B ms.length cb] w (CStepPost rs p ms w) := by
  have hmx := h.lenle
  have hmx' := h'.lenle
  have hck := cOpen_calls A c rs B cb ms p w h h' hs hp
  have H := Lib.hid h; clear h
  have H' := Lib.hid h'; clear h'
  have Hck := Lib.hid hck; clear hck
  go_enter Tryz.func13, Tryz.ntmps13
  go_wp2_with fail
  refine Hck.out.mono ?_
  rintro e w1 ⟨X0, n0, d0, X1, n1, d1, X2, n2, c2, X3, n3, c3, rfl, hop, hb1⟩
  have hz1 := hb1.size
  by_cases hc : openC rs p ms = 0
  case neg =>
    have e0 : (openC rs p ms != 0) = true := by simp [hc]
    have hff : cStepF rs p ms = ([], openC rs p ms) := by unfold cStepF; rw [if_neg hc]
    have hb2 : Below w.heap.size w (w1.alloc (.cells #[.slice X0 n0 d0, .slice X1 n1 d1, .slice X2 n2 c2, .slice X3 n3 c3] 55)) := hb1.alloc hz1 _
    have Hb1 := Lib.hid hb1; clear hb1
    have Hff := Lib.hid hff; clear hff
    have Hc := Lib.hid hc; clear hc
    have Hop := Lib.hid hop; clear hop
    have Hb2 := Lib.hid hb2; clear hb2
    go_wp2
    go_ret2
    exact ⟨none, 0, by rw [Hff.out]; rfl, by rw [Hff.out]; exact Own.nil, Hb2.out⟩
  case pos =>
  have e0 : (openC rs p ms != 0) = false := by simp [hc]
  obtain ⟨rfl, rfl, rfl, rfl, rfl, rfl, rfl, rfl, hsl, hsr⟩ := hop hc
  obtain ⟨W2, hW2⟩ : ∃ W2, W2 = w1.alloc (.cells #[.slice X0 rs.length d0, .slice X1 ms.length d1, .slice X2 ms.length c2, .slice X3 ms.length c3] 55) := ⟨_, rfl⟩
  have hb12 : Below w1.heap.size w1 W2 := by rw [hW2]; exact (Below.refl _ _).alloc (Nat.le_refl _) _
  have hz2 : w1.heap.size + 1 ≤ W2.heap.size := by rw [hW2]; simp
  have hb2 : Below w.heap.size w W2 := hb1.trans (hb12.mono hz1)
  have hbl2 : Blk W2 w1.heap.size 55 #[.slice X0 rs.length d0, .slice X1 ms.length d1, .slice X2 ms.length c2, .slice X3 ms.length c3] := by rw [hW2]; exact Blk.new _ _ _
  obtain ⟨hc1, hc2⟩ := openC_zero hc
  have hco := checkC_zero hc1
  have hfine := checkF_fine hc2
  have hle := checkF_le hc2
  have hff : cStepF rs p ms = stepC p rs ms := by unfold cStepF; rw [if_pos hc]
  have h2 : SlAt pRul (Old W2) W2 X0 d0 rs := H.out.later hb2
  have g2 : SlAt pMod (Old W2) W2 X1 d1 ms := H'.out.later hb2
  have hl2 : SlAt (pI .i64) (Old W2) W2 X2 c2 (leftL p ms) := hsl.later hb12
  have hr2 : SlAt (pI .i64) (Old W2) W2 X3 c3 (rightL p ms) := hsr.later hb12
  obtain ⟨y0, y1, y2, y3⟩ := hbl2.four
  clear hop hsl hsr
  have Hb1 := Lib.hid hb1; clear hb1
  have Hb12 := Lib.hid hb12; clear hb12
  have Hb2 := Lib.hid hb2; clear hb2
  have Hbl2 := Lib.hid hbl2; clear hbl2
  have Hc := Lib.hid hc; clear hc
  have Hc1 := Lib.hid hc1; clear hc1
  have Hc2 := Lib.hid hc2; clear hc2
  have Hco := Lib.hid hco; clear hco
  have Hfine := Lib.hid hfine; clear hfine
  have Hff := Lib.hid hff; clear hff
  have H2 := Lib.hid h2; clear h2
  have G2 := Lib.hid g2; clear g2
  have Hl2 := Lib.hid hl2; clear hl2
  have Hr2 := Lib.hid hr2; clear hr2
  go_upto_region 2 with fail
  rw [← hW2]
  have HW2 := Lib.hid hW2; clear hW2
  go_wp2
  clear y0 y1 y2 y3 e0
  go_loopw [32, 10] (fun i out wr => ∃ (k n : Nat) (Ao : Option Addr) (co : Nat), k ≤ ms.length ∧ i = .int .i64 k ∧ out = .slice Ao n co ∧ Hid (Below W2.heap.size W2 wr) ∧ W2.heap.size ≤ wr.heap.size ∧ Hid ((succC p rs ms k).all (·.2) = true) ∧ Hid ((succC p rs ms k).length = n) ∧
    Hid (Own pModF 27 W2.heap.size (W2.heap.size ≤ ·) wr (.slice Ao n co) ((succC p rs ms k).map (·.1)))) (fun i _ _ => ms.length - (intOf i).toNat)
  case atStart => exact ⟨0, 0, none, 0, Nat.zero_le _, rfl, rfl, Below.refl _ _, Nat.le_refl _, rfl, rfl, Own.nil⟩
  case round =>
    obtain ⟨k, n, Ao, co, hk, rfl, rfl, hb, hsz, hall, hn, hown⟩ := hrel
    obtain ⟨wo, rfl⟩ : ∃ wo : World, wo = wr := ⟨_, rfl⟩
    have hnl : n ≤ k * 30 := by
      have h1 := succC_le (p := p) (ms := ms) hs.o k
      rw [hn.out] at h1
      omega
    have hbwo : Below w.heap.size w wo := Hb2.out.trans (hb.out.mono (by omega))
    by_cases hlt : k < ms.length
    case neg =>
      obtain rfl : k = ms.length := by omega
      have hn' := hn.out
      have hall' := hall.out
      have hown' := hown.out.mono (base' := w.heap.size) (G' := (w.heap.size ≤ ·)) (by omega) (fun q hq => Nat.le_trans (by omega) hq)
      by_cases hbig : 2000 < n
      · have hst : cStepF rs p ms = ([], 4) := by rw [Hff.out]; unfold stepC; rw [if_pos hall', if_pos (by rw [hn']; exact hbig)]
        have Hst := Lib.hid hst; clear hst
        have Hbwo := Lib.hid hbwo; clear hbwo
        clear hn' hall' hown'
        go_wp2
        go_ret2
        exact ⟨none, 0, by rw [Hst.out]; rfl, by rw [Hst.out]; exact Own.nil, Hbwo.out⟩
      · have hst : cStepF rs p ms = ((succC p rs ms ms.length).map (·.1), 0) := by rw [Hff.out]; unfold stepC; rw [if_pos hall', if_neg (by rw [hn']; exact hbig)]
        have hml : ((succC p rs ms ms.length).map (·.1)).length = n := by rw [List.length_map]; exact hn'
        have Hst := Lib.hid hst; clear hst
        have Hown' := Lib.hid hown'; clear hown'
        have Hml := Lib.hid hml; clear hml
        have Hbwo := Lib.hid hbwo; clear hbwo
        clear hn' hall'
        go_wp2
        go_ret2
        exact ⟨Ao, co, by rw [Hst.out, Hml.out]; rfl, by rw [Hst.out, Hml.out]; exact Hown'.out, Hbwo.out⟩
    case pos =>
      obtain ⟨b, o, D, d, m, hd, hB, hob, q0, q1, hx8, hxa, hxl⟩ := G2.out.getMod hlt
      subst hB
      have hobw : b < W2.heap.size := hob
      have hargs := fine_args (Hfine.out m (mem_of_drop hd.out))
      have hfc := sFind_calls X0 d0 rs (some ⟨b, o, none⟩) d1 ms X2 c2 X3 c3 p k wo (H2.out.later hb.out) (G2.out.later hb.out) (Hl2.out.later hb.out) (Hr2.out.later hb.out) Hco.out Hfine.out hlt
      have hsn := succC_succ p rs ms k
      have hmi := get_of_drop hd.out
      have hk0 : (0 : Int) ≤ (k : Int) := Int.natCast_nonneg _
      have hk1 : (k : Int) < (ms.length : Int) := by omega
      have hys := (Hbl2.out.same (hb.out.block _ (by omega))).four
      obtain ⟨y0, y1, y2, y3⟩ := hys
      rcases outsC_cases p rs hmi with ⟨hneg, hou⟩ | ⟨j, r, hpos, hj, hfit, hou⟩
      · rw [hneg] at hfc
        have hle1 : (k : Int) + 1 ≤ (ms.length : Int) := by omega
        have Hfc := Lib.hid hfc; clear hfc
        have Hneg := Lib.hid hneg; clear hneg
        have Hou := Lib.hid hou; clear hou
        have Hsn := Lib.hid hsn; clear hsn
        have Hargs := Lib.hid hargs; clear hargs
        have Hmi := Lib.hid hmi; clear hmi
        have Hbwo := Lib.hid hbwo; clear hbwo
        clear q0 q1
        go_wp2_with (go_at_call 25; refine Hfc.out.mono ?_; rintro e w3 ⟨rfl, hb3⟩)
        have hb3' : Below W2.heap.size W2 w3 := hb.out.trans (hb3.mono hsz)
        have hz3 := hb3.size
        have hz3' : W2.heap.size ≤ w3.heap.size := by omega
        have hsl := sl_one (G2.out.below hb3') (get_of_drop hd.out)
        have htw := twin_calls (some ⟨b, o + k * 2, none⟩) (d1 - k) [m] w3 (hsl.wide fun q hq => Nat.lt_of_lt_of_le hq hz3') (by simp) (fun m' hm' => by simp at hm'; rw [hm']; have := Hargs.out.2; omega)
        have hown3 := hown.out.later hb3
        have Hb3' := Lib.hid hb3'; clear hb3'
        have Htw := Lib.hid htw; clear htw
        have Hown3 := Lib.hid hown3; clear hown3
        clear hsl hb3
        refine Htw.out.mono ?_
        rintro e w4 ⟨A1, c1, rfl, hown4, hb4⟩
        obtain ⟨_, _, hv4, hs4⟩ := hown4.fresh; cases hv4
        have hz4 := hb4.size
        have hown5 := Hown3.out.later hb4
        have hb4' : Below W2.heap.size W2 w4 := Hb3'.out.trans (hb4.mono hz3')
        have hF4 : ∀ q, (w3.heap.size ≤ q ∧ q < w4.heap.size) → W2.heap.size ≤ q ∧ q < w4.heap.size ∧ some q ≠ (Value.slice Ao n co).ownBlock := fun q hq => ⟨by omega, hq.2, fun he => by have := (Hown3.out.lt q he.symm).2; omega⟩
        have hlk : ((succC p rs ms k).map (·.1) ++ [m]).length = n + 1 := by rw [List.length_append, List.length_map, hn.out]; rfl
        have hrk : Room (n + 1) := room_of (by omega)
        have hba : W2.heap.size ≤ w4.heap.size := by omega
        have Hs4 := Lib.hid hs4; clear hs4
        have Hown5 := Lib.hid hown5; clear hown5
        have Hb4' := Lib.hid hb4'; clear hb4'
        have HF4 := Lib.hid hF4; clear hF4
        have Hlk := Lib.hid hlk; clear hlk
        have Hrk := Lib.hid hrk; clear hrk
        clear hown4 hb4 y0 y1 y2 y3
        go_wp2_with (at_builtin; refine wpList_catG (E := pModF) (xs := (succC p rs ms k).map (·.1)) (v := .slice Ao n co) (base := W2.heap.size) (G := (W2.heap.size ≤ ·)) 22 27 (.agg #[.int .u8 0, .slice none 0 0]) 32 (.tmp 40) (.tmp 46) rfl rfl Tryz.underlying22 info_mod rfl (by decide) rfl Hown5.out A1 c1 [m] rfl _ Hs4.out HF4.out (n + 1) Hlk.out Hrk.out (by decide) hba ?_; intro A6 c6 w6 hown6 hg6)
        go_roundw
        case rel =>
          have hz6 := hg6.out.bel.size
          have hb6 := Hb4'.out.trans hg6.out.bel
          refine ⟨k + 1, n + 1, A6, c6, hlt, by go_num, rfl, hb6, by omega, ?_, ?_, ?_⟩
          · unfold Hid; rw [Hsn.out, List.all_append, hall.out, Hou.out]; rfl
          · unfold Hid; rw [Hsn.out, List.length_append, hn.out, Hou.out]; rfl
          · unfold Hid; rw [Hsn.out, List.map_append, Hou.out]; exact hown6.out
        case measure => simp [intOf]; omega
      · rw [hpos] at hfc
        have hnn : ¬ ((j : Int) < 0) := by omega
        have hjl : j < rs.length := (List.getElem?_eq_some_iff.1 hj).1
        obtain ⟨b7, o7, A7, c7, A8, c8, r', hdr, hA7, hob7, k0, k1, k2, k3, k4, k5, k6, hat, hl1, hl8⟩ := H2.out.getRulAt hjl
        have hrr : r' = r := by have h1 := get_of_drop hdr.out; rw [hj] at h1; exact (Option.some.inj h1).symm
        subst hrr
        subst hA7
        have hob7w : b7 < W2.heap.size := hob7
        have hco1 : coreR r' = true := List.all_eq_true.1 Hco.out r' (mem_of_drop hdr.out)
        have ho30 := hs.o r' (mem_of_drop hdr.out)
        have hmo := made_outs hou
        obtain ⟨hsum, hs4⟩ := fit_sums hco1 hfit hargs
        have hforms := fit_forms hco1 hfit
        have hok0 : madeOk r' m = r'.out.all (okS m.args) := rfl
        have hjr0 : (0 : Int) ≤ (j : Int) := Int.natCast_nonneg _
        have hjr1 : (j : Int) < (rs.length : Int) := by omega
        have Hfc := Lib.hid hfc; clear hfc
        have Hpos := Lib.hid hpos; clear hpos
        have Hou := Lib.hid hou; clear hou
        have Hsn := Lib.hid hsn; clear hsn
        have Hargs := Lib.hid hargs; clear hargs
        have Hmi := Lib.hid hmi; clear hmi
        have Hj := Lib.hid hj; clear hj
        have Hfit := Lib.hid hfit; clear hfit
        have Hco1 := Lib.hid hco1; clear hco1
        have Hmo := Lib.hid hmo; clear hmo
        have Hsum := Lib.hid hsum; clear hsum
        have Hs4 := Lib.hid hs4; clear hs4
        have Hforms := Lib.hid hforms; clear hforms
        have Hok0 := Lib.hid hok0; clear hok0
        have Hbwo := Lib.hid hbwo; clear hbwo
        have Hat := Lib.hid hat; clear hat
        have Hdr := Lib.hid hdr; clear hdr
        clear k0 k1 k2 k3 k4 k5
        go_wp2_with fail
        refine Hfc.out.mono ?_
        rintro e w3 ⟨rfl, hb3⟩
        have hb3' : Below W2.heap.size W2 w3 := hb.out.trans (hb3.mono hsz)
        have hz3 := hb3.size
        have x6 := (cell_keep (o := o7 + j * 7 + 6) (hb3'.block b7 hob7w)).trans k6
        have hown3 := hown.out.later hb3
        have hz3' : W2.heap.size ≤ w3.heap.size := by omega
        have Hb3' := Lib.hid hb3'; clear hb3'
        have Hown3 := Lib.hid hown3; clear hown3
        clear hb3 y0 y1 y2 y3 k6
        go_wp2
        clear x6
        go_loopw [54, 10] (fun zq out wr => ∃ (q : Nat) (Aq : Option Addr) (cq : Nat), q ≤ r'.out.length ∧ zq = .int .i64 q ∧ out = .slice Aq (n + q) cq ∧ Hid (Below W2.heap.size W2 wr) ∧ W2.heap.size ≤ wr.heap.size ∧ Hid (madeOk r' m = (r'.out.drop q).all (okS m.args)) ∧
          Hid (Own pModF 27 W2.heap.size (W2.heap.size ≤ ·) wr (.slice Aq (n + q) cq) ((succC p rs ms k).map (·.1) ++ (r'.out.take q).map fun s => (outF m.args s).1))) (fun zq _ _ => r'.out.length - (intOf zq).toNat)
        case atStart => exact ⟨0, Ao, co, Nat.zero_le _, rfl, rfl, Hb3', hz3', Hok0, by unfold Hid; simpa using Hown3.out⟩
        case round =>
          obtain ⟨q, Aq, cq, hq, rfl, rfl, hb4, hsz4, hall4, hown4⟩ := hrel
          obtain ⟨wi, rfl⟩ : ∃ wi : World, wi = wr := ⟨_, rfl⟩
          by_cases hlq : q < r'.out.length
          case neg =>
            obtain rfl : q = r'.out.length := by omega
            have hok1 : madeOk r' m = true := by rw [hall4.out, List.drop_length]; rfl
            have hown4' := hown4.out
            rw [List.take_length] at hown4'
            have hsn1 : (succC p rs ms (k + 1)).all (·.2) = true := by rw [Hsn.out, List.all_append, hall.out, Hmo.out.1, hok1]; rfl
            have hsn2 : (succC p rs ms (k + 1)).map (·.1) = (succC p rs ms k).map (·.1) ++ madeL r' m := by rw [Hsn.out, List.map_append, Hmo.out.2]
            have hsn3 : (succC p rs ms (k + 1)).length = n + r'.out.length := by
              have := congrArg List.length hsn2
              have hml : (madeL r' m).length = r'.out.length := by unfold madeL; rw [List.length_map]
              rwa [List.length_map, List.length_append, List.length_map, hn.out, hml] at this
            have Hok1 := Lib.hid hok1; clear hok1
            have Hown4' := Lib.hid hown4'; clear hown4'
            have Hsn1 := Lib.hid hsn1; clear hsn1
            have Hsn2 := Lib.hid hsn2; clear hsn2
            have Hsn3 := Lib.hid hsn3; clear hsn3
            go_wp2
            go_roundw
            case rel =>
              refine ⟨k + 1, n + r'.out.length, Aq, cq, hlt, by go_num, rfl, hb4, hsz4, Hsn1, Hsn3, ?_⟩
              unfold Hid; rw [Hsn2.out]; exact Hown4'.out
            case measure => simp [intOf]; omega
          case pos =>
            obtain ⟨b8, o8, As, cs, s, hds, hA8, hob8, s0, s1, hs8, hsa, hsl⟩ := (Hat.out.out.so.below hb4.out).getShp hlq
            subst hA8
            have hob8w : b8 < W2.heap.size := hob8
            have hob8i : b8 < wi.heap.size := by omega
            have hsm := mem_of_drop hds.out
            have hl4 := Hs4.out s hsm
            obtain ⟨wq0, hwq⟩ : ∃ wq, wq = (wi.alloc (.cells #[.int .u8 s.name, .slice As s.args.length cs] 64)).alloc (.cells #[.int .u8 s.name, .slice none 0 0] 27) := ⟨_, rfl⟩
            have hbq0 : Below wi.heap.size wi wq0 := by rw [hwq]; exact ((Below.refl _ _).alloc (Nat.le_refl _) _).alloc (by simp) _
            have hzq0 : wi.heap.size + 2 ≤ wq0.heap.size := by rw [hwq]; simp
            have hbm0 : Blk wq0 (wi.heap.size + 1) 27 #[.int .u8 s.name, .slice none 0 0] := by
              rw [hwq]
              have := Blk.new (wi.alloc (.cells #[.int .u8 s.name, .slice As s.args.length cs] 64)) 27 #[.int .u8 s.name, .slice none 0 0]
              rwa [show (wi.alloc (.cells #[.int .u8 s.name, .slice As s.args.length cs] 64)).heap.size = wi.heap.size + 1 from by simp] at this
            have how0 : Own (pI .i64) 3 (wi.heap.size + 2) (fun _ => False) wq0 (.slice none 0 0) ((s.args.take 0).map fun f => worthF f m.args) := Own.nil
            have hhs : okS m.args s = (s.args.drop 0).all fun f => argOk (worthF f m.args) := rfl
            have hq0 : (0 : Int) ≤ (q : Int) := Int.natCast_nonneg _
            have hq1 : (q : Int) < (r'.out.length : Int) := by omega
            have Hsm := Lib.hid hsm; clear hsm
            have Hbq0 := Lib.hid hbq0; clear hbq0
            have Hbm0 := Lib.hid hbm0; clear hbm0
            have How0 := Lib.hid how0; clear how0
            have Hds := Lib.hid hds; clear hds
            have Hhs := Lib.hid hhs; clear hhs
            go_wp2
            rw [← hwq]
            have Hwq := Lib.hid hwq; clear hwq
            clear s0
            go_loopw [64] (fun z wr => ∃ (k3 : Nat) (Dv : Option Addr) (dv : Nat), k3 ≤ s.args.length ∧ z = .int .i64 k3 ∧ Hid (Below wi.heap.size wi wr) ∧ wi.heap.size + 2 ≤ wr.heap.size ∧ Hid (Blk wr (wi.heap.size + 1) 27 #[.int .u8 s.name, .slice Dv k3 dv]) ∧
              Hid (okS m.args s = (s.args.drop k3).all fun f => argOk (worthF f m.args)) ∧
              Hid (Own (pI .i64) 3 (wi.heap.size + 2) (fun _ => False) wr (.slice Dv k3 dv) ((s.args.take k3).map fun f => worthF f m.args))) (fun z _ => s.args.length - (intOf z).toNat)
            case atStart => exact ⟨0, none, 0, Nat.zero_le _, rfl, Hbq0, hzq0, Hbm0, Hhs, How0⟩
            case round =>
              obtain ⟨k3, Dv, dv, hk3m, rfl, hbq, hzq, hbm, hoks, how⟩ := hrel
              obtain ⟨wq, rfl⟩ : ∃ wq : World, wq = wr := ⟨_, rfl⟩
              have hbq2 : Below W2.heap.size W2 wq := hb4.out.trans (hbq.out.mono hsz4)
              have m0 := hbm.out.cell 0
              have m1 := hbm.out.cell 1
              by_cases hlt3 : k3 < s.args.length
              case neg =>
                obtain rfl : k3 = s.args.length := by omega
                have how' := how.out
                rw [List.take_length] at how'
                have hok1 : okS m.args s = true := by rw [hoks.out, List.drop_length]; rfl
                obtain ⟨A3, c9, e3, hsl3⟩ := (how'.flat (pI_flat _) (G' := (wi.heap.size + 2 ≤ ·))).fresh
                rw [List.length_map] at e3
                injection e3 with e31 e32 e33
                subst e31 e33
                have hR : pModF.R (fun q => wi.heap.size + 2 ≤ q ∧ q < wq.heap.size) wq (Value.agg #[.int .u8 s.name, .slice Dv s.args.length dv]).cells.toList (outF m.args s).1 := ⟨Dv, dv, by simp [outF, Value.cells], hs8, hsl3, fun _ b o hA => by subst hA; exact own_unf how'⟩
                have howq : Own pModF 27 W2.heap.size (W2.heap.size ≤ ·) wq (.slice Aq (n + q) cq) ((succC p rs ms k).map (·.1) ++ (r'.out.take q).map fun s => (outF m.args s).1) := hown4.out.later hbq.out
                have hF : ∀ x, (wi.heap.size + 2 ≤ x ∧ x < wq.heap.size) → W2.heap.size ≤ x ∧ x < wq.heap.size ∧ some x ≠ (Value.slice Aq (n + q) cq).ownBlock := fun x hx => ⟨by omega, hx.2, fun he => by have := (hown4.out.lt x he.symm).2; omega⟩
                have hlx : ((succC p rs ms k).map (·.1) ++ (r'.out.take q).map fun s => (outF m.args s).1).length = n + q := by rw [List.length_append, List.length_map, hn.out, List.length_map, List.length_take]; omega
                have hlk : ((succC p rs ms k).map (·.1) ++ (r'.out.take q).map fun s => (outF m.args s).1).length + 1 = n + q + 1 := by rw [hlx]
                have hrk : Room ((succC p rs ms k).map (·.1) ++ (r'.out.take q).map fun s => (outF m.args s).1).length := room_of (by rw [hlx]; omega)
                have hba : W2.heap.size ≤ wq.heap.size := by omega
                have Hok1 := Lib.hid hok1; clear hok1
                have HR := Lib.hid hR; clear hR
                have Howq := Lib.hid howq; clear howq
                have HF := Lib.hid hF; clear hF
                have Hlk := Lib.hid hlk; clear hlk
                have Hrk := Lib.hid hrk; clear hrk
                have Hbq2 := Lib.hid hbq2; clear hbq2
                have Hlx := Lib.hid hlx; clear hlx
                clear how' hsl3
                go_wp2_with ((with_reducible show wpList _ _ _ (Oper.mk (some 90) _ _ _ _ _ :: _) _ _); refine wpList_pushG (E := pModF) (xs := (succC p rs ms k).map (·.1) ++ (r'.out.take q).map fun s => (outF m.args s).1) (v := .slice Aq (n + q) cq) (base := W2.heap.size) (G := (W2.heap.size ≤ ·)) 22 27 (.agg #[.int .u8 0, .slice none 0 0]) 32 90 (.tmp 88) (.tmp 89) rfl rfl rfl rfl rfl Tryz.underlying22 info_mod rfl (by decide) (fun _ => rfl) (fun _ => rfl) Howq.out (.agg #[.int .u8 s.name, .slice Dv s.args.length dv]) rfl (outF m.args s).1 (fun x => wi.heap.size + 2 ≤ x ∧ x < wq.heap.size) HR.out HF.out (n + q + 1) Hlk.out Hrk.out ⟨by decide, by decide⟩ hba ?_; intro A6 c6 w6 hown6 hg6)
                go_roundw
                case rel =>
                  have hz6 := hg6.out.bel.size
                  refine ⟨q + 1, A6, c6, hlq, by go_num, rfl, Hbq2.out.trans hg6.out.bel, by omega, ?_, ?_⟩
                  · unfold Hid; rw [hall4.out, Hds.out, List.all_cons, Hok1.out]; rfl
                  · unfold Hid; rw [take_of_drop Hds.out, List.map_append, ← List.append_assoc]; exact hown6.out
                case measure => simp [intOf]; omega
              case pos =>
                obtain ⟨b6, o6, A6, c6, f, hdf, hAf, hob6, f0, f1, hfc6, hfa, hfl⟩ := (hsa.out.keep (w' := wq) fun x hx => hbq.out.block x (by have : x < W2.heap.size := hx; omega)).getFrm hlt3
                subst hAf
                have hob6w : b6 < W2.heap.size := hob6
                have hob6q : b6 < wq.heap.size := by omega
                have hok := Hsum.out s Hsm.out f (mem_of_drop hdf.out)
                have hvf := valueF_fit (Hforms.out s Hsm.out f (mem_of_drop hdf.out)) Hargs.out
                have hbd := worth_bd hok
                obtain ⟨wx, hwx⟩ : ∃ wx, wx = wq.alloc (.cells #[.int .i64 f.const, .slice A6 f.coefs.length c6] 66) := ⟨_, rfl⟩
                have hbx : Below wq.heap.size wq wx := by rw [hwx]; exact (Below.refl _ _).alloc (Nat.le_refl _) _
                have hzx : wq.heap.size + 1 ≤ wx.heap.size := by rw [hwx]; simp
                have hbf : Blk wx wq.heap.size 66 #[.int .i64 f.const, .slice A6 f.coefs.length c6] := by rw [hwx]; exact Blk.new _ _ _
                have hbx2 : Below W2.heap.size W2 wx := hbq2.trans (hbx.mono (by omega))
                have haq : SlAt (pI .i64) (Old W2) wx D d m.args := hxa.out.below hbx2
                have hcq : SlAt (pI .i64) (Old W2) wx A6 c6 f.coefs := hfa.out.keep fun x hx => hbx.block x (by have : x < W2.heap.size := hx; omega)
                have v0 := cell_regrown (hbf.cell 0)
                have v1 := cell_regrown (hbf.cell 1)
                have u1 := cell_regrown ((cell_keep (o := o + k * 2 + 1) (hbx2.block b hobw)).trans q1)
                have hk30 : (0 : Int) ≤ (k3 : Int) := Int.natCast_nonneg _
                have hk31 : (k3 : Int) < (s.args.length : Int) := by omega
                have hcall : ∀ (dd : Nat) (os : Array Obj), Calls Tryz.prog 30 #[.agg #[.int .i64 f.const, .slice A6 f.coefs.length c6], .slice D m.args.length d] (grow (redrawn wx dd) os) fun e w'' => e = .returned (.tuple #[.int .i64 (valueF f m.args).1, .int .i64 (valueF f m.args).2]) ∧ ∃ p : Regrown, w'' = grow (redrawn wx p.d) p.os := fun dd os =>
                  have hg := below_regrown wx dd os
                  Calls.regrown_of (value_calls A6 c6 f D d m.args _ ((hcq.keep fun x hx => hg.block x (by have : x < W2.heap.size := hx; omega)).wide fun x hx => by have : x < W2.heap.size := hx; have := hg.size; show x < _; omega) ((haq.keep fun x hx => hg.block x (by have : x < W2.heap.size := hx; omega)).wide fun x hx => by have : x < W2.heap.size := hx; have := hg.size; show x < _; omega) hfc6)
                obtain ⟨v, hvv⟩ : ∃ v, worthF f m.args = v := ⟨_, rfl⟩
                rw [hvv] at hbd hvf
                have hstep : okS m.args s = (argOk v && (s.args.drop (k3 + 1)).all fun f => argOk (worthF f m.args)) := by rw [hoks.out, hdf.out, List.all_cons, hvv]
                have hvs : (s.args.take (k3 + 1)).map (fun f => worthF f m.args) = (s.args.take k3).map (fun f => worthF f m.args) ++ [v] := by
                  rw [take_of_drop hdf.out, List.map_append, List.map_singleton, hvv]
                have Hok := Lib.hid hok; clear hok
                have Hvv := Lib.hid hvv; clear hvv
                have Hstep := Lib.hid hstep; clear hstep
                have Hvs := Lib.hid hvs; clear hvs
                have Hbx := Lib.hid hbx; clear hbx
                have Hbf := Lib.hid hbf; clear hbf
                have Hbx2 := Lib.hid hbx2; clear hbx2
                have Haq := Lib.hid haq; clear haq
                have Hcq := Lib.hid hcq; clear hcq
                have Hbq2 := Lib.hid hbq2; clear hbq2
                go_upto_region 18 with fail
                rw [← hwx]
                have Hwx := Lib.hid hwx; clear hwx
                clear f0 f1 m0 m1 s1
                by_cases hbad : v < -1000000000 ∨ 1000000000 < v
                · rw [if_pos hbad] at hvf
                  rw [hvf] at hcall
                  have hno : (outsC p rs ms k).all (·.2) = false := by
                    rw [Hmo.out.1, hall4.out, Hds.out, List.all_cons, Hstep.out, argOk_no hbad]; rfl
                  have hst : cStepF rs p ms = ([], 16) := by rw [Hff.out]; exact stepC_not hlt hno
                  simp only at hcall
                  have Hcall := Lib.hid hcall; clear hcall
                  have Hst := Lib.hid hst; clear hst
                  have Hno := Lib.hid hno; clear hno
                  clear hvf hbad
                  refine wp_region_quiet_below (by kernel_rfl) (by kernel_rfl) ?_
                  iterate 12 (go_big_quiet_step (exact (Hcall.out _ _).mono fun e w'' h => h))
                  refine wpQuiet_nil ?_
                  intro _ hw'
                  obtain ⟨⟨dq, osq⟩, hw''⟩ := hw'
                  subst hw''
                  have hbr := below_regrown wx dq osq
                  generalize grow (redrawn wx dq) osq = w5 at hbr ⊢
                  have hbw5 : Below w.heap.size w w5 := Hb2.out.trans ((Hbx2.out.trans (hbr.mono (by omega))).mono (by omega))
                  have Hbw5 := Lib.hid hbw5; clear hbw5
                  clear v0 v1 u1 hbr
                  go_wp2
                  go_ret2
                  exact ⟨none, 0, by rw [Hst.out]; rfl, by rw [Hst.out]; exact Own.nil, Hbw5.out⟩
                · rw [if_neg hbad] at hvf
                  rw [hvf] at hcall
                  have hoky := argOk_yes (x := v) (by omega) (by omega)
                  simp only at hcall
                  have hv64 : -1000000000 ≤ v ∧ v ≤ 1000000000 := by omega
                  have Hcall := Lib.hid hcall; clear hcall
                  have Hoky := Lib.hid hoky; clear hoky
                  clear hvf hbad
                  refine wp_region_quiet_below (by kernel_rfl) (by kernel_rfl) ?_
                  iterate 12 (go_big_quiet_step (exact (Hcall.out _ _).mono fun e w'' h => h))
                  refine wpQuiet_nil ?_
                  intro _ hw'
                  obtain ⟨⟨dq, osq⟩, hw''⟩ := hw'
                  subst hw''
                  have hbr := below_regrown wx dq osq
                  generalize grow (redrawn wx dq) osq = w5 at hbr ⊢
                  have hz5 := hbr.size
                  have hbxr : Below wq.heap.size wq w5 := Hbx.out.trans (hbr.mono (by omega))
                  have hbp5 : Below wi.heap.size wi w5 := hbq.out.trans (hbxr.mono (by omega))
                  have hbm5 := hbm.out.same (hbxr.block _ (by omega))
                  have how5 := how.out.later hbxr
                  have hln5 : ((s.args.take k3).map fun f => worthF f m.args).length + 1 = k3 + 1 := by rw [List.length_map, List.length_take]; omega
                  have hrm5 : Room ((s.args.take k3).map fun f => worthF f m.args).length := room_of (by rw [List.length_map, List.length_take]; omega)
                  have hba5 : wi.heap.size + 2 ≤ w5.heap.size := by omega
                  have hlt5 : wi.heap.size + 1 < w5.heap.size := by omega
                  have hne5 : some (wi.heap.size + 1) ≠ (Value.slice Dv k3 dv).ownBlock := fun he => by have := how.out.lt _ he.symm; omega
                  have hRv : (pI .i64).R (fun _ => False) w5 (Value.int .i64 v).cells.toList v := ⟨rfl, fits_i64 (by omega)⟩
                  have m1 := hbm5.cell 1
                  have Hbr := Lib.hid hbr; clear hbr
                  have Hbp5 := Lib.hid hbp5; clear hbp5
                  have Hbm5 := Lib.hid hbm5; clear hbm5
                  have How5 := Lib.hid how5; clear how5
                  have Hln5 := Lib.hid hln5; clear hln5
                  have Hrm5 := Lib.hid hrm5; clear hrm5
                  have Hne5 := Lib.hid hne5; clear hne5
                  have HRv := Lib.hid hRv; clear hRv
                  have Hbxr := Lib.hid hbxr; clear hbxr
                  clear v0 v1 u1
                  go_wp2_with ((with_reducible show wpList _ _ _ (Oper.mk (some 84) _ _ _ _ _ :: _) _ _); refine wpList_pushG (E := pI .i64) (xs := (s.args.take k3).map fun f => worthF f m.args) (v := .slice Dv k3 dv) (base := wi.heap.size + 2) (G := fun _ => False) 25 3 (.int .i64 0) 8 84 (.tmp 82) (.tmp 83) rfl rfl rfl rfl rfl Tryz.underlying25 (by kernel_rfl) rfl (by decide) (fun _ => rfl) (fun _ => rfl) How5.out (.int .i64 v) rfl v (fun _ => False) HRv.out (fun _ h => h.elim) (k3 + 1) Hln5.out Hrm5.out ⟨by decide, by decide⟩ hba5 ?_; intro A10 c10 w7 hown7 hg7; have hbm7 := Hbm5.out.same (hg7.out.oth _ hlt5 Hne5.out); have x7 := hbm7.cell 1; have f7 := hbm7.free 1; have Hbm7 := Lib.hid hbm7; clear hbm7)
                  go_roundw
                  case rel =>
                    have hz7 := hg7.out.bel.size
                    have hs7 : (w7.setCell ⟨wi.heap.size + 1, 1, none⟩ (.slice A10 (k3 + 1) c10)).heap.size = w7.heap.size := by simp [World.setCell]
                    refine ⟨k3 + 1, A10, c10, hlt3, by go_num, ?_, by omega, ?_, ?_, ?_⟩
                    · exact (Hbp5.out.trans (hg7.out.bel.mono (by omega))).setCell (by show wi.heap.size ≤ wi.heap.size + 1; omega) _
                    · have := Hbm7.out.set 1 (.slice A10 (k3 + 1) c10)
                      unfold Hid
                      simpa using this
                    · unfold Hid; rw [Hstep.out, Hoky.out]; rfl
                    · unfold Hid
                      rw [Hvs.out]
                      refine hown7.out.keepG (fun x hx hG => Below.heap_setCell _ _ _ _ ?_) (by omega)
                      rcases hG with hG | hG
                      · exact hG.elim
                      · have := hown7.out.lt x hG
                        show x ≠ wi.heap.size + 1
                        omega
                  case measure => simp [intOf]; omega
end Go.Proofs.YtpeknefmjdipmaaGreatDoor
