/-
  Layer 8: the walks of the reference's Step and Run.
-/
import Derived.Test.YtpdmjmhiehfkaaaDa
import Derived.Test.YtpdmjmhiehfkaaaRt
import Derived.Test.YtpdmjmhiehfkaaaWh
namespace Go.Proofs.Ytpdmjmhiehfkaaa
open Go.RowKit Go.Sort

def RefCStepPost (rs : List Rul) (p : ByteArray) (ms : List Mod) (w : World) (e : Ending) (w' : World) : Prop :=
  ∃ A c, e = .returned (.tuple #[.slice A (cStepF rs p ms).1.length c, .int .i64 (cStepF rs p ms).2]) ∧ Own pMod 55 w.heap.size (w.heap.size ≤ ·) w' (.slice A (cStepF rs p ms).1.length c) (cStepF rs p ms).1 ∧ Below w.heap.size w w'

set_option maxRecDepth 100000 in
set_option maxHeartbeats 4000000 in
theorem refCStep_calls (A : Option Addr) (c : Nat) (rs : List Rul) (p : ByteArray) (B : Option Addr) (cb : Nat) (ms : List Mod) (w : World) (h : SlAt pRul (Old w) w A c rs) (h' : SlAt pMod (Old w) w B cb ms) (hs : Small rs) (hp : p.size ≤ 1000) :
    Calls Try.prog 17 #[.slice A rs.length c, .string p, .slice B ms.length cb] w (RefCStepPost rs p ms w) := by
  have hmx := h.lenle
  have hmx' := h'.lenle
  have hck := refCOpen_calls A c rs B cb ms p w h h' hs hp
  have H := Lib.hid h; clear h
  have H' := Lib.hid h'; clear h'
  by_cases hr : openC rs p ms = 0
  case neg =>
    have e0 : (openC rs p ms != 0) = true := by simp [hr]
    have hff : cStepF rs p ms = ([], openC rs p ms) := by unfold cStepF; rw [if_neg hr]
    have Hr := Lib.hid hr; clear hr
    have Hff := Lib.hid hff; clear hff
    have Hck := Lib.hid hck; clear hck
    go_enter Try.func17, Try.ntmps17
    go_wp2_with fail
    refine Hck.out.mono ?_
    rintro e w1 ⟨rfl, hb1⟩
    have hz1 := hb1.size
    have hck1 := refCOpen_calls A c rs B cb ms p w1 (H.out.later hb1) (H'.out.later hb1) hs hp
    have Hb1 := Lib.hid hb1; clear hb1
    have Hck1 := Lib.hid hck1; clear hck1
    go_wp2_with fail
    refine Hck1.out.mono ?_
    rintro e w2 ⟨rfl, hb2⟩
    have hbw2 := Hb1.out.trans (hb2.mono hz1)
    have Hbw2 := Lib.hid hbw2; clear hbw2
    clear hb2
    go_wp2
    go_ret2
    exact ⟨none, 0, by rw [Hff.out]; rfl, by rw [Hff.out]; exact Own.nil, Hbw2.out⟩
  case pos =>
  have e0 : (openC rs p ms != 0) = false := by simp [hr]
  obtain ⟨hr1, hf⟩ := openC_zero hr
  have hco := checkC_zero hr1
  have hfine := checkF_fine hf
  have hlen := checkF_le hf
  have hff : cStepF rs p ms = stepC p rs ms := by unfold cStepF; rw [if_pos hr]
  have Hck := Lib.hid hck; clear hck
  have Hr := Lib.hid hr; clear hr
  have Hr1 := Lib.hid hr1; clear hr1
  have Hf := Lib.hid hf; clear hf
  have Hff := Lib.hid hff; clear hff
  have Hfine := Lib.hid hfine; clear hfine
  have Hco := Lib.hid hco; clear hco
  go_enter Try.func17, Try.ntmps17
  go_wp2_with fail
  refine Hck.out.mono ?_
  rintro e w2 ⟨rfl, hbw2⟩
  have hz2 := hbw2.size
  have Hbw2 := Lib.hid hbw2; clear hbw2
  go_wp2
  go_loopw [9, 8] (fun i out wr => ∃ (k n : Nat) (Ao : Option Addr) (co : Nat), k ≤ ms.length ∧ i = .int .i64 k ∧ out = .slice Ao n co ∧ Hid (Below w.heap.size w wr) ∧ w.heap.size ≤ wr.heap.size ∧ Hid ((succC p rs ms k).all (·.2) = true) ∧ Hid ((succC p rs ms k).length = n) ∧
    Hid (Own pMod 55 w.heap.size (w.heap.size ≤ ·) wr (.slice Ao n co) ((succC p rs ms k).map (·.1)))) (fun i _ _ => ms.length - (intOf i).toNat)
  case atStart => exact ⟨0, 0, none, 0, Nat.zero_le _, rfl, rfl, Hbw2, hz2, rfl, rfl, Own.nil⟩
  case round =>
    obtain ⟨k, n, Ao, co, hk, rfl, rfl, hb, hsz, hall, hn, hown⟩ := hrel
    obtain ⟨wo, rfl⟩ : ∃ wo : World, wo = wr := ⟨_, rfl⟩
    have hnl : n ≤ k * 30 := by
      have h1 := succC_le (p := p) (ms := ms) hs.o k
      rw [hn.out] at h1
      omega
    by_cases hlt : k < ms.length
    case neg =>
      obtain rfl : k = ms.length := by omega
      have hn' := hn.out
      have hall' := hall.out
      have hown' := hown.out
      by_cases hbig : 2000 < n
      · have hst : cStepF rs p ms = ([], 4) := by rw [Hff.out]; unfold stepC; rw [if_pos hall', if_pos (by rw [hn']; exact hbig)]
        have Hst := Lib.hid hst; clear hst
        clear hn' hall' hown'
        go_wp2
        go_ret2
        exact ⟨none, 0, by rw [Hst.out]; rfl, by rw [Hst.out]; exact Own.nil, hb.out⟩
      · have hst : cStepF rs p ms = ((succC p rs ms ms.length).map (·.1), 0) := by rw [Hff.out]; unfold stepC; rw [if_pos hall', if_neg (by rw [hn']; exact hbig)]
        have hml : ((succC p rs ms ms.length).map (·.1)).length = n := by rw [List.length_map]; exact hn'
        have Hst := Lib.hid hst; clear hst
        have Hown' := Lib.hid hown'; clear hown'
        have Hml := Lib.hid hml; clear hml
        clear hn' hall'
        go_wp2
        go_ret2
        exact ⟨Ao, co, by rw [Hst.out, Hml.out]; rfl, by rw [Hst.out, Hml.out]; exact Hown'.out, hb.out⟩
    case pos =>
      obtain ⟨b, o, D, d, m, hd, hB, hob, q0, q1, hx8, hxa, hxl⟩ := (H'.out.below hb.out).getMod hlt
      subst hB
      have hobw : b < w.heap.size := hob
      have hmf := Hfine.out m (mem_of_drop hd.out)
      have hargs := fine_args hmf
      have hfc := cFirst_calls A c rs (some ⟨b, o, none⟩) cb ms p k wo (H.out.later hb.out) (H'.out.later hb.out) Hco.out Hfine.out hlt (by omega) hp
      have hsn := succC_succ p rs ms k
      have hmi := get_of_drop hd.out
      have hk0 : (0 : Int) ≤ (k : Int) := Int.natCast_nonneg _
      have hk1 : (k : Int) < (ms.length : Int) := by omega
      have hbo' : b < wo.heap.size := by omega
      rcases outsC_cases p rs hmi with ⟨hneg, hou⟩ | ⟨j, r, hpos, hj, hfit, hou⟩
      · rw [hneg] at hfc
        have hle1 : (k : Int) + 1 ≤ (ms.length : Int) := by omega
        have Hfc := Lib.hid hfc; clear hfc
        have Hneg := Lib.hid hneg; clear hneg
        have Hou := Lib.hid hou; clear hou
        have Hsn := Lib.hid hsn; clear hsn
        have Hargs := Lib.hid hargs; clear hargs
        have Hmf := Lib.hid hmf; clear hmf
        go_wp2_with (go_at_call 30; refine Hfc.out.mono ?_; rintro e w3 ⟨rfl, hb3⟩)
        have hb3' : Below w.heap.size w w3 := hb.out.trans (hb3.mono hsz)
        have hz3 := hb3.size
        have hz3' : w.heap.size ≤ w3.heap.size := by omega
        have hsl := sl_one (H'.out.below hb3') (get_of_drop hd.out)
        have htw := refTwin_calls (some ⟨b, o + k * 2, none⟩) (cb - k) [m] w3 (hsl.wide fun q hq => Nat.lt_of_lt_of_le hq hz3') (by simp) (fun m' hm' => by simp at hm'; rw [hm']; have := Hargs.out.2; omega)
        have hown3 := hown.out.later hb3
        have Hb3' := Lib.hid hb3'; clear hb3'
        have Htw := Lib.hid htw; clear htw
        have Hown3 := Lib.hid hown3; clear hown3
        clear hsl hb3
        refine Htw.out.mono ?_
        rintro e w4 ⟨A1, c1, rfl, hown4, hb4⟩
        obtain ⟨_, _, hv4, hs4⟩ := hown4.fresh; cases hv4
        have hz4 := hb4.size
        have hown5 := Hown3.out.later hb4
        have hb4' : Below w.heap.size w w4 := Hb3'.out.trans (hb4.mono hz3')
        have hF4 : ∀ q, (w3.heap.size ≤ q ∧ q < w4.heap.size) → w.heap.size ≤ q ∧ q < w4.heap.size ∧ some q ≠ (Value.slice Ao n co).ownBlock := fun q hq => ⟨by omega, hq.2, fun he => by have := (Hown3.out.lt q he.symm).2; omega⟩
        have hlk : ((succC p rs ms k).map (·.1) ++ [m]).length = n + 1 := by rw [List.length_append, List.length_map, hn.out]; rfl
        have hrk : Room (n + 1) := room_of (by omega)
        have hba : w.heap.size ≤ w4.heap.size := by omega
        have Hs4 := Lib.hid hs4; clear hs4
        have Hown5 := Lib.hid hown5; clear hown5
        have Hb4' := Lib.hid hb4'; clear hb4'
        have HF4 := Lib.hid hF4; clear hF4
        have Hlk := Lib.hid hlk; clear hlk
        have Hrk := Lib.hid hrk; clear hrk
        clear hown4 hb4
        go_wp2_with (at_builtin; refine wpList_catG (E := pMod) (xs := (succC p rs ms k).map (·.1)) (v := .slice Ao n co) (base := w.heap.size) (G := (w.heap.size ≤ ·)) 23 55 (.agg #[.int .u8 0, .slice none 0 0]) 32 (.tmp 35) (.tmp 41) rfl rfl Try.underlying23 info_mod rfl (by decide) rfl Hown5.out A1 c1 [m] rfl _ Hs4.out HF4.out (n + 1) Hlk.out Hrk.out (by decide) hba ?_; intro A6 c6 w6 hown6 hg6)
        go_roundw
        case rel =>
          have hz6 := hg6.out.bel.size
          have hb6 := Hb4'.out.trans hg6.out.bel
          refine ⟨k + 1, n + 1, A6, c6, hlt, by go_num, rfl, hb6, by omega, ?_, ?_, ?_⟩
          · unfold Hid; rw [Hsn.out, List.all_append, hall.out, Hou.out]; rfl
          · unfold Hid; rw [Hsn.out, List.length_append, hn.out, Hou.out]; rfl
          · unfold Hid; rw [Hsn.out, List.map_append, Hou.out]; exact hown6.out
        case measure => simp [intOf]; omega
      · rw [hpos] at hfc
        have hnn : ¬ ((j : Int) < 0) := by omega
        have Hfc := Lib.hid hfc; clear hfc
        have Hpos := Lib.hid hpos; clear hpos
        have Hou := Lib.hid hou; clear hou
        have Hsn := Lib.hid hsn; clear hsn
        have Hargs := Lib.hid hargs; clear hargs
        have Hmf := Lib.hid hmf; clear hmf
        have Hj := Lib.hid hj; clear hj
        have Hfit := Lib.hid hfit; clear hfit
        go_wp2_with fail
        refine Hfc.out.mono ?_
        rintro e w3 ⟨rfl, hb3⟩
        have hb3' : Below w.heap.size w w3 := hb.out.trans (hb3.mono hsz)
        have hz3 := hb3.size
        have hz3' : w.heap.size ≤ w3.heap.size := by omega
        have hjl : j < rs.length := (List.getElem?_eq_some_iff.1 Hj.out).1
        obtain ⟨b7, o7, A7, c7, A8, c8, r', hdr, hA7, hob7, k0, k1, k2, k3, k4, k5, k6, hat, hl1, hl2⟩ := (H.out.below hb3').getRulAt hjl
        have hrr : r' = r := by have h1 := get_of_drop hdr.out; rw [Hj.out] at h1; exact (Option.some.inj h1).symm
        subst hrr
        subst hA7
        have hob7w : b7 < w.heap.size := hob7
        have hco1 : coreR r' = true := List.all_eq_true.1 Hco.out r' (mem_of_drop hdr.out)
        have ho30 := hs.o r' (mem_of_drop hdr.out)
        have hmade : ∀ W : World, Below w3.heap.size w3 W → Calls Try.prog 40 #[.agg #[.int .u8 r'.name, .int .i64 r'.arity, .int .u8 r'.left, .int .u8 r'.right, .slice A7 r'.guards.length c7, .int .i64 r'.weight, .slice A8 r'.out.length c8], .agg #[.int .u8 m.name, .slice D m.args.length d]] W
            (fun e W' => ∃ A9 c9, e = .returned (.tuple #[.slice A9 (madeR r' m).1.length c9, .bool (madeR r' m).2]) ∧ SlAt pMod (fun q => W.heap.size ≤ q ∧ q < W'.heap.size) W' A9 c9 (madeR r' m).1 ∧ Below w3.heap.size w3 W' ∧ Below W.heap.size W W') := fun W hW =>
          (refMade_calls r' A7 c7 A8 c8 D d m W (RulAt.to hat.out hz3' hW) (((hxa.out.keep fun q hq => hb3.block q (by have : q < w.heap.size := hq; omega)).keep fun q hq => hW.block q (by have : q < w.heap.size := hq; omega)).wide fun q hq => by have : q < w.heap.size := hq; have := hW.size; show q < W.heap.size; omega) hco1 Hfit.out Hargs.out ho30).mono fun e W' ⟨A9, c9, he, ho9, hb9⟩ => by
            obtain ⟨_, _, hv9, hs9⟩ := ho9.fresh; cases hv9
            exact ⟨A9, c9, he, hs9, hW.trans (hb9.mono hW.size), hb9⟩
        have sk : ∀ W : World, Below w3.heap.size w3 W → W.cell? ⟨b, o + k * 2, none⟩ = some (.int .u8 m.name) ∧ W.cell? ⟨b, o + k * 2 + 1, none⟩ = some (.slice D m.args.length d) ∧
            W.cell? ⟨b7, o7 + j * 7, none⟩ = some (.int .u8 r'.name) ∧ W.cell? ⟨b7, o7 + j * 7 + 1, none⟩ = some (.int .i64 r'.arity) ∧ W.cell? ⟨b7, o7 + j * 7 + 2, none⟩ = some (.int .u8 r'.left) ∧ W.cell? ⟨b7, o7 + j * 7 + 3, none⟩ = some (.int .u8 r'.right) ∧ W.cell? ⟨b7, o7 + j * 7 + 4, none⟩ = some (.slice A7 r'.guards.length c7) ∧ W.cell? ⟨b7, o7 + j * 7 + 5, none⟩ = some (.int .i64 r'.weight) ∧ W.cell? ⟨b7, o7 + j * 7 + 6, none⟩ = some (.slice A8 r'.out.length c8) := fun W hW => by
          have e1 : W.heap[b]? = wo.heap[b]? := (hW.block b (by omega)).trans (hb3.block b (by omega))
          have e7 : W.heap[b7]? = w3.heap[b7]? := hW.block b7 (by omega)
          exact ⟨(cell_keep e1).trans q0, (cell_keep e1).trans q1, (cell_keep e7).trans k0, (cell_keep e7).trans k1, (cell_keep e7).trans k2, (cell_keep e7).trans k3, (cell_keep e7).trans k4, (cell_keep e7).trans k5, (cell_keep e7).trans k6⟩
        have hown3 := hown.out.later hb3
        have hmo := made_outs Hou.out
        obtain ⟨q0, q1, k0, k1, k2, k3, k4, k5, k6⟩ := sk w3 (Below.refl _ _)
        have hbase : Below w3.heap.size w3 w3.drew := below_drew (Below.refl _ _)
        have hjr0 : (0 : Int) ≤ (j : Int) := Int.natCast_nonneg _
        have hjr1 : (j : Int) < (rs.length : Int) := by omega
        cases hmo2 : madeOk r' m
        · have hmr : madeR r' m = ([], false) := by unfold madeR; rw [hmo2]; rfl
          have hst : cStepF rs p ms = ([], 16) := by rw [Hff.out]; exact stepC_not hlt (by rw [hmo.1]; exact hmo2)
          rw [hmr] at hmade
          have Hmade := Lib.hid hmade; clear hmade
          have Sk := Lib.hid sk; clear sk
          have Hb3' := Lib.hid hb3'; clear hb3'
          have Hown3 := Lib.hid hown3; clear hown3
          have Hst := Lib.hid hst; clear hst
          have Hmr := Lib.hid hmr; clear hmr
          have Hat := Lib.hid hat; clear hat
          have Hmo2 := Lib.hid hmo2; clear hmo2
          clear hmo hb3
          go_wp2
          go_region_held3 (fun w' => w'.cell? ⟨b, o + k * 2, none⟩ = some (.int .u8 m.name) ∧ w'.cell? ⟨b, o + k * 2 + 1, none⟩ = some (.slice D m.args.length d) ∧
            w'.cell? ⟨b7, o7 + j * 7, none⟩ = some (.int .u8 r'.name) ∧ w'.cell? ⟨b7, o7 + j * 7 + 1, none⟩ = some (.int .i64 r'.arity) ∧ w'.cell? ⟨b7, o7 + j * 7 + 2, none⟩ = some (.int .u8 r'.left) ∧ w'.cell? ⟨b7, o7 + j * 7 + 3, none⟩ = some (.int .u8 r'.right) ∧ w'.cell? ⟨b7, o7 + j * 7 + 4, none⟩ = some (.slice A7 r'.guards.length c7) ∧ w'.cell? ⟨b7, o7 + j * 7 + 5, none⟩ = some (.int .i64 r'.weight) ∧ w'.cell? ⟨b7, o7 + j * 7 + 6, none⟩ = some (.slice A8 r'.out.length c8))
            (first | exact Sk.out _ (by assumption) | assumption)
            (first | (go_at_call 40; refine (Hmade.out _ ?_).mono ?_; (first | assumption | simp [*]); rintro e wv ⟨A9, c9, rfl, hs9, hB9, hC9⟩))
          have hbw9 : Below w.heap.size w wv := Hb3'.out.trans (hB9.mono hz3')
          have Hbw9 := Lib.hid hbw9; clear hbw9
          go_wp2
          go_ret2
          exact ⟨none, 0, by rw [Hst.out]; rfl, by rw [Hst.out]; exact Own.nil, Hbw9.out⟩
        · have hmr : madeR r' m = (madeL r' m, true) := by unfold madeR; rw [hmo2]; rfl
          have hml : (madeL r' m).length = r'.out.length := by unfold madeL; rw [List.length_map]
          rw [hmr, hml] at hmade
          have hsn1 : (succC p rs ms (k + 1)).all (·.2) = true := by rw [Hsn.out, List.all_append, hall.out, hmo.1, hmo2]; rfl
          have hsn2 : (succC p rs ms (k + 1)).map (·.1) = (succC p rs ms k).map (·.1) ++ madeL r' m := by rw [Hsn.out, List.map_append, hmo.2]
          have hsn3 : (succC p rs ms (k + 1)).length = n + r'.out.length := by
            have := congrArg List.length hsn2
            rwa [List.length_map, List.length_append, List.length_map, hn.out, hml] at this
          have Hmade := Lib.hid hmade; clear hmade
          have Sk := Lib.hid sk; clear sk
          have Hb3' := Lib.hid hb3'; clear hb3'
          have Hown3 := Lib.hid hown3; clear hown3
          have Hmr := Lib.hid hmr; clear hmr
          have Hat := Lib.hid hat; clear hat
          have Hmo2 := Lib.hid hmo2; clear hmo2
          have Hml := Lib.hid hml; clear hml
          have Hsn1 := Lib.hid hsn1; clear hsn1
          have Hsn2 := Lib.hid hsn2; clear hsn2
          have Hsn3 := Lib.hid hsn3; clear hsn3
          clear hmo hb3
          go_wp2
          go_region_held3 (fun w' => w'.cell? ⟨b, o + k * 2, none⟩ = some (.int .u8 m.name) ∧ w'.cell? ⟨b, o + k * 2 + 1, none⟩ = some (.slice D m.args.length d) ∧
            w'.cell? ⟨b7, o7 + j * 7, none⟩ = some (.int .u8 r'.name) ∧ w'.cell? ⟨b7, o7 + j * 7 + 1, none⟩ = some (.int .i64 r'.arity) ∧ w'.cell? ⟨b7, o7 + j * 7 + 2, none⟩ = some (.int .u8 r'.left) ∧ w'.cell? ⟨b7, o7 + j * 7 + 3, none⟩ = some (.int .u8 r'.right) ∧ w'.cell? ⟨b7, o7 + j * 7 + 4, none⟩ = some (.slice A7 r'.guards.length c7) ∧ w'.cell? ⟨b7, o7 + j * 7 + 5, none⟩ = some (.int .i64 r'.weight) ∧ w'.cell? ⟨b7, o7 + j * 7 + 6, none⟩ = some (.slice A8 r'.out.length c8))
            (first | exact Sk.out _ (by assumption) | assumption)
            (first | (go_at_call 40; refine (Hmade.out _ ?_).mono ?_; (first | assumption | simp [*]); rintro e wv ⟨A9, c9, rfl, hs9, hB9, hC9⟩))
          have hz9 := hB9.size
          have hbw9 : Below w.heap.size w wv := Hb3'.out.trans (hB9.mono hz3')
          have hown9 := Hown3.out.later hB9
          have hF9 : ∀ q, (w3.heap.size ≤ q ∧ q < wv.heap.size) → w.heap.size ≤ q ∧ q < wv.heap.size ∧ some q ≠ (Value.slice Ao n co).ownBlock := fun q hq => ⟨by omega, hq.2, fun he => by have := (Hown3.out.lt q he.symm).2; omega⟩
          have hs9' : SlAt pMod (fun q => w3.heap.size ≤ q ∧ q < wv.heap.size) wv A9 c9 (madeL r' m) := hs9.wide fun q hq => ⟨Nat.le_trans (by first | (simp; done) | (simp; omega)) hq.1, hq.2⟩
          have hlk : ((succC p rs ms k).map (·.1) ++ madeL r' m).length = n + r'.out.length := by rw [List.length_append, List.length_map, hn.out, Hml.out]
          have hrk : Room (n + r'.out.length) := room_of (by omega)
          have hba : w.heap.size ≤ wv.heap.size := by omega
          have hcat := fun (a : Act) (ha : a.eval (.tmp 58) = .slice A9 r'.out.length c9) => (show a.eval (.tmp 58) = .slice A9 (madeL r' m).length c9 by rw [Hml.out]; exact ha)
          have Hbw9 := Lib.hid hbw9; clear hbw9
          have Hown9 := Lib.hid hown9; clear hown9
          have HF9 := Lib.hid hF9; clear hF9
          have Hs9' := Lib.hid hs9'; clear hs9'
          have Hlk := Lib.hid hlk; clear hlk
          have Hrk := Lib.hid hrk; clear hrk
          have Hcat := Lib.hid hcat; clear hcat
          clear hs9
          go_wp2_with (at_builtin; refine wpList_catG (E := pMod) (xs := (succC p rs ms k).map (·.1)) (v := .slice Ao n co) (base := w.heap.size) (G := (w.heap.size ≤ ·)) 23 55 (.agg #[.int .u8 0, .slice none 0 0]) 32 (.tmp 57) (.tmp 58) rfl rfl Try.underlying23 info_mod rfl (by decide) rfl Hown9.out A9 c9 (madeL r' m) (Hcat.out _ rfl) _ Hs9'.out HF9.out (n + r'.out.length) Hlk.out Hrk.out (by decide) hba ?_; intro A6 c6 w6 hown6 hg6)
          go_roundw
          case rel =>
            have hz6 := hg6.out.bel.size
            have hb6 := Hbw9.out.trans hg6.out.bel
            refine ⟨k + 1, n + r'.out.length, A6, c6, hlt, by go_num, rfl, hb6, by omega, Hsn1, Hsn3, ?_⟩
            unfold Hid; rw [Hsn2.out]; exact hown6.out
          case measure => simp [intOf]; omega

def RefCRunPost (rs : List Rul) (p : ByteArray) (ms : List Mod) (n : Int) (w : World) (e : Ending) (w' : World) : Prop :=
  ∃ A c, e = .returned (.tuple #[.slice A (cRunF rs p ms n).1.length c, .int .i64 (cRunF rs p ms n).2]) ∧ Own pMod 55 w.heap.size (w.heap.size ≤ ·) w' (.slice A (cRunF rs p ms n).1.length c) (cRunF rs p ms n).1 ∧ Below w.heap.size w w'
set_option maxRecDepth 100000 in
set_option maxHeartbeats 1000000 in
theorem refCRun_calls (A : Option Addr) (c : Nat) (rs : List Rul) (p : ByteArray) (B : Option Addr) (cb : Nat) (ms : List Mod) (n : Int) (w : World) (h : SlAt pRul (Old w) w A c rs) (h' : SlAt pMod (Old w) w B cb ms) (hs : Small rs) (hp : p.size ≤ 1000) (hn : Fits .i64 n) :
    Calls Try.prog 19 #[.slice A rs.length c, .string p, .slice B ms.length cb, .int .i64 n] w (RefCRunPost rs p ms n w) := by
  have hck := refCOpen_calls A c rs B cb ms p w h h' hs hp
  have hn64 := hn.i64
  have H := Lib.hid h; clear h
  have H' := Lib.hid h'; clear h'
  have Hck := Lib.hid hck; clear hck
  have Hn := Lib.hid hn; clear hn
  by_cases hr : openC rs p ms = 0
  case neg =>
    have e0 : (openC rs p ms != 0) = true := by simp [hr]
    have hff : cRunF rs p ms n = ([], openC rs p ms) := by unfold cRunF; rw [if_neg hr]
    have Hr := Lib.hid hr; clear hr
    have Hff := Lib.hid hff; clear hff
    go_enter Try.func19, Try.ntmps19
    go_wp2_with fail
    refine Hck.out.mono ?_
    rintro e w1 ⟨rfl, hb1⟩
    have hz1 := hb1.size
    have hck1 := refCOpen_calls A c rs B cb ms p w1 (H.out.later hb1) (H'.out.later hb1) hs hp
    have Hb1 := Lib.hid hb1; clear hb1
    have Hck1 := Lib.hid hck1; clear hck1
    go_wp2_with fail
    refine Hck1.out.mono ?_
    rintro e w2 ⟨rfl, hb2⟩
    have hbw2 := Hb1.out.trans (hb2.mono hz1)
    have Hbw2 := Lib.hid hbw2; clear hbw2
    clear hb2
    go_wp2
    go_ret2
    exact ⟨none, 0, by rw [Hff.out]; rfl, by rw [Hff.out]; exact Own.nil, Hbw2.out⟩
  case pos =>
  have e0 : (openC rs p ms != 0) = false := by simp [hr]
  obtain ⟨hr1, hf⟩ := openC_zero hr
  have hfine := checkF_fine hf
  have hle := checkF_le hf
  have Hr := Lib.hid hr; clear hr
  have Hr1 := Lib.hid hr1; clear hr1
  go_enter Try.func19, Try.ntmps19
  go_wp2_with fail
  refine Hck.out.mono ?_
  rintro e w2 ⟨rfl, hbw2⟩
  have hz2 := hbw2.size
  by_cases hbad : n < 0
  · have hff : cRunF rs p ms n = ([], 2) := by unfold cRunF; rw [if_pos Hr.out, if_pos (.inl hbad)]
    have Hbw2 := Lib.hid hbw2; clear hbw2
    have Hff := Lib.hid hff; clear hff
    have Hf := Lib.hid hf; clear hf
    clear hfine
    go_wp2
    go_ret2
    exact ⟨none, 0, by rw [Hff.out]; rfl, by rw [Hff.out]; exact Own.nil, Hbw2.out⟩
  by_cases hbad2 : 30 < n
  · have hff : cRunF rs p ms n = ([], 2) := by unfold cRunF; rw [if_pos Hr.out, if_pos (.inr hbad2)]
    have Hbw2 := Lib.hid hbw2; clear hbw2
    have Hff := Lib.hid hff; clear hff
    have Hf := Lib.hid hf; clear hf
    clear hfine
    go_wp2
    go_ret2
    exact ⟨none, 0, by rw [Hff.out]; rfl, by rw [Hff.out]; exact Own.nil, Hbw2.out⟩
  obtain ⟨N, rfl⟩ := Int.eq_ofNat_of_zero_le (Int.not_lt.1 hbad)
  have hN : N ≤ 30 := by omega
  have hff : cRunF rs p ms (N : Int) = iterC rs p N ms := by unfold cRunF; rw [if_pos Hr.out, if_neg (by omega)]; rfl
  have htw := refTwin_calls B cb ms w2 (H'.out.later hbw2) (by omega) (fun m hm => by have := (fine_args (hfine m hm)).2; omega)
  have Hbw2 := Lib.hid hbw2; clear hbw2
  have Hff := Lib.hid hff; clear hff
  have Hf := Lib.hid hf; clear hf
  have Htw := Lib.hid htw; clear htw
  clear hfine
  go_wp2_with fail
  refine Htw.out.mono ?_
  rintro e w3 ⟨A3, c3, rfl, ho3, hb3⟩
  have hbw3 := Hbw2.out.trans (hb3.mono hz2)
  have hz3 := hbw3.size
  have ho3' := ho3.mono (base' := w.heap.size) (G' := (w.heap.size ≤ ·)) hz2 (fun k hk => Nat.le_trans hz2 hk)
  have Hbw3 := Lib.hid hbw3; clear hbw3
  have Ho3' := Lib.hid ho3'; clear ho3'
  clear hb3 ho3
  go_wp2
  go_loopw [10, 2] (fun i wv wr => ∃ (k : Nat) (cur : List Mod) (Ac : Option Addr) (cc : Nat), k ≤ N ∧ i = .int .i64 k ∧ wv = .slice Ac cur.length cc ∧ Hid (Below w.heap.size w wr) ∧ w.heap.size ≤ wr.heap.size ∧ Hid (iterC rs p N ms = iterC rs p (N - k) cur) ∧
    Hid (Own pMod 55 w.heap.size (w.heap.size ≤ ·) wr (.slice Ac cur.length cc) cur)) (fun i _ _ => N - (intOf i).toNat)
  case atStart => exact ⟨0, ms, A3, c3, Nat.zero_le _, rfl, rfl, Hbw3, hz3, rfl, Ho3'⟩
  case round =>
    obtain ⟨k, cur, Ac, cc, hk, rfl, rfl, hb, hsz, hit, hown⟩ := hrel
    obtain ⟨wo, rfl⟩ : ∃ wo : World, wo = wr := ⟨_, rfl⟩
    by_cases hlt : k < N
    · obtain ⟨_, _, hv, hsl⟩ := hown.out.fresh; cases hv
      have hst := refCStep_calls A c rs p Ac cc cur wo (H.out.later hb.out) (hsl.wide fun q hq => hq.2) hs hp
      have hit2 : iterC rs p N ms = if (cStepF rs p cur).2 = 0 then iterC rs p (N - (k + 1)) (cStepF rs p cur).1 else ([], (cStepF rs p cur).2) := by
        rw [hit.out, show N - k = (N - (k + 1)) + 1 from by omega, iterC_step]
      unfold RefCStepPost at hst
      obtain ⟨⟨v, ee⟩, hr1⟩ : ∃ r1, cStepF rs p cur = r1 := ⟨_, rfl⟩
      rw [hr1] at hst hit2
      simp only at hst hit2
      have Hst := Lib.hid hst; clear hst
      have Hr1 := Lib.hid hr1; clear hr1
      clear hit hsl
      go_wp2_with fail
      refine Hst.out.mono ?_
      rintro e w4 ⟨A4, c4, rfl, ho4, hb4⟩
      have hz4 := hb4.size
      have hbw4 := hb.out.trans (hb4.mono hsz)
      have hz4' := hbw4.size
      have ho4' := ho4.mono (base' := w.heap.size) (G' := (w.heap.size ≤ ·)) hsz (fun k hk => Nat.le_trans hsz hk)
      by_cases hee : ee = 0
      · subst hee
        rw [if_pos rfl] at hit2
        have Hbw4 := Lib.hid hbw4; clear hbw4
        have Ho4' := Lib.hid ho4'; clear ho4'
        have Hit2 := Lib.hid hit2; clear hit2
        clear hb4 ho4
        go_wp2
        go_roundw
        case rel => exact ⟨k + 1, v, A4, c4, hlt, by go_num, rfl, Hbw4, hz4', Hit2, Ho4'⟩
        case measure => simp [intOf]; omega
      · rw [if_neg hee] at hit2
        have e5 : (ee != 0) = true := by simp [hee]
        have hff2 := Hff.out.trans hit2
        have Hbw4 := Lib.hid hbw4; clear hbw4
        have Hff2 := Lib.hid hff2; clear hff2
        clear hb4 ho4 ho4' hit2 hee
        go_wp2
        go_ret2
        exact ⟨none, 0, by rw [Hff2.out]; rfl, by rw [Hff2.out]; exact Own.nil, Hbw4.out⟩
    · obtain rfl : k = N := by omega
      have hff2 : cRunF rs p ms (k : Int) = (cur, 0) := by rw [Hff.out, hit.out, Nat.sub_self]; rfl
      have Hff2 := Lib.hid hff2; clear hff2
      go_wp2
      go_ret2
      exact ⟨Ac, cc, by rw [Hff2.out]; rfl, by rw [Hff2.out]; exact hown.out, hb.out⟩
end Go.Proofs.Ytpdmjmhiehfkaaa
