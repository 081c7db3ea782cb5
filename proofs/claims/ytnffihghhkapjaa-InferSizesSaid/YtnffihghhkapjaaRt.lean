/-
  Layer 7: the walk of the reference's Step.
-/
import Derived.Test.YtnffihghhkapjaaRq
import Derived.Test.YtnffihghhkapjaaFi
import Derived.Test.YtnffihghhkapjaaWf
namespace Go.Proofs.Ytnffihghhkapjaa
open Go.RowKit Go.Sort

theorem sl_one {α : Type} {E : Rp α} {F : Nat → Prop} {w : World} {b o cap : Nat} {xs : List α} {i : Nat} {x : α} (h : SlAt E F w (some ⟨b, o, none⟩) cap xs) (hx : xs[i]? = some x) : SlAt E F w (some ⟨b, o + i * E.n, none⟩) (cap - i) [x] := by
  have hi : i < xs.length := (List.getElem?_eq_some_iff.1 hx).1
  have hle := h.le
  have hmx := h.mx
  refine ⟨by simp; omega, by omega, (fun e => by cases e), fun j y hy => ?_⟩
  have hj : j = 0 := by have := (List.getElem?_eq_some_iff.1 hy).1; simpa using this
  subst hj
  simp at hy; subst hy
  obtain ⟨b', o', cs, h1, h2, h3, h4⟩ := h.el i _ hx
  cases h1
  exact ⟨b, o + i * E.n, cs, rfl, h2, h3, fun j c hc => by rw [Nat.zero_mul, Nat.add_zero]; exact h4 j c hc⟩
theorem outsF_le {rs : List Rul} {m : Mod} (h : ∀ r ∈ rs, r.out.length ≤ 30) : (outsF rs m).length ≤ 30 := by
  rcases outsF_cases rs m with ⟨_, h1⟩ | ⟨j, r, _, h2, _, h3⟩
  · rw [h1]; simp
  · rw [h3, List.length_map]; exact h r (List.mem_of_getElem? h2)
theorem succF_le {rs : List Rul} (h : ∀ r ∈ rs, r.out.length ≤ 30) : ∀ (ms : List Mod), (succF rs ms).length ≤ ms.length * 30
  | [] => by simp [succF]
  | m :: ms => by
    have h1 := outsF_le (m := m) h
    have h2 := succF_le h ms
    have e : succF rs (m :: ms) = outsF rs m ++ succF rs ms := rfl
    rw [e, List.length_append, List.length_cons]
    omega
theorem stepF_not {rs : List Rul} {ms : List Mod} {k : Nat} {m : Mod} (hd : ms.drop k = m :: ms.drop (k + 1)) (h : (outsF rs m).all (·.2) = false) : stepF rs ms = ([], 16) := by
  unfold stepF
  rw [if_neg]
  intro hall
  obtain ⟨t, ht⟩ := succF_prefix (rs := rs) (ms := ms) (k + 1)
  rw [← ht, List.all_append, Bool.and_eq_true, succF_snoc hd, List.all_append, Bool.and_eq_true, h] at hall
  exact Bool.noConfusion hall.1.2

def RefStepPost (rs : List Rul) (ms : List Mod) (w : World) (e : Ending) (w' : World) : Prop :=
  ∃ A c, e = .returned (.tuple #[.slice A (rStepF rs ms).1.length c, .int .i64 (rStepF rs ms).2]) ∧ Own pMod 52 w.heap.size (w.heap.size ≤ ·) w' (.slice A (rStepF rs ms).1.length c) (rStepF rs ms).1 ∧ Below w.heap.size w w'

set_option maxRecDepth 100000 in
set_option maxHeartbeats 4000000 in
theorem refStep_calls (A : Option Addr) (c : Nat) (rs : List Rul) (B : Option Addr) (cb : Nat) (ms : List Mod) (w : World) (h : SlAt pRul (Old w) w A c rs) (h' : SlAt pMod (Old w) w B cb ms) (hs : Small rs) :
    Calls Try.prog 52 #[.slice A rs.length c, .slice B ms.length cb] w (RefStepPost rs ms w) := by
  have hmx := h.lenle
  have hmx' := h'.lenle
  have hck := refRCheck_calls A c rs w h hs
  have H := Lib.hid h; clear h
  have H' := Lib.hid h'; clear h'
  by_cases hr : checkR rs = 0
  case neg =>
    have e0 : (checkR rs != 0) = true := by simp [hr]
    have hff : rStepF rs ms = ([], checkR rs) := by unfold rStepF openR; rw [if_neg hr, if_neg hr]
    have Hr := Lib.hid hr; clear hr
    have Hff := Lib.hid hff; clear hff
    have Hck := Lib.hid hck; clear hck
    go_enter Try.func52, Try.ntmps52
    go_wp2_with fail
    refine Hck.out.mono ?_
    rintro e w1 ⟨rfl, hb1⟩
    have hz1 := hb1.size
    have hck1 := refRCheck_calls A c rs w1 (H.out.later hb1) hs
    have Hb1 := Lib.hid hb1; clear hb1
    have Hck1 := Lib.hid hck1; clear hck1
    go_wp2_with fail
    refine Hck1.out.mono ?_
    rintro e w2 ⟨rfl, hb2⟩
    have hbw2 := Hb1.out.trans (hb2.mono hz1)
    have Hbw2 := Lib.hid hbw2; clear hbw2
    clear hb2
    go_wp2
    go_ret2
    exact ⟨none, 0, by rw [Hff.out]; rfl, by rw [Hff.out]; exact Own.nil, Hbw2.out⟩
  case pos =>
  have e0 : (checkR rs != 0) = false := by simp [hr]
  have hco := (checkR_ok hr).1
  have Hck := Lib.hid hck; clear hck
  by_cases hf : checkF ms = 0
  case neg =>
    have e1 : (checkF ms != 0) = true := by simp [hf]
    have hff : rStepF rs ms = ([], checkF ms) := by unfold rStepF openR; rw [if_pos hr, if_neg hf]
    have Hf := Lib.hid hf; clear hf
    have Hff := Lib.hid hff; clear hff
    have Hr := Lib.hid hr; clear hr
    go_enter Try.func52, Try.ntmps52
    go_wp2_with fail
    refine Hck.out.mono ?_
    rintro e w1 ⟨rfl, hb1⟩
    have hz1 := hb1.size
    have hcw1 := refCheck_calls B cb ms w1 (H'.out.later hb1)
    have Hb1 := Lib.hid hb1; clear hb1
    have Hcw1 := Lib.hid hcw1; clear hcw1
    go_wp2_with fail
    refine Hcw1.out.mono ?_
    rintro e w2 ⟨rfl, hb2⟩
    have hbw2 := Hb1.out.trans (hb2.mono hz1)
    have hz2 := hbw2.size
    have hcw2 := refCheck_calls B cb ms w2 (H'.out.later hbw2)
    have Hbw2 := Lib.hid hbw2; clear hbw2
    have Hcw2 := Lib.hid hcw2; clear hcw2
    clear hb2
    go_wp2_with fail
    refine Hcw2.out.mono ?_
    rintro e w3 ⟨rfl, hb3⟩
    have hbw3 := Hbw2.out.trans (hb3.mono hz2)
    have Hbw3 := Lib.hid hbw3; clear hbw3
    clear hb3
    go_wp2
    go_ret2
    exact ⟨none, 0, by rw [Hff.out]; rfl, by rw [Hff.out]; exact Own.nil, Hbw3.out⟩
  case pos =>
  have e1 : (checkF ms != 0) = false := by simp [hf]
  have hfine := checkF_fine hf
  have hlen := checkF_le hf
  have hff : rStepF rs ms = stepF rs ms := by unfold rStepF openR; rw [if_pos hr, if_pos hf]
  have Hf := Lib.hid hf; clear hf
  have Hff := Lib.hid hff; clear hff
  have Hr := Lib.hid hr; clear hr
  have Hfine := Lib.hid hfine; clear hfine
  have Hco := Lib.hid hco; clear hco
  go_enter Try.func52, Try.ntmps52
  go_wp2_with fail
  refine Hck.out.mono ?_
  rintro e w1 ⟨rfl, hb1⟩
  have hz1 := hb1.size
  have hcw1 := refCheck_calls B cb ms w1 (H'.out.later hb1)
  have Hb1 := Lib.hid hb1; clear hb1
  have Hcw1 := Lib.hid hcw1; clear hcw1
  go_wp2_with fail
  refine Hcw1.out.mono ?_
  rintro e w2 ⟨rfl, hb2⟩
  have hbw2 := Hb1.out.trans (hb2.mono hz1)
  have hz2 := hbw2.size
  have Hbw2 := Lib.hid hbw2; clear hbw2
  clear hb2 hz1
  go_wp2
  go_loopw [7, 6] (fun i out wr => ∃ (k n : Nat) (Ao : Option Addr) (co : Nat), k ≤ ms.length ∧ i = .int .i64 k ∧ out = .slice Ao n co ∧ Hid (Below w.heap.size w wr) ∧ w.heap.size ≤ wr.heap.size ∧ Hid ((succF rs (ms.take k)).all (·.2) = true) ∧ Hid ((succF rs (ms.take k)).length = n) ∧
    Hid (Own pMod 52 w.heap.size (w.heap.size ≤ ·) wr (.slice Ao n co) ((succF rs (ms.take k)).map (·.1)))) (fun i _ _ => ms.length - (intOf i).toNat)
  case atStart => exact ⟨0, 0, none, 0, Nat.zero_le _, rfl, rfl, Hbw2, hz2, rfl, rfl, Own.nil⟩
  case round =>
    obtain ⟨k, n, Ao, co, hk, rfl, rfl, hb, hsz, hall, hn, hown⟩ := hrel
    obtain ⟨wo, rfl⟩ : ∃ wo : World, wo = wr := ⟨_, rfl⟩
    have hnl : n ≤ k * 30 := by
      have h1 := succF_le hs.o (ms.take k)
      rw [hn.out, List.length_take] at h1
      omega
    by_cases hlt : k < ms.length
    case neg =>
      obtain rfl : k = ms.length := by omega
      have hn' := hn.out
      have hall' := hall.out
      have hown' := hown.out
      rw [List.take_length] at hn' hall' hown'
      by_cases hbig : 2000 < n
      · have hst : rStepF rs ms = ([], 4) := by rw [Hff.out]; unfold stepF; rw [if_pos hall', if_pos (by rw [hn']; exact hbig)]
        have Hst := Lib.hid hst; clear hst
        clear hn' hall' hown'
        go_wp2
        go_ret2
        exact ⟨none, 0, by rw [Hst.out]; rfl, by rw [Hst.out]; exact Own.nil, hb.out⟩
      · have hst : rStepF rs ms = ((succF rs ms).map (·.1), 0) := by rw [Hff.out]; unfold stepF; rw [if_pos hall', if_neg (by rw [hn']; exact hbig)]
        have hml : ((succF rs ms).map (·.1)).length = n := by rw [List.length_map]; exact hn'
        have Hst := Lib.hid hst; clear hst
        have Hown' := Lib.hid hown'; clear hown'
        have Hml := Lib.hid hml; clear hml
        clear hn' hall'
        go_wp2
        go_ret2
        exact ⟨Ao, co, by rw [Hst.out, Hml.out]; rfl, by rw [Hst.out, Hml.out]; exact Hown'.out, hb.out⟩
    case pos =>
      obtain ⟨b, o, D, d, m, hd, hB, hob, q0, q1, hx8, hxa, hxl⟩ := (H'.out.below hb.out).getMod hlt
      subst hB
      have hobw : b < w.heap.size := hob
      have hmf := Hfine.out m (mem_of_drop hd.out)
      have hargs := fine_args hmf
      have hfc := first_calls A c rs D d m wo (H.out.later hb.out) (hxa.out.wide fun q hq => Nat.lt_of_lt_of_le hq hsz) Hco.out hargs
      have hsn := succF_snoc (rs := rs) hd.out
      have hk0 : (0 : Int) ≤ (k : Int) := Int.natCast_nonneg _
      have hk1 : (k : Int) < (ms.length : Int) := by omega
      have hbo' : b < wo.heap.size := by omega
      rcases outsF_cases rs m with ⟨hneg, hou⟩ | ⟨j, r, hpos, hj, hfit, hou⟩
      · rw [hneg] at hfc
        have hle1 : (k : Int) + 1 ≤ (ms.length : Int) := by omega
        have Hfc := Lib.hid hfc; clear hfc
        have Hneg := Lib.hid hneg; clear hneg
        have Hou := Lib.hid hou; clear hou
        have Hsn := Lib.hid hsn; clear hsn
        have Hargs := Lib.hid hargs; clear hargs
        have Hmf := Lib.hid hmf; clear hmf
        go_wp2_with (go_at_call 57; refine Hfc.out.mono ?_; rintro e w3 ⟨rfl, hb3⟩)
        have hb3' : Below w.heap.size w w3 := hb.out.trans (hb3.mono hsz)
        have hz3 := hb3.size
        have hz3' : w.heap.size ≤ w3.heap.size := by omega
        have hsl := sl_one (H'.out.below hb3') (get_of_drop hd.out)
        have htw := refTwin_calls (some ⟨b, o + k * 2, none⟩) (cb - k) [m] w3 (hsl.wide fun q hq => Nat.lt_of_lt_of_le hq hz3') (by simp) (fun m' hm' => by simp at hm'; rw [hm']; have := Hargs.out.2; omega)
        have hown3 := hown.out.later hb3
        have Hb3' := Lib.hid hb3'; clear hb3'
        have Htw := Lib.hid htw; clear htw
        have Hown3 := Lib.hid hown3; clear hown3
        clear hsl hb3
        refine Htw.out.mono ?_
        rintro e w4 ⟨A1, c1, rfl, hown4, hb4⟩
        obtain ⟨_, _, hv4, hs4⟩ := hown4.fresh; cases hv4
        have hz4 := hb4.size
        have hown5 := Hown3.out.later hb4
        have hb4' : Below w.heap.size w w4 := Hb3'.out.trans (hb4.mono hz3')
        have hF4 : ∀ q, (w3.heap.size ≤ q ∧ q < w4.heap.size) → w.heap.size ≤ q ∧ q < w4.heap.size ∧ some q ≠ (Value.slice Ao n co).ownBlock := fun q hq => ⟨by omega, hq.2, fun he => by have := (Hown3.out.lt q he.symm).2; omega⟩
        have hlk : ((succF rs (ms.take k)).map (·.1) ++ [m]).length = n + 1 := by rw [List.length_append, List.length_map, hn.out]; rfl
        have hrk : Room (n + 1) := room_of (by omega)
        have hba : w.heap.size ≤ w4.heap.size := by omega
        have Hs4 := Lib.hid hs4; clear hs4
        have Hown5 := Lib.hid hown5; clear hown5
        have Hb4' := Lib.hid hb4'; clear hb4'
        have HF4 := Lib.hid hF4; clear hF4
        have Hlk := Lib.hid hlk; clear hlk
        have Hrk := Lib.hid hrk; clear hrk
        clear hown4 hb4
        go_wp2_with (at_builtin; refine wpList_catG (E := pMod) (xs := (succF rs (ms.take k)).map (·.1)) (v := .slice Ao n co) (base := w.heap.size) (G := (w.heap.size ≤ ·)) 22 52 (.agg #[.int .u8 0, .slice none 0 0]) 32 (.tmp 35) (.tmp 41) rfl rfl Try.underlying22 info_mod rfl (by decide) rfl Hown5.out A1 c1 [m] rfl _ Hs4.out HF4.out (n + 1) Hlk.out Hrk.out (by decide) hba ?_; intro A6 c6 w6 hown6 hg6)
        go_roundw
        case rel =>
          have hz6 := hg6.out.bel.size
          have hb6 := Hb4'.out.trans hg6.out.bel
          refine ⟨k + 1, n + 1, A6, c6, hlt, by go_num, rfl, hb6, by omega, ?_, ?_, ?_⟩
          · unfold Hid; rw [Hsn.out, List.all_append, hall.out, Hou.out]; rfl
          · unfold Hid; rw [Hsn.out, List.length_append, hn.out, Hou.out]; rfl
          · unfold Hid; rw [Hsn.out, List.map_append, Hou.out]; exact hown6.out
        case measure => simp [intOf]; omega
      · rw [hpos] at hfc
        have hnn : ¬ ((j : Int) < 0) := by omega
        have Hfc := Lib.hid hfc; clear hfc
        have Hpos := Lib.hid hpos; clear hpos
        have Hou := Lib.hid hou; clear hou
        have Hsn := Lib.hid hsn; clear hsn
        have Hargs := Lib.hid hargs; clear hargs
        have Hmf := Lib.hid hmf; clear hmf
        have Hj := Lib.hid hj; clear hj
        have Hfit := Lib.hid hfit; clear hfit
        go_wp2_with fail
        refine Hfc.out.mono ?_
        rintro e w3 ⟨rfl, hb3⟩
        have hb3' : Below w.heap.size w w3 := hb.out.trans (hb3.mono hsz)
        have hz3 := hb3.size
        have hz3' : w.heap.size ≤ w3.heap.size := by omega
        have hjl : j < rs.length := (List.getElem?_eq_some_iff.1 Hj.out).1
        obtain ⟨b7, o7, A7, c7, A8, c8, r', hdr, hA7, hob7, k0, k1, k2, k3, k4, k5, k6, hat, hl1, hl2⟩ := (H.out.below hb3').getRulAt hjl
        have hrr : r' = r := by have h1 := get_of_drop hdr.out; rw [Hj.out] at h1; exact (Option.some.inj h1).symm
        subst hrr
        subst hA7
        have hob7w : b7 < w.heap.size := hob7
        have hco1 : coreR r' = true := List.all_eq_true.1 Hco.out r' (mem_of_drop hdr.out)
        have ho30 := hs.o r' (mem_of_drop hdr.out)
        have hmade : ∀ W : World, Below w3.heap.size w3 W → Calls Try.prog 58 #[.agg #[.int .u8 r'.name, .int .i64 r'.arity, .int .u8 r'.left, .int .u8 r'.right, .slice A7 r'.guards.length c7, .int .i64 r'.weight, .slice A8 r'.out.length c8], .agg #[.int .u8 m.name, .slice D m.args.length d]] W
            (fun e W' => ∃ A9 c9, e = .returned (.tuple #[.slice A9 (madeR r' m).1.length c9, .bool (madeR r' m).2]) ∧ SlAt pMod (fun q => W.heap.size ≤ q ∧ q < W'.heap.size) W' A9 c9 (madeR r' m).1 ∧ Below w3.heap.size w3 W' ∧ Below W.heap.size W W') := fun W hW =>
          (refMade_calls r' A7 c7 A8 c8 D d m W (RulAt.to hat.out hz3' hW) (((hxa.out.keep fun q hq => hb3.block q (by have : q < w.heap.size := hq; omega)).keep fun q hq => hW.block q (by have : q < w.heap.size := hq; omega)).wide fun q hq => by have : q < w.heap.size := hq; have := hW.size; show q < W.heap.size; omega) hco1 Hfit.out Hargs.out ho30).mono fun e W' ⟨A9, c9, he, ho9, hb9⟩ => by
            obtain ⟨_, _, hv9, hs9⟩ := ho9.fresh; cases hv9
            exact ⟨A9, c9, he, hs9, hW.trans (hb9.mono hW.size), hb9⟩
        have sk : ∀ W : World, Below w3.heap.size w3 W → W.cell? ⟨b, o + k * 2, none⟩ = some (.int .u8 m.name) ∧ W.cell? ⟨b, o + k * 2 + 1, none⟩ = some (.slice D m.args.length d) ∧
            W.cell? ⟨b7, o7 + j * 7, none⟩ = some (.int .u8 r'.name) ∧ W.cell? ⟨b7, o7 + j * 7 + 1, none⟩ = some (.int .i64 r'.arity) ∧ W.cell? ⟨b7, o7 + j * 7 + 2, none⟩ = some (.int .u8 r'.left) ∧ W.cell? ⟨b7, o7 + j * 7 + 3, none⟩ = some (.int .u8 r'.right) ∧ W.cell? ⟨b7, o7 + j * 7 + 4, none⟩ = some (.slice A7 r'.guards.length c7) ∧ W.cell? ⟨b7, o7 + j * 7 + 5, none⟩ = some (.int .i64 r'.weight) ∧ W.cell? ⟨b7, o7 + j * 7 + 6, none⟩ = some (.slice A8 r'.out.length c8) := fun W hW => by
          have e1 : W.heap[b]? = wo.heap[b]? := (hW.block b (by omega)).trans (hb3.block b (by omega))
          have e7 : W.heap[b7]? = w3.heap[b7]? := hW.block b7 (by omega)
          exact ⟨(cell_keep e1).trans q0, (cell_keep e1).trans q1, (cell_keep e7).trans k0, (cell_keep e7).trans k1, (cell_keep e7).trans k2, (cell_keep e7).trans k3, (cell_keep e7).trans k4, (cell_keep e7).trans k5, (cell_keep e7).trans k6⟩
        have hown3 := hown.out.later hb3
        have hmo := made_succ Hpos.out Hj.out
        obtain ⟨q0, q1, k0, k1, k2, k3, k4, k5, k6⟩ := sk w3 (Below.refl _ _)
        have hbase : Below w3.heap.size w3 w3.drew := below_drew (Below.refl _ _)
        have hjr0 : (0 : Int) ≤ (j : Int) := Int.natCast_nonneg _
        have hjr1 : (j : Int) < (rs.length : Int) := by omega
        cases hmo2 : madeOk r' m
        · have hmr : madeR r' m = ([], false) := by unfold madeR; rw [hmo2]; rfl
          have hst : rStepF rs ms = ([], 16) := by rw [Hff.out]; exact stepF_not hd.out (by rw [hmo.1]; exact hmo2)
          rw [hmr] at hmade
          have Hmade := Lib.hid hmade; clear hmade
          have Sk := Lib.hid sk; clear sk
          have Hb3' := Lib.hid hb3'; clear hb3'
          have Hown3 := Lib.hid hown3; clear hown3
          have Hst := Lib.hid hst; clear hst
          have Hmr := Lib.hid hmr; clear hmr
          have Hat := Lib.hid hat; clear hat
          have Hmo2 := Lib.hid hmo2; clear hmo2
          clear hmo hb3
          go_wp2
          go_region_held3 (fun w' => w'.cell? ⟨b, o + k * 2, none⟩ = some (.int .u8 m.name) ∧ w'.cell? ⟨b, o + k * 2 + 1, none⟩ = some (.slice D m.args.length d) ∧
            w'.cell? ⟨b7, o7 + j * 7, none⟩ = some (.int .u8 r'.name) ∧ w'.cell? ⟨b7, o7 + j * 7 + 1, none⟩ = some (.int .i64 r'.arity) ∧ w'.cell? ⟨b7, o7 + j * 7 + 2, none⟩ = some (.int .u8 r'.left) ∧ w'.cell? ⟨b7, o7 + j * 7 + 3, none⟩ = some (.int .u8 r'.right) ∧ w'.cell? ⟨b7, o7 + j * 7 + 4, none⟩ = some (.slice A7 r'.guards.length c7) ∧ w'.cell? ⟨b7, o7 + j * 7 + 5, none⟩ = some (.int .i64 r'.weight) ∧ w'.cell? ⟨b7, o7 + j * 7 + 6, none⟩ = some (.slice A8 r'.out.length c8))
            (first | exact Sk.out _ (by assumption) | assumption)
            (first | (go_at_call 58; refine (Hmade.out _ ?_).mono ?_; (first | assumption | simp [*]); rintro e wv ⟨A9, c9, rfl, hs9, hB9, hC9⟩))
          have hbw9 : Below w.heap.size w wv := Hb3'.out.trans (hB9.mono hz3')
          have Hbw9 := Lib.hid hbw9; clear hbw9
          go_wp2
          go_ret2
          exact ⟨none, 0, by rw [Hst.out]; rfl, by rw [Hst.out]; exact Own.nil, Hbw9.out⟩
        · have hmr : madeR r' m = (madeL r' m, true) := by unfold madeR; rw [hmo2]; rfl
          have hml : (madeL r' m).length = r'.out.length := by unfold madeL; rw [List.length_map]
          rw [hmr, hml] at hmade
          have hsn1 : (succF rs (ms.take (k + 1))).all (·.2) = true := by rw [Hsn.out, List.all_append, hall.out, hmo.1, hmo2]; rfl
          have hsn2 : (succF rs (ms.take (k + 1))).map (·.1) = (succF rs (ms.take k)).map (·.1) ++ madeL r' m := by rw [Hsn.out, List.map_append, hmo.2]
          have hsn3 : (succF rs (ms.take (k + 1))).length = n + r'.out.length := by
            have := congrArg List.length hsn2
            rwa [List.length_map, List.length_append, List.length_map, hn.out, hml] at this
          have Hmade := Lib.hid hmade; clear hmade
          have Sk := Lib.hid sk; clear sk
          have Hb3' := Lib.hid hb3'; clear hb3'
          have Hown3 := Lib.hid hown3; clear hown3
          have Hmr := Lib.hid hmr; clear hmr
          have Hat := Lib.hid hat; clear hat
          have Hmo2 := Lib.hid hmo2; clear hmo2
          have Hml := Lib.hid hml; clear hml
          have Hsn1 := Lib.hid hsn1; clear hsn1
          have Hsn2 := Lib.hid hsn2; clear hsn2
          have Hsn3 := Lib.hid hsn3; clear hsn3
          clear hmo hb3
          go_wp2
          go_region_held3 (fun w' => w'.cell? ⟨b, o + k * 2, none⟩ = some (.int .u8 m.name) ∧ w'.cell? ⟨b, o + k * 2 + 1, none⟩ = some (.slice D m.args.length d) ∧
            w'.cell? ⟨b7, o7 + j * 7, none⟩ = some (.int .u8 r'.name) ∧ w'.cell? ⟨b7, o7 + j * 7 + 1, none⟩ = some (.int .i64 r'.arity) ∧ w'.cell? ⟨b7, o7 + j * 7 + 2, none⟩ = some (.int .u8 r'.left) ∧ w'.cell? ⟨b7, o7 + j * 7 + 3, none⟩ = some (.int .u8 r'.right) ∧ w'.cell? ⟨b7, o7 + j * 7 + 4, none⟩ = some (.slice A7 r'.guards.length c7) ∧ w'.cell? ⟨b7, o7 + j * 7 + 5, none⟩ = some (.int .i64 r'.weight) ∧ w'.cell? ⟨b7, o7 + j * 7 + 6, none⟩ = some (.slice A8 r'.out.length c8))
            (first | exact Sk.out _ (by assumption) | assumption)
            (first | (go_at_call 58; refine (Hmade.out _ ?_).mono ?_; (first | assumption | simp [*]); rintro e wv ⟨A9, c9, rfl, hs9, hB9, hC9⟩))
          have hz9 := hB9.size
          have hbw9 : Below w.heap.size w wv := Hb3'.out.trans (hB9.mono hz3')
          have hown9 := Hown3.out.later hB9
          have hF9 : ∀ q, (w3.heap.size ≤ q ∧ q < wv.heap.size) → w.heap.size ≤ q ∧ q < wv.heap.size ∧ some q ≠ (Value.slice Ao n co).ownBlock := fun q hq => ⟨by omega, hq.2, fun he => by have := (Hown3.out.lt q he.symm).2; omega⟩
          have hs9' : SlAt pMod (fun q => w3.heap.size ≤ q ∧ q < wv.heap.size) wv A9 c9 (madeL r' m) := hs9.wide fun q hq => ⟨Nat.le_trans (by first | (simp; done) | (simp; omega)) hq.1, hq.2⟩
          have hlk : ((succF rs (ms.take k)).map (·.1) ++ madeL r' m).length = n + r'.out.length := by rw [List.length_append, List.length_map, hn.out, Hml.out]
          have hrk : Room (n + r'.out.length) := room_of (by omega)
          have hba : w.heap.size ≤ wv.heap.size := by omega
          have hcat := fun (a : Act) (ha : a.eval (.tmp 58) = .slice A9 r'.out.length c9) => (show a.eval (.tmp 58) = .slice A9 (madeL r' m).length c9 by rw [Hml.out]; exact ha)
          have Hbw9 := Lib.hid hbw9; clear hbw9
          have Hown9 := Lib.hid hown9; clear hown9
          have HF9 := Lib.hid hF9; clear hF9
          have Hs9' := Lib.hid hs9'; clear hs9'
          have Hlk := Lib.hid hlk; clear hlk
          have Hrk := Lib.hid hrk; clear hrk
          have Hcat := Lib.hid hcat; clear hcat
          clear hs9
          go_wp2_with (at_builtin; refine wpList_catG (E := pMod) (xs := (succF rs (ms.take k)).map (·.1)) (v := .slice Ao n co) (base := w.heap.size) (G := (w.heap.size ≤ ·)) 22 52 (.agg #[.int .u8 0, .slice none 0 0]) 32 (.tmp 57) (.tmp 58) rfl rfl Try.underlying22 info_mod rfl (by decide) rfl Hown9.out A9 c9 (madeL r' m) (Hcat.out _ rfl) _ Hs9'.out HF9.out (n + r'.out.length) Hlk.out Hrk.out (by decide) hba ?_; intro A6 c6 w6 hown6 hg6)
          go_roundw
          case rel =>
            have hz6 := hg6.out.bel.size
            have hb6 := Hbw9.out.trans hg6.out.bel
            refine ⟨k + 1, n + r'.out.length, A6, c6, hlt, by go_num, rfl, hb6, by omega, Hsn1, Hsn3, ?_⟩
            unfold Hid; rw [Hsn2.out]; exact hown6.out
          case measure => simp [intOf]; omega
end Go.Proofs.Ytnffihghhkapjaa
