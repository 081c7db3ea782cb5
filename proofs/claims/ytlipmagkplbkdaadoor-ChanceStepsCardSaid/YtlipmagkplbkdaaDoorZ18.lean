/-
  Several texts in one.
-/
import Derived.Test.YtlipmagkplbkdaaDoorZ10
import Derived.Test.YtlipmagkplbkdaaDoorZ11
import Derived.Test.YtlipmagkplbkdaaDoorZ17
/-! Oa9 -/
namespace Go.Proofs.YtlipmagkplbkdaaDoor
open Go.RowKit Go.Sort Go.BigFrame
set_option linter.unusedVariables false
set_option linter.unusedSimpArgs false
def pCelF (N : Nat) : Rp Cel where
  n := 3
  R F w cs x := ∃ A c, cs = [.string x.path, .int .u8 x.mod.name, .slice A x.mod.args.length c] ∧ x.path.size ≤ maxLen ∧ Fits .u8 x.mod.name ∧ SlAt (pI .i64) F w A c x.mod.args ∧ (x.mod.args ≠ [] → ∀ b o, A = some ⟨b, o, none⟩ → N ≤ b ∧ Unf w b)
  len := by rintro F w cs x ⟨A, c, rfl, _⟩; rfl
  keep := by
    rintro F w w' cs x ⟨A, c, rfl, h0, h1, h2, h3⟩ k
    refine ⟨A, c, rfl, h0, h1, h2.keep k, fun hne b o hA => ⟨(h3 hne b o hA).1, unf_same (h3 hne b o hA).2 ?_⟩⟩
    obtain ⟨b', o', _, _, hA', hF, _⟩ := h2.getI (i := 0) (List.length_pos_iff.2 hne)
    rw [hA] at hA'; cases hA'; exact k _ ‹_›
  wide := by rintro F F' w cs x ⟨A, c, rfl, h0, h1, h2, h3⟩ k; exact ⟨A, c, rfl, h0, h1, h2.wide k, h3⟩
  one := by
    rintro F w cs x ⟨A, c, rfl, _⟩ v hv
    simp at hv; rcases hv with rfl | rfl | rfl <;> rfl
theorem slAt_celF {N : Nat} {F : Nat → Prop} {w : World} {A : Option Addr} {cap : Nat} {xs : List Cel} (h : SlAt (pCelF N) F w A cap xs) : SlAt pCel F w A cap xs :=
  ⟨h.le, h.mx, h.nil, fun i x hx => by
    obtain ⟨b, o, cs, h1, h2, ⟨A', c', h3, h4, h5, h6, _⟩, h7⟩ := h.el i x hx
    exact ⟨b, o, cs, h1, h2, ⟨A', c', h3, h4, h5, h6⟩, h7⟩⟩
def CelsPostF (r : List Cel × Int) (w : World) (e : Ending) (w' : World) : Prop := ∃ A c, e = .returned (.tuple #[.slice A r.1.length c, .int .i64 r.2]) ∧ SlAt (pCelF 0) (fun q => w.heap.size ≤ q ∧ q < w'.heap.size) w' A c r.1 ∧ Below w.heap.size w w'
theorem celsPostF_none {r : List Cel × Int} {x : Int} {w w' : World} (h : r = ([], x)) (hb : Below w.heap.size w w') : CelsPostF r w (.returned (.tuple #[.slice none 0 0, .int .i64 x])) w' := by
  subst h
  exact ⟨none, 0, rfl, ⟨Nat.le_refl _, Nat.zero_le _, (fun _ => rfl), fun i x hx => by simp at hx⟩, hb⟩
theorem twin_oneF {W w2 : World} {A1 : Option Addr} {c1 : Nat} {m : Mod} (h : Own pModF 49 W.heap.size (W.heap.size ≤ ·) w2 (.slice A1 1 c1) [m]) :
    ∃ g o D d, A1 = some ⟨g, o, none⟩ ∧ w2.cell? ⟨g, o, none⟩ = some (.int .u8 m.name) ∧ w2.cell? ⟨g, o + 1, none⟩ = some (.slice D m.args.length d) ∧ SlAt (pI .i64) (fun q => W.heap.size ≤ q ∧ q < w2.heap.size) w2 D d m.args ∧ (m.args ≠ [] → ∀ b o, D = some ⟨b, o, none⟩ → 0 ≤ b ∧ Unf w2 b) := by
  obtain ⟨A, c, e, hs⟩ := h.fresh
  injection e with e1 e2 e3
  subst e1 e3
  obtain ⟨b, o, cs, h1, h2, ⟨D, d, h3, h4, h5, h6⟩, h7⟩ := hs.el 0 m rfl
  subst h3
  refine ⟨b, o, D, d, h1, ?_, ?_, h5, fun hne b o hA => ⟨Nat.zero_le _, h6 hne b o hA⟩⟩
  · simpa [pModF] using h7 0 _ rfl
  · simpa [pModF] using h7 1 _ rfl
set_option maxRecDepth 100000 in
set_option maxHeartbeats 8000000 in
theorem successors9F_calls (A : Option Addr) (c : Nat) (rs : List Rul) (s : Int) (cl : Cel) (D : Option Addr) (d : Nat) (w : World) (h : SlAt pRul (Old w) w A c rs) (h' : SlAt (pI .i64) (Old w) w D d cl.mod.args) (hf8 : Fits .u8 cl.mod.name) (hs : Fits .i64 s) (hv : RVal rs) (hfine : fineF cl.mod = true) (hp : cl.path.size ≤ 300) (ht : TabAt w) (hg : GAt w) :
    Calls Tryd.prog 53 #[.slice A rs.length c, .int .i64 s, .agg #[.string cl.path, .int .u8 cl.mod.name, .slice D cl.mod.args.length d]] w (CelsPostF (succR rs s cl) w) := by
  have hmx := h.lenle
  have hmx' := h'.lenle
  have hl40 := hv.l
  have hargs := fine_args hfine
  obtain ⟨W0, hW0⟩ : ∃ W0, W0 = w.alloc (.cells #[.string cl.path, .int .u8 cl.mod.name, .slice D cl.mod.args.length d] 51) := ⟨_, rfl⟩
  have hb0 : Below w.heap.size w W0 := by rw [hW0]; exact (Below.refl _ _).alloc (Nat.le_refl _) _
  have hz0 : W0.heap.size = w.heap.size + 1 := by rw [hW0]; simp
  have hbl0 : Blk W0 w.heap.size 51 #[.string cl.path, .int .u8 cl.mod.name, .slice D cl.mod.args.length d] := by rw [hW0]; exact Blk.new _ _ _
  have hfs0 : FitS W0.heap.size W0 none 0 none 0 0 (fitW cl.mod (rs.take 0)) (fitI cl.mod (rs.take 0)) := ⟨Own.nil, Own.nil, fun q hq => by cases hq⟩
  have hn0 : (fitP cl.mod (rs.take 0)).length = 0 := rfl
  have H := Lib.hid h; clear h
  have H' := Lib.hid h'; clear h'
  have Hv := Lib.hid hv; clear hv
  have Hargs := Lib.hid hargs; clear hargs
  have Hb0 := Lib.hid hb0; clear hb0
  have Hbl0 := Lib.hid hbl0; clear hbl0
  have Hfine := Lib.hid hfine; clear hfine
  have Hs := Lib.hid hs; clear hs
  have Ht := Lib.hid ht; clear ht
  have Hg := Lib.hid hg; clear hg
  have Hfs0 := Lib.hid hfs0; clear hfs0
  have Hn0 := Lib.hid hn0; clear hn0
  go_enter Tryd.func53, Tryd.ntmps53
  go_wp2
  rw [← hW0]
  have HW0 := Lib.hid hW0; clear hW0
  go_loopw [26, 8, 9] (fun i xw xi wr => ∃ (k n : Nat) (Aw Ai : Option Addr) (cw ci : Nat), k ≤ rs.length ∧ i = .int .i64 k ∧ xw = .slice Aw n cw ∧ xi = .slice Ai n ci ∧ n ≤ k ∧ Hid ((fitP cl.mod (rs.take k)).length = n) ∧ Hid (Below W0.heap.size W0 wr) ∧ W0.heap.size ≤ wr.heap.size ∧
    Hid (FitS W0.heap.size wr Aw cw Ai ci n (fitW cl.mod (rs.take k)) (fitI cl.mod (rs.take k)))) (fun i _ _ _ => rs.length - (intOf i).toNat)
  case atStart => exact ⟨0, 0, none, none, 0, 0, Nat.zero_le _, rfl, rfl, rfl, Nat.le_refl _, Hn0, Below.refl _ _, Nat.le_refl _, Hfs0⟩
  case round =>
    obtain ⟨k, n, Aw, Ai, cw, ci, hk, rfl, rfl, rfl, hnk, hn, hb, hsz, hfs⟩ := hrel
    obtain ⟨wo, rfl⟩ : ∃ wo : World, wo = wr := ⟨_, rfl⟩
    have hbwo : Below w.heap.size w wo := Hb0.out.trans (hb.out.mono (by omega))
    have hblo := Hbl0.out.same (hb.out.block _ (by omega))
    by_cases hlt : k < rs.length
    case pos =>
      obtain ⟨b7, o7, A7, c7, A8, c8, r, hdr, rfl, hob7, k0, k1, k2, k3, k4, k5, k6, hat, hl1, hl8⟩ := (H.out.below hbwo).getRulAt hlt
      have hrk : rs[k]? = some r := get_of_drop hdr.out
      have hco1 : coreR r = true := Hv.out.c r (mem_of_drop hdr.out)
      have hwt := Hv.out.w r (mem_of_drop hdr.out)
      obtain ⟨W1, hW1⟩ : ∃ W1, W1 = wo.alloc (.cells #[.int .u8 r.name, .int .i64 r.arity, .int .u8 r.left, .int .u8 r.right, .slice A7 r.guards.length c7, .int .i64 r.weight, .slice A8 r.out.length c8] 60) := ⟨_, rfl⟩
      have hb1 : Below wo.heap.size wo W1 := by rw [hW1]; exact (Below.refl _ _).alloc (Nat.le_refl _) _
      have hz1 : wo.heap.size + 1 ≤ W1.heap.size := by rw [hW1]; simp
      have hbr1 : Blk W1 wo.heap.size 60 #[.int .u8 r.name, .int .i64 r.arity, .int .u8 r.left, .int .u8 r.right, .slice A7 r.guards.length c7, .int .i64 r.weight, .slice A8 r.out.length c8] := by rw [hW1]; exact Blk.new _ _ _
      have hbw1 : Below w.heap.size w W1 := hbwo.trans (hb1.mono (by omega))
      have hcall := chFits_calls r A7 c7 A8 c8 D d cl.mod W1 (hat.out.to (by omega) hb1) (H'.out.later hbw1) hco1 Hargs.out
      have hz5 : ∀ w2 : World, Below W1.heap.size W1 w2 → w2.cell? ⟨wo.heap.size, 5, none⟩ = some (.int .i64 r.weight) := fun w2 hw2 => ((hbr1.same (hw2.block _ hbr1.lt)).cell 5).trans rfl
      have hfs2 : ∀ w2 : World, Below W1.heap.size W1 w2 → FitS W0.heap.size w2 Aw cw Ai ci n (fitW cl.mod (rs.take k)) (fitI cl.mod (rs.take k)) := fun w2 hw2 => (hfs.out.later hb1).later hw2
      have hb2' : ∀ w2 : World, Below W1.heap.size W1 w2 → Below W0.heap.size W0 w2 := fun w2 hw2 => hb.out.trans ((hb1.trans (hw2.mono (by omega))).mono hsz)
      have hk0 : (0 : Int) ≤ (k : Int) := Int.natCast_nonneg _
      have hk1 : (k : Int) < (rs.length : Int) := by omega
      have hblo1 := hblo.same (hb1.block _ (by omega))
      have y1 : W1.cell? ⟨w.heap.size, 1, none⟩ = some (.int .u8 cl.mod.name) := (hblo1.cell 1).trans rfl
      have y2 : W1.cell? ⟨w.heap.size, 2, none⟩ = some (.slice D cl.mod.args.length d) := (hblo1.cell 2).trans rfl
      obtain ⟨z0, z1, z2, z3, z4, z5, z6⟩ := hbr1.rul
      unfold BoolPost at hcall
      generalize hmn : fitsF r cl.mod = t at hcall
      cases t
      · have hn1 : (fitP cl.mod (rs.take (k + 1))).length = n := by rw [fitP_snoc cl.mod hrk, if_neg (by rw [hmn]; decide), List.append_nil]; exact hn.out
        have e1 := fitW_no hrk hmn
        have e2 := fitI_no hrk hmn
        have Hcall := Lib.hid hcall; clear hcall
        have Hz5 := Lib.hid hz5; clear hz5
        have Hfs2 := Lib.hid hfs2; clear hfs2
        have Hn1 := Lib.hid hn1; clear hn1
        have E1 := Lib.hid e1; clear e1
        have E2 := Lib.hid e2; clear e2
        have Hb2' := Lib.hid hb2'; clear hb2'
        have Hmn := Lib.hid hmn; clear hmn
        have Hrk := Lib.hid hrk; clear hrk
        clear hn hfs hbr1 hbw1 hb1 hblo hblo1 hat hdr
        have Y1 := Lib.hid y1; clear y1
        have Y2 := Lib.hid y2; clear y2
        have Z0 := Lib.hid z0; clear z0
        have Z1 := Lib.hid z1; clear z1
        have Z2 := Lib.hid z2; clear z2
        have Z3 := Lib.hid z3; clear z3
        have Z4 := Lib.hid z4; clear z4
        have Z5 := Lib.hid z5; clear z5
        have Z6 := Lib.hid z6; clear z6
        go_upto_region 5 with fail
        rw [← hW1]
        have HW1 := Lib.hid hW1; clear hW1
        have y1 := Y1.out
        have y2 := Y2.out
        have z0 := Z0.out
        have z1 := Z1.out
        have z2 := Z2.out
        have z3 := Z3.out
        have z4 := Z4.out
        have z5 := Z5.out
        have z6 := Z6.out
        clear k0 k1 k2 k3 k4 k5 k6
        go_wp2_with (go_at_call 68; refine Hcall.out.mono ?_; rintro e w2 ⟨rfl, hb2⟩)
        have hz2 := hb2.size
        go_roundw
        case rel =>
          refine ⟨k + 1, n, Aw, Ai, cw, ci, hlt, by go_num, rfl, rfl, by omega, Hn1, Hb2'.out _ hb2, by omega, ?_⟩
          unfold Hid; rw [E1.out, E2.out]; exact Hfs2.out _ hb2
        case measure => simp [intOf]; omega
      · have hn1 : (fitP cl.mod (rs.take (k + 1))).length = n + 1 := by rw [fitP_snoc cl.mod hrk, if_pos hmn, List.length_append, hn.out]; rfl
        have e1 := fitW_yes hrk hmn
        have e2 := fitI_yes hrk hmn
        have hlw : (fitW cl.mod (rs.take k)).length + 1 = n + 1 := by rw [fitW_len, hn.out]
        have hli : (fitI cl.mod (rs.take k)).length + 1 = n + 1 := by rw [fitI_len, hn.out]
        have hrw : Room (fitW cl.mod (rs.take k)).length := room_of (by rw [fitW_len, hn.out]; omega)
        have hri : Room (fitI cl.mod (rs.take k)).length := room_of (by rw [fitI_len, hn.out]; omega)
        have hba : ∀ w2 : World, Below W1.heap.size W1 w2 → W0.heap.size ≤ w2.heap.size := fun w2 hw2 => by have := hw2.size; omega
        have hRw : (pI .i64).R (fun _ => False) W1 (Value.int .i64 r.weight).cells.toList r.weight := ⟨rfl, fits_i64 (by omega)⟩
        have hRi : (pI .i64).R (fun _ => False) W1 (Value.int .i64 k).cells.toList (k : Int) := ⟨rfl, fits_i64 (by omega)⟩
        have Hcall := Lib.hid hcall; clear hcall
        have Hz5 := Lib.hid hz5; clear hz5
        have Hfs2 := Lib.hid hfs2; clear hfs2
        have Hn1 := Lib.hid hn1; clear hn1
        have E1 := Lib.hid e1; clear e1
        have E2 := Lib.hid e2; clear e2
        have Hb2' := Lib.hid hb2'; clear hb2'
        have Hmn := Lib.hid hmn; clear hmn
        have Hrk := Lib.hid hrk; clear hrk
        have Hlw := Lib.hid hlw; clear hlw
        have Hli := Lib.hid hli; clear hli
        have Hrw := Lib.hid hrw; clear hrw
        have Hri := Lib.hid hri; clear hri
        have Hba := Lib.hid hba; clear hba
        have HRw := Lib.hid hRw; clear hRw
        have HRi := Lib.hid hRi; clear hRi
        clear hn hfs hbr1 hbw1 hb1 hblo hblo1 hat hdr
        have Y1 := Lib.hid y1; clear y1
        have Y2 := Lib.hid y2; clear y2
        have Z0 := Lib.hid z0; clear z0
        have Z1 := Lib.hid z1; clear z1
        have Z2 := Lib.hid z2; clear z2
        have Z3 := Lib.hid z3; clear z3
        have Z4 := Lib.hid z4; clear z4
        have Z5 := Lib.hid z5; clear z5
        have Z6 := Lib.hid z6; clear z6
        go_upto_region 5 with fail
        rw [← hW1]
        have HW1 := Lib.hid hW1; clear hW1
        have y1 := Y1.out
        have y2 := Y2.out
        have z0 := Z0.out
        have z1 := Z1.out
        have z2 := Z2.out
        have z3 := Z3.out
        have z4 := Z4.out
        have z5 := Z5.out
        have z6 := Z6.out
        clear k0 k1 k2 k3 k4 k5 k6
        go_wp2_with (first
          | (go_at_call 68; refine Hcall.out.mono ?_; rintro e w2 ⟨rfl, hb2⟩; have zz5 := Hz5.out _ hb2)
          | ((with_reducible show wpList _ _ _ (Oper.mk (some 38) _ _ _ _ _ :: _) _ _); refine wpList_pushG (E := pI .i64) (xs := fitW cl.mod (rs.take k)) (v := .slice Aw n cw) (base := W0.heap.size) (G := fun _ => False) 47 3 (.int .i64 0) 8 38 (.tmp 35) (.tmp 37) rfl rfl rfl rfl rfl Tryd.underlying47 (by kernel_rfl) rfl (by decide) (fun _ => rfl) (fun _ => rfl) (Hfs2.out _ hb2).ow (.int .i64 r.weight) rfl r.weight (fun _ => False) HRw.out (fun _ h => h.elim) (n + 1) Hlw.out Hrw.out ⟨by decide, by decide⟩ (Hba.out _ hb2) ?_; intro A6 c6 w6 hown6 hg6; have ho6 := Lib.hid ((Hfs2.out _ hb2).oi1 hg6.out); have hz6 := Nat.le_trans (Hba.out _ hb2) hg6.out.bel.size)
          | ((with_reducible show wpList _ _ _ (Oper.mk (some 42) _ _ _ _ _ :: _) _ _); refine wpList_pushG (E := pI .i64) (xs := fitI cl.mod (rs.take k)) (v := .slice Ai n ci) (base := W0.heap.size) (G := fun _ => False) 47 3 (.int .i64 0) 8 42 (.tmp 40) (.tmp 41) rfl rfl rfl rfl rfl Tryd.underlying47 (by kernel_rfl) rfl (by decide) (fun _ => rfl) (fun _ => rfl) ho6.out (.int .i64 k) rfl (k : Int) (fun _ => False) HRi.out (fun _ h => h.elim) (n + 1) Hli.out Hri.out ⟨by decide, by decide⟩ hz6 ?_; intro A7' c7' w7 hown7 hg7))
        have hz7 := hg7.out.bel.size
        have hst := (Hfs2.out _ hb2).step hown6.out hg6.out hown7.out hg7.out
        have hbz := (Hb2'.out _ hb2).trans (hg6.out.bel.trans hg7.out.bel)
        have Hst := Lib.hid hst; clear hst
        have Hbz := Lib.hid hbz; clear hbz
        go_roundw
        case rel =>
          refine ⟨k + 1, n + 1, A6, A7', c6, c7', hlt, by go_num, rfl, rfl, by omega, Hn1, Hbz, by omega, ?_⟩
          unfold Hid; rw [E1.out, E2.out]; exact Hst.out
        case measure => simp [intOf]; omega
    case neg =>
      obtain rfl : k = rs.length := by omega
      rw [List.take_length] at hn hfs
      have hq0 := hblo.cell 0
      have y0 : wo.cell? ⟨w.heap.size, 0, none⟩ = some (.string cl.path) := (hblo.cell 0).trans rfl
      have y1 : wo.cell? ⟨w.heap.size, 1, none⟩ = some (.int .u8 cl.mod.name) := (hblo.cell 1).trans rfl
      have y2 : wo.cell? ⟨w.heap.size, 2, none⟩ = some (.slice D cl.mod.args.length d) := (hblo.cell 2).trans rfl
      clear hq0
      rcases pick_cases Hv.out s cl with ⟨hnil, hch, hpk⟩ | ⟨i, j, r, hi, hch, hij, hj, hfit, hpk⟩
      · have hn0 : n = 0 := by have := hn.out; rw [hnil] at this; exact this.symm
        subst hn0
        have hres : succR rs s cl = ([cl], 0) := succR_none hpk
        have hsb : SlAt pMod (Old (wo.alloc (.cells #[.int .u8 cl.mod.name, .slice D cl.mod.args.length d] 49))) (wo.alloc (.cells #[.int .u8 cl.mod.name, .slice D cl.mod.args.length d] 49)) (some ⟨wo.heap.size, 0, none⟩) 1 [cl.mod] := by
          refine (sl_boxed (E := pMod) (F := Old wo) (u := .agg #[.int .u8 cl.mod.name, .slice D cl.mod.args.length d]) ⟨D, d, rfl, hf8, H'.out.later hbwo⟩ (fun q hq => hq)).wide ?_
          intro q hq
          rcases hq with hq | rfl
          · have : q < wo.heap.size := hq
            unfold Old; simp; omega
          · unfold Old; simp
        obtain ⟨W1, hW1⟩ : ∃ W1, W1 = wo.alloc (.cells #[.int .u8 cl.mod.name, .slice D cl.mod.args.length d] 49) := ⟨_, rfl⟩
        have hb1 : Below wo.heap.size wo W1 := by rw [hW1]; exact (Below.refl _ _).alloc (Nat.le_refl _) _
        have hz1 : wo.heap.size + 1 ≤ W1.heap.size := by rw [hW1]; simp
        rw [← hW1] at hsb
        have hbl1 := hblo.same (hb1.block _ (by omega))
        have htw := twin_calls (some ⟨wo.heap.size, 0, none⟩) 1 [cl.mod] W1 hsb (by simp) (fun m' hm' => by simp at hm'; rw [hm']; have := Hargs.out.2; omega)
        have hbw1 : Below w.heap.size w W1 := hbwo.trans (hb1.mono (by omega))
        have Htw := Lib.hid htw; clear htw
        have Hb1 := Lib.hid hb1; clear hb1
        have Hbl1 := Lib.hid hbl1; clear hbl1
        have Hbw1 := Lib.hid hbw1; clear hbw1
        have Hres := Lib.hid hres; clear hres
        have Hn := Lib.hid hn; clear hn
        have Hfs := Lib.hid hfs; clear hfs
        have Hnil := Lib.hid hnil; clear hnil
        have Hch := Lib.hid hch; clear hch
        have Hpk := Lib.hid hpk; clear hpk
        have Hblo := Lib.hid hblo; clear hblo
        have Hbwo := Lib.hid hbwo; clear hbwo
        have Hsb := Lib.hid hsb; clear hsb
        go_upto_region 10 with (first
          | (go_at_call 43; rw [← hW1]; refine Htw.out.mono ?_; rintro e w2 ⟨A1, c1, rfl, hown2, hb2⟩; obtain ⟨g9, o9, D9, d9, rfl, x0, x1, hx9, hu9⟩ := twin_oneF hown2; have Hu9 := Lib.hid hu9; clear hu9; have hbl2 := Lib.hid (Hbl1.out.same (hb2.block _ Hbl1.out.lt)); have Hx9 := Lib.hid hx9; clear hx9)
          | ((with_reducible show wpList _ _ _ (Oper.mk none _ _ _ _ _ :: _) _ _); refine wpList_storeAtH 49 (.tmp 54) (.tmp 53) 1 #[.string cl.path, .int .u8 cl.mod.name, .slice D cl.mod.args.length d] #[.int .u8 cl.mod.name, .slice D9 cl.mod.args.length d9] #[.string cl.path, .int .u8 cl.mod.name, .slice D9 cl.mod.args.length d9] rfl rfl rfl rfl hbl2.out (by kernel_rfl) (Nat.le_refl 3) (by simp [Value.oneCell']) rfl rfl ?_))
        have hz2 := hb2.size
        obtain ⟨W3, hW3⟩ : ∃ W3, W3 = w2.setRow w.heap.size #[.string cl.path, .int .u8 cl.mod.name, .slice D9 cl.mod.args.length d9] := ⟨_, rfl⟩
        have hbl3 : Blk W3 w.heap.size 51 #[.string cl.path, .int .u8 cl.mod.name, .slice D9 cl.mod.args.length d9] := by rw [hW3]; exact blk_row hbl2.out
        have hb3 : Below w.heap.size w W3 := by rw [hW3]; exact row_below (Hbw1.out.trans (hb2.mono (by omega))) (Nat.le_refl _) _
        have hz3 : w2.heap.size ≤ W3.heap.size := by rw [hW3]; simp
        have hx3 : SlAt (pI .i64) (fun q => W1.heap.size ≤ q ∧ q < w2.heap.size) W3 D9 d9 cl.mod.args := by
          refine Hx9.out.keep fun q hq => ?_
          rw [hW3]
          exact setRow_other w2 _ q _ (by omega)
        have hu3 : cl.mod.args ≠ [] → ∀ b o, D9 = some ⟨b, o, none⟩ → 0 ≤ b ∧ Unf W3 b := fun hne b o hA => by
          refine ⟨Nat.zero_le _, unf_same (Hu9.out hne b o hA).2 ?_⟩
          obtain ⟨b', o', _, _, hA', hF, _⟩ := Hx9.out.getI (i := 0) (List.length_pos_iff.2 hne)
          rw [hA] at hA'; cases hA'
          rw [hW3]
          exact setRow_other w2 _ _ _ (by omega)
        rw [← hW3]
        have y0 : W3.cell? ⟨w.heap.size, 0, none⟩ = some (.string cl.path) := (hbl3.cell 0).trans rfl
        have y1 : W3.cell? ⟨w.heap.size, 1, none⟩ = some (.int .u8 cl.mod.name) := (hbl3.cell 1).trans rfl
        have y2 : W3.cell? ⟨w.heap.size, 2, none⟩ = some (.slice D9 cl.mod.args.length d9) := (hbl3.cell 2).trans rfl
        have hfin : SlAt (pCelF 0) (fun q => w.heap.size ≤ q ∧ q < (W3.alloc (.cells #[.string cl.path, .int .u8 cl.mod.name, .slice D9 cl.mod.args.length d9] 51)).heap.size) (W3.alloc (.cells #[.string cl.path, .int .u8 cl.mod.name, .slice D9 cl.mod.args.length d9] 51)) (some ⟨W3.heap.size, 0, none⟩) 1 [cl] := by
          refine (sl_boxed (E := pCelF 0) (F := fun q => W1.heap.size ≤ q ∧ q < w2.heap.size) (x := cl) (u := .agg #[.string cl.path, .int .u8 cl.mod.name, .slice D9 cl.mod.args.length d9]) ⟨D9, d9, rfl, by unfold maxLen; omega, hf8, hx3, hu3⟩ (fun q hq => by omega)).wide ?_
          intro q hq
          have hzz : w.heap.size ≤ wo.heap.size := by omega
          rcases hq with hq | rfl
          · simp; omega
          · simp; omega
        have hb4 : Below w.heap.size w (W3.alloc (.cells #[.string cl.path, .int .u8 cl.mod.name, .slice D9 cl.mod.args.length d9] 51)) := hb3.alloc (by omega) _
        have Hbl3 := Lib.hid hbl3; clear hbl3
        have Hb3 := Lib.hid hb3; clear hb3
        have HW3 := Lib.hid hW3; clear hW3
        have Hx3 := Lib.hid hx3; clear hx3
        have Hu3 := Lib.hid hu3; clear hu3
        have Hfin := Lib.hid hfin; clear hfin
        have Hb4 := Lib.hid hb4; clear hb4
        clear hown2 hb2 hbl2 x0 x1
        go_wp2
        go_ret2
        rw [Hres.out]
        exact ⟨_, 1, rfl, Hfin.out, Hb4.out⟩
      · have hin : i < n := by have := hn.out; omega
        have hres : succR rs s cl = sucR r cl := succR_some hpk
        have hmem := List.mem_of_getElem? hj
        have hco1 := Hv.out.c r hmem
        have ho20 := Hv.out.o r hmem
        have hjl : j < rs.length := (List.getElem?_eq_some_iff.1 hj).1
        obtain ⟨hlw, hsw⟩ := own_fits hfs.out.ow
        obtain ⟨hli, hsi⟩ := own_fits hfs.out.oi
        have hch2 : chooseF s cl.path (fitW cl.mod rs) = ((i : Int), 0) := hch
        have hcc : Calls Tryd.prog 69 #[.int .i64 s, .string cl.path, .slice Aw n cw] wo fun e w' => e = .returned (.tuple #[.int .i64 i, .int .i64 0]) ∧ Below wo.heap.size wo w' := by
          have := choose_calls s cl.path Aw cw (fitW cl.mod rs) wo Hs.out (by omega) hsw
          rw [hlw] at this
          refine this.mono ?_
          rintro e w' ⟨rfl, hb⟩
          rw [hch2]
          exact ⟨rfl, hb⟩
        obtain ⟨bi, oi, x, hdi, hAi, hobi, hci, _⟩ := hsi.getI (i := i) (by omega)
        have hxj : x = (j : Int) := by have h1 := get_of_drop hdi.out; rw [hij] at h1; exact (Option.some.inj h1).symm
        subst hxj
        subst hAi
        obtain ⟨hsum, hs4⟩ := fit_sums hco1 hfit Hargs.out
        have hforms : ∀ s ∈ r.out, ∀ f ∈ s.args, formF f cl.mod.args.length = true := fun s hs f hf => by
          have har : r.arity = (cl.mod.args.length : Int) := by
            unfold fitsF at hfit
            simp only [Bool.and_eq_true, beq_iff_eq] at hfit
            exact hfit.1.2
          have h1 := (fineR_guards hco1).2.2.2 s hs f hf
          rwa [har, Int.toNat_natCast] at h1
        have hok0 : madeOk r cl.mod = r.out.all (okS cl.mod.args) := rfl
        have hzw : w.heap.size < wo.heap.size := by omega
        have hn0 : (0 : Int) < (n : Int) := by omega
        have hi1 : (i : Int) < (n : Int) := by omega
        have hi0 : (0 : Int) ≤ (i : Int) := Int.natCast_nonneg _
        have hj0 : (0 : Int) ≤ (j : Int) := Int.natCast_nonneg _
        have hj1 : (j : Int) < (rs.length : Int) := by omega
        have Hcc := Lib.hid hcc; clear hcc
        have Hres := Lib.hid hres; clear hres
        have Hn := Lib.hid hn; clear hn
        have Hfs := Lib.hid hfs; clear hfs
        have Hch := Lib.hid hch; clear hch
        have Hpk := Lib.hid hpk; clear hpk
        have Hij := Lib.hid hij; clear hij
        have Hj := Lib.hid hj; clear hj
        have Hfit := Lib.hid hfit; clear hfit
        have Hch2 := Lib.hid hch2; clear hch2
        have Hsw := Lib.hid hsw; clear hsw
        have Hsi := Lib.hid hsi; clear hsi
        have Hdi := Lib.hid hdi; clear hdi
        have Hlw := Lib.hid hlw; clear hlw
        have Hli := Lib.hid hli; clear hli
        have Hsum := Lib.hid hsum; clear hsum
        have Hs4 := Lib.hid hs4; clear hs4
        have Hforms := Lib.hid hforms; clear hforms
        have Hok0 := Lib.hid hok0; clear hok0
        have Hbwo := Lib.hid hbwo; clear hbwo
        have Hblo := Lib.hid hblo; clear hblo
        have Hci := Lib.hid hci; clear hci
        have Hco1 := Lib.hid hco1; clear hco1
        go_upto_region 14 with (go_at_call 69; refine Hcc.out.mono ?_; rintro e w2 ⟨rfl, hb2⟩)
        have hz2 := hb2.size
        have hbw2 : Below w.heap.size w w2 := Hbwo.out.trans (hb2.mono (by omega))
        have hci2 : w2.cell? ⟨bi, oi + i, none⟩ = some (.int .i64 j) := (cell_keep (hb2.block bi hobi)).trans Hci.out
        have hbl2 := Hblo.out.same (hb2.block _ hzw)
        obtain ⟨b7, o7, A7, c7, A8, c8, r', hdr, hA7, hob7, k0, k1, k2, k3, k4, k5, k6, hat, hl1, hl8⟩ := (H.out.below hbw2).getRulAt hjl
        have hrr : r' = r := by have h1 := get_of_drop hdr.out; rw [Hj.out] at h1; exact (Option.some.inj h1).symm
        subst hrr
        subst hA7
        have hx2 : SlAt (pI .i64) (Old w) w2 D d cl.mod.args := H'.out.below hbw2
        have how0 : Own (pCelF 0) 51 w2.heap.size (w2.heap.size ≤ ·) w2 (.slice none 0 0) ((sucL cl.path (madeL r' cl.mod)).take 0) := Own.nil
        have Hb2 := Lib.hid hb2; clear hb2
        have Hbw2 := Lib.hid hbw2; clear hbw2
        have Hbl2 := Lib.hid hbl2; clear hbl2
        have Hat := Lib.hid hat; clear hat
        have Hdr := Lib.hid hdr; clear hdr
        have Hx2 := Lib.hid hx2; clear hx2
        have How0 := Lib.hid how0; clear how0
        clear k0 k1 k2 k3 k4 k5 y0 y1 y2
        go_wp2
        clear k6
        go_loopw [77, 14] (fun zq out wr => ∃ (q : Nat) (Aq : Option Addr) (cq : Nat), q ≤ r'.out.length ∧ zq = .int .i64 q ∧ out = .slice Aq q cq ∧ Hid (Below w2.heap.size w2 wr) ∧ w2.heap.size ≤ wr.heap.size ∧ Hid (madeOk r' cl.mod = (r'.out.drop q).all (okS cl.mod.args)) ∧
          Hid (Own (pCelF 0) 51 w2.heap.size (w2.heap.size ≤ ·) wr (.slice Aq q cq) ((sucL cl.path (madeL r' cl.mod)).take q))) (fun zq _ _ => r'.out.length - (intOf zq).toNat)
        case atStart => exact ⟨0, none, 0, Nat.zero_le _, rfl, rfl, Below.refl _ _, Nat.le_refl _, Hok0, How0⟩
        case round =>
          obtain ⟨q, Aq, cq, hq, rfl, rfl, hb4, hsz4, hall4, hown4⟩ := hrel
          obtain ⟨wi, rfl⟩ : ∃ wi : World, wi = wr := ⟨_, rfl⟩
          have hbwi : Below w.heap.size w wi := Hbw2.out.trans (hb4.out.mono (by omega))
          by_cases hlq : q < r'.out.length
          case neg =>
            obtain rfl : q = r'.out.length := by omega
            have hok1 : madeOk r' cl.mod = true := by rw [hall4.out, List.drop_length]; rfl
            have hLl : (sucL cl.path (madeL r' cl.mod)).length = r'.out.length := by rw [sucL_len, madeL_len]
            have hown5 := hown4.out
            rw [List.take_of_length_le (by omega)] at hown5
            obtain ⟨L, hL⟩ : ∃ L, sucL cl.path (madeL r' cl.mod) = L := ⟨_, rfl⟩
            rw [hL] at hLl hown5
            obtain ⟨Az, cz, ez, hslz⟩ := hown5.fresh
            injection ez with ez1 ez2 ez3
            subst ez1 ez3
            have hlong : shortL L = false → sucR r' cl = ([], 4) := fun h => sucR_long hok1 (by rw [hL]; exact h)
            have hfine2 : shortL L = true → sucR r' cl = (L, 0) := fun h => by rw [sucR_ok hok1 (by rw [hL]; exact h), hL]
            have hsl0 : shortL L = shortL (L.drop 0) := rfl
            have Hok1 := Lib.hid hok1; clear hok1
            have HL := Lib.hid hL; clear hL
            have Hown5 := Lib.hid hown5; clear hown5
            have Hslz := Lib.hid hslz; clear hslz
            have Hlong := Lib.hid hlong; clear hlong
            have Hfine2 := Lib.hid hfine2; clear hfine2
            have HLl := Lib.hid hLl; clear hLl
            have Hsl0 := Lib.hid hsl0; clear hsl0
            have Hbwi := Lib.hid hbwi; clear hbwi
            clear hall4 hown4
            go_wp2
            go_loopw [124] (fun z wr => ∃ k2 : Nat, k2 ≤ r'.out.length ∧ z = .int .i64 k2 ∧ Hid (Below wi.heap.size wi wr) ∧ wi.heap.size ≤ wr.heap.size ∧ Hid (shortL L = shortL (L.drop k2))) (fun z _ => r'.out.length - (intOf z).toNat)
            case atStart => exact ⟨0, Nat.zero_le _, rfl, Below.refl _ _, Nat.le_refl _, Hsl0⟩
            case round =>
              obtain ⟨k2, hk2, rfl, hbq, hzq, hsh⟩ := hrel
              obtain ⟨wq, rfl⟩ : ∃ wq : World, wq = wr := ⟨_, rfl⟩
              have hbwq : Below w.heap.size w wq := Hbwi.out.trans (hbq.out.mono (by omega))
              by_cases hlt2 : k2 < r'.out.length
              case pos =>
                have hLk : k2 < L.length := by have := HLl.out; omega
                have hslq : SlAt (pCelF 0) (fun x => w2.heap.size ≤ x ∧ x < wi.heap.size) wq Aq cq L := Hslz.out.keep fun x hx => hbq.out.block x hx.2
                obtain ⟨b3, o3, D3, d3, x3, hd3, hA3, hob3, u0, u1, u2, hps3, hf3, hxa3, hxl3⟩ := (slAt_celF hslq).getCel hLk
                subst hA3
                have hob3w : b3 < wq.heap.size := by omega
                have hk0 : (0 : Int) ≤ (k2 : Int) := Int.natCast_nonneg _
                have hk1 : (k2 : Int) < (r'.out.length : Int) := by omega
                have hbq2 : Below wi.heap.size wi (wq.alloc (.cells #[.string x3.path, .int .u8 x3.mod.name, .slice D3 x3.mod.args.length d3] 51)) := hbq.out.alloc (by omega) _
                have hbq3 : Below w.heap.size w (wq.alloc (.cells #[.string x3.path, .int .u8 x3.mod.name, .slice D3 x3.mod.args.length d3] 51)) := hbwq.alloc (by omega) _
                by_cases hl3 : 200 < x3.path.size
                · have hno : shortL L = false := by rw [hsh.out, hd3.out]; unfold shortL; rw [List.all_cons, decide_eq_false (by omega)]; rfl
                  have hf := Hlong.out hno
                  have Hno := Lib.hid hno; clear hno
                  have Hf := Lib.hid hf; clear hf
                  have Hbq3 := Lib.hid hbq3; clear hbq3
                  have Hslq := Lib.hid hslq; clear hslq
                  have Hd3 := Lib.hid hd3; clear hd3
                  have Hxa3 := Lib.hid hxa3; clear hxa3
                  have Hbq2 := Lib.hid hbq2; clear hbq2
                  go_wp2
                  go_ret2
                  exact celsPostF_none (Hres.out.trans Hf.out) Hbq3.out
                · have hn : shortL L = shortL (L.drop (k2 + 1)) := by rw [hsh.out, hd3.out]; unfold shortL; rw [List.all_cons, decide_eq_true (by omega)]; simp
                  have Hn := Lib.hid hn; clear hn
                  have Hbq3 := Lib.hid hbq3; clear hbq3
                  have Hbq2 := Lib.hid hbq2; clear hbq2
                  have Hslq := Lib.hid hslq; clear hslq
                  have Hd3 := Lib.hid hd3; clear hd3
                  have Hxa3 := Lib.hid hxa3; clear hxa3
                  go_wp2
                  go_roundw
                  case rel => exact ⟨k2 + 1, by omega, by go_num, Hbq2, by simp; omega, Hn⟩
                  case measure => simp [intOf]; omega
              case neg =>
                have hyes : shortL L = true := by rw [hsh.out, drop_end (by have := HLl.out; omega)]; rfl
                have hf := Hfine2.out hyes
                have hslq : SlAt (pCelF 0) (fun x => w.heap.size ≤ x ∧ x < wq.heap.size) wq Aq cq L := (Hslz.out.keep fun x hx => hbq.out.block x hx.2).wide fun x hx => by omega
                have Hf := Lib.hid hf; clear hf
                have Hslq := Lib.hid hslq; clear hslq
                have Hbwq := Lib.hid hbwq; clear hbwq
                have Hyes := Lib.hid hyes; clear hyes
                go_wp2
                go_ret2
                rw [Hres.out, Hf.out]
                refine ⟨Aq, cq, ?_, Hslq.out, Hbwq.out⟩
                show Ending.returned (.tuple #[.slice Aq r'.out.length cq, .int .i64 0]) = _
                rw [HLl.out]
          case pos =>
            obtain ⟨b8, o8, As, cs, sp, hds, hA8, hob8, s0, s1, hs8, hsa, hsl⟩ := (Hat.out.out.so.keep (w' := wi) fun x hx => hb4.out.block x (by have : x < w.heap.size := hx; omega)).getShp hlq
            subst hA8
            have hob8w : b8 < w.heap.size := hob8
            have hob8i : b8 < wi.heap.size := by omega
            have hsm := mem_of_drop hds.out
            have hl4 := Hs4.out sp hsm
            have hgetq : (madeL r' cl.mod)[q]? = some (outF cl.mod.args sp).1 := by unfold madeL; rw [List.getElem?_map, get_of_drop hds.out]; rfl
            have htk := sucL_take (p := cl.path) hgetq
            have hlxq : ((sucL cl.path (madeL r' cl.mod)).take q).length = q := by rw [List.length_take, sucL_len, madeL_len]; omega
            obtain ⟨wq0, hwq⟩ : ∃ wq, wq = (wi.alloc (.cells #[.int .u8 sp.name, .slice As sp.args.length cs] 72)).alloc (.cells #[.int .u8 sp.name, .slice none 0 0] 49) := ⟨_, rfl⟩
            have hbq0 : Below wi.heap.size wi wq0 := by rw [hwq]; exact ((Below.refl _ _).alloc (Nat.le_refl _) _).alloc (by simp) _
            have hzq0 : wi.heap.size + 2 ≤ wq0.heap.size := by rw [hwq]; simp
            have hbm0 : Blk wq0 (wi.heap.size + 1) 49 #[.int .u8 sp.name, .slice none 0 0] := by
              rw [hwq]
              have := Blk.new (wi.alloc (.cells #[.int .u8 sp.name, .slice As sp.args.length cs] 72)) 49 #[.int .u8 sp.name, .slice none 0 0]
              rwa [show (wi.alloc (.cells #[.int .u8 sp.name, .slice As sp.args.length cs] 72)).heap.size = wi.heap.size + 1 from by simp] at this
            have how0 : Own (pI .i64) 3 (wi.heap.size + 2) (fun _ => False) wq0 (.slice none 0 0) ((sp.args.take 0).map fun f => worthF f cl.mod.args) := Own.nil
            have hhs : okS cl.mod.args sp = (sp.args.drop 0).all fun f => argOk (worthF f cl.mod.args) := rfl
            have hq0 : (0 : Int) ≤ (q : Int) := Int.natCast_nonneg _
            have hq1 : (q : Int) < (r'.out.length : Int) := by omega
            have Hsm := Lib.hid hsm; clear hsm
            have Hbq0 := Lib.hid hbq0; clear hbq0
            have Hbm0 := Lib.hid hbm0; clear hbm0
            have How0 := Lib.hid how0; clear how0
            have Hds := Lib.hid hds; clear hds
            have Hhs := Lib.hid hhs; clear hhs
            have Htk := Lib.hid htk; clear htk
            have Hlxq := Lib.hid hlxq; clear hlxq
            have Hbwi := Lib.hid hbwi; clear hbwi
            have Hgetq := Lib.hid hgetq; clear hgetq
            go_wp2
            rw [← hwq]
            have Hwq := Lib.hid hwq; clear hwq
            clear s0 s1
            go_loopw [88] (fun z wr => ∃ (k3 : Nat) (Dv : Option Addr) (dv : Nat), k3 ≤ sp.args.length ∧ z = .int .i64 k3 ∧ Hid (Below wi.heap.size wi wr) ∧ wi.heap.size + 2 ≤ wr.heap.size ∧ Hid (Blk wr (wi.heap.size + 1) 49 #[.int .u8 sp.name, .slice Dv k3 dv]) ∧
              Hid (okS cl.mod.args sp = (sp.args.drop k3).all fun f => argOk (worthF f cl.mod.args)) ∧
              Hid (Own (pI .i64) 3 (wi.heap.size + 2) (fun _ => False) wr (.slice Dv k3 dv) ((sp.args.take k3).map fun f => worthF f cl.mod.args))) (fun z _ => sp.args.length - (intOf z).toNat)
            case atStart => exact ⟨0, none, 0, Nat.zero_le _, rfl, Hbq0, hzq0, Hbm0, Hhs, How0⟩
            case round =>
              obtain ⟨k3, Dv, dv, hk3m, rfl, hbq, hzq, hbm, hoks, how⟩ := hrel
              obtain ⟨wq, rfl⟩ : ∃ wq : World, wq = wr := ⟨_, rfl⟩
              have hbq2 : Below w2.heap.size w2 wq := hb4.out.trans (hbq.out.mono hsz4)
              have hbwq : Below w.heap.size w wq := Hbw2.out.trans (hbq2.mono (by omega))
              have m0 := hbm.out.cell 0
              have m1 := hbm.out.cell 1
              have hblq := Hbl2.out.same (hbq2.block _ (by omega))
              by_cases hlt3 : k3 < sp.args.length
              case neg =>
                obtain rfl : k3 = sp.args.length := by omega
                have how' := how.out
                rw [List.take_length] at how'
                have hok1 : okS cl.mod.args sp = true := by rw [hoks.out, List.drop_length]; rfl
                have hownv := how'
                obtain ⟨A3, c9, e3, hsl3⟩ := (how'.flat (pI_flat _) (G' := (wi.heap.size + 2 ≤ ·))).fresh
                rw [List.length_map] at e3
                injection e3 with e31 e32 e33
                subst e31 e33
                obtain ⟨it, hit⟩ : ∃ it, itoaB q = it := ⟨_, rfl⟩
                have his : it.size ≤ 21 := by rw [← hit]; exact itoaB_size (by omega)
                obtain ⟨mo, hmo⟩ : ∃ mo, (outF cl.mod.args sp).1 = mo := ⟨_, rfl⟩
                have hmn : mo.name = sp.name := by rw [← hmo]; rfl
                have hma : mo.args = sp.args.map fun f => worthF f cl.mod.args := by rw [← hmo]; rfl
                have hsub : subP cl.path q = cl.path ++ ⟨#[47]⟩ ++ it := by unfold subP slash; rw [hit]
                have hcall : Calls Tryd.prog 44 #[.int .i64 q] wq.drew fun e w' => e = .returned (.string it) ∧ Below wq.heap.size wq w' := by
                  refine (itoaC_calls q wq.drew (by omega) ((Ht.out.later hbwq Hg.out).later (below_drew (Below.refl _ _)) (Hg.out.later hbwq))).mono ?_
                  rintro e w' ⟨rfl, hb'⟩
                  exact ⟨by rw [hit], (below_drew (Below.refl _ _)).trans hb'⟩
                have howq : Own (pCelF 0) 51 w2.heap.size (w2.heap.size ≤ ·) wq (.slice Aq q cq) ((sucL cl.path (madeL r' cl.mod)).take q) := hown4.out.later hbq.out
                have step2 : ∀ wv : World, Below wq.heap.size wq wv →
                    Own (pCelF 0) 51 w2.heap.size (w2.heap.size ≤ ·) (wv.alloc (.cells #[.string (cl.path ++ ⟨#[47]⟩ ++ it), .int .u8 sp.name, .slice Dv sp.args.length dv] 51)) (.slice Aq q cq) ((sucL cl.path (madeL r' cl.mod)).take q) ∧
                    SlAt (pCelF 0) (fun x => (wi.heap.size + 2 ≤ x ∧ x < wq.heap.size) ∨ x = wv.heap.size) (wv.alloc (.cells #[.string (cl.path ++ ⟨#[47]⟩ ++ it), .int .u8 sp.name, .slice Dv sp.args.length dv] 51)) (some ⟨wv.heap.size, 0, none⟩) 1 [⟨subP cl.path q, mo⟩] := by
                  intro wv hv
                  have hzv := hv.size
                  refine ⟨(howq.later hv).alloc _, ?_⟩
                  refine sl_boxed (E := pCelF 0) (u := .agg #[.string (cl.path ++ ⟨#[47]⟩ ++ it), .int .u8 sp.name, .slice Dv sp.args.length dv]) (F := fun x => wi.heap.size + 2 ≤ x ∧ x < wq.heap.size) ⟨Dv, dv, ?_, ?_, ?_, ?_, ?_⟩ fun x hx => Nat.lt_of_lt_of_le hx.2 hzv
                  · show [_, _, _] = [_, _, _]
                    rw [hsub, hmn, hma, List.length_map]
                  · show (subP cl.path q).size ≤ maxLen
                    rw [subP_size, hit]
                    unfold maxLen
                    have := hp
                    omega
                  · show Fits .u8 mo.name
                    rw [hmn]; exact hs8
                  · show SlAt (pI .i64) _ _ _ _ mo.args
                    rw [hma]
                    exact hsl3.keep fun x hx => hv.block x hx.2
                  · intro _ b o hA
                    subst hA
                    exact ⟨Nat.zero_le _, unf_same (own_unf hownv) (hv.block b (hownv.lt b rfl).2)⟩
                have hFq : ∀ wv : World, Below wq.heap.size wq wv → ∀ x, ((wi.heap.size + 2 ≤ x ∧ x < wq.heap.size) ∨ x = wv.heap.size) → w2.heap.size ≤ x ∧ x < (wv.alloc (.cells #[.string (cl.path ++ ⟨#[47]⟩ ++ it), .int .u8 sp.name, .slice Dv sp.args.length dv] 51)).heap.size ∧ some x ≠ (Value.slice Aq q cq).ownBlock := fun wv hv x hx => by
                  have hz := hv.size
                  rcases hx with hx | rfl
                  · refine ⟨by omega, by simp; omega, fun he => ?_⟩
                    have := (hown4.out.lt x he.symm).2
                    omega
                  · refine ⟨by omega, by simp, fun he => ?_⟩
                    have := (hown4.out.lt _ he.symm).2
                    omega
                have hB : ∀ wv : World, Below wq.heap.size wq wv → w2.heap.size ≤ (wv.alloc (.cells #[.string (cl.path ++ ⟨#[47]⟩ ++ it), .int .u8 sp.name, .slice Dv sp.args.length dv] 51)).heap.size := fun wv hv => by
                  have hz := hv.size
                  simp; omega
                have hlk : ((sucL cl.path (madeL r' cl.mod)).take q ++ [(⟨subP cl.path q, mo⟩ : Cel)]).length = q + 1 := by rw [List.length_append, Hlxq.out]; rfl
                have hrk : Room (q + 1) := room_of (by omega)
                have htk2 : (sucL cl.path (madeL r' cl.mod)).take (q + 1) = (sucL cl.path (madeL r' cl.mod)).take q ++ [⟨subP cl.path q, mo⟩] := by rw [Htk.out, hmo]
                have kp1 : ∀ wv : World, Below wq.heap.size wq wv → wv.cell? ⟨wi.heap.size + 1, 0, none⟩ = some (.int .u8 sp.name) ∧ wv.cell? ⟨wi.heap.size + 1, 1, none⟩ = some (.slice Dv sp.args.length dv) ∧ wv.cell? ⟨w.heap.size, 0, none⟩ = some (.string cl.path) := fun wv hv =>
                  ⟨((hbm.out.same (hv.block _ hbm.out.lt)).cell 0).trans rfl, ((hbm.out.same (hv.block _ hbm.out.lt)).cell 1).trans rfl, ((hblq.same (hv.block _ hblq.lt)).cell 0).trans rfl⟩
                have kp2 : ∀ (wv wz : World) (ob : Obj) (v' : Value), Below wq.heap.size wq wv → Hid (Grew w2.heap.size (wv.alloc ob) wz (.slice Aq q cq) v') → wz.cell? ⟨wi.heap.size + 1, 0, none⟩ = some (.int .u8 sp.name) ∧ wz.cell? ⟨wi.heap.size + 1, 1, none⟩ = some (.slice Dv sp.args.length dv) ∧ wz.cell? ⟨w.heap.size, 0, none⟩ = some (.string cl.path) := fun wv wz ob v' hv hgz => by
                  have hz := hv.size
                  have hltm := hbm.out.lt
                  have hltc := hblq.lt
                  have e1 : wz.heap[wi.heap.size + 1]? = wq.heap[wi.heap.size + 1]? := ((hgz.out.oth _ (by simp; omega) fun he => by have := (hown4.out.lt _ he.symm).2; omega).trans (Below.heap_alloc _ _ _ (by omega))).trans (hv.block _ hltm)
                  have e2 : wz.heap[w.heap.size]? = wq.heap[w.heap.size]? := ((hgz.out.oth _ (by simp; omega) fun he => by have := (hown4.out.lt _ he.symm).1; omega).trans (Below.heap_alloc _ _ _ (by omega))).trans (hv.block _ hltc)
                  exact ⟨((hbm.out.same e1).cell 0).trans rfl, ((hbm.out.same e1).cell 1).trans rfl, ((hblq.same e2).cell 0).trans rfl⟩
                have hrest : ∀ (wv wz : World) (ob : Obj) (v' : Value), Below wq.heap.size wq wv → Hid (Grew w2.heap.size (wv.alloc ob) wz (.slice Aq q cq) v') → Below w2.heap.size w2 wz := fun wv wz ob v' hv hgz =>
                  ((hbq2.trans (hv.mono (by omega))).alloc (by have := hv.size; omega) _).trans hgz.out.bel
                have hq1' : ¬ (9223372036854775807 < cl.path.size + 1) := by omega
                have hq2' : ¬ (9223372036854775807 < cl.path.size + 1 + it.size) := by omega
                have hnext : madeOk r' cl.mod = (r'.out.drop (q + 1)).all (okS cl.mod.args) := by rw [hall4.out, Hds.out, List.all_cons, hok1]; rfl
                have y0 : wq.cell? ⟨w.heap.size, 0, none⟩ = some (.string cl.path) := (hblq.cell 0).trans rfl
                have m0' : wq.cell? ⟨wi.heap.size + 1, 0, none⟩ = some (.int .u8 sp.name) := (hbm.out.cell 0).trans rfl
                have m1' : wq.cell? ⟨wi.heap.size + 1, 1, none⟩ = some (.slice Dv sp.args.length dv) := (hbm.out.cell 1).trans rfl
                have Hcall := Lib.hid hcall; clear hcall
                have Step2 := Lib.hid step2; clear step2
                have HFq := Lib.hid hFq; clear hFq
                have HB := Lib.hid hB; clear hB
                have Hlk := Lib.hid hlk; clear hlk
                have Hrk := Lib.hid hrk; clear hrk
                have Htk2 := Lib.hid htk2; clear htk2
                have Kp1 := Lib.hid kp1; clear kp1
                have Kp2 := Lib.hid kp2; clear kp2
                have Hrest := Lib.hid hrest; clear hrest
                have Hnext := Lib.hid hnext; clear hnext
                have Hok1 := Lib.hid hok1; clear hok1
                have Hsub := Lib.hid hsub; clear hsub
                have Hmn := Lib.hid hmn; clear hmn
                have Hma := Lib.hid hma; clear hma
                have Hit := Lib.hid hit; clear hit
                have Hmo := Lib.hid hmo; clear hmo
                have Howq := Lib.hid howq; clear howq
                have Hsl3 := Lib.hid hsl3; clear hsl3
                have Hblq := Lib.hid hblq; clear hblq
                have Hbq2 := Lib.hid hbq2; clear hbq2
                have Hbwq := Lib.hid hbwq; clear hbwq
                clear how' hownv m0 m1
                go_upto_region 27 with fail
                go_region_held3 (fun w' => w'.cell? ⟨wi.heap.size + 1, 0, none⟩ = some (.int .u8 sp.name) ∧ w'.cell? ⟨wi.heap.size + 1, 1, none⟩ = some (.slice Dv sp.args.length dv) ∧ w'.cell? ⟨w.heap.size, 0, none⟩ = some (.string cl.path))
                  (first | go_keep | exact Kp1.out _ hbv | exact Kp2.out _ _ _ _ hbv hgz)
                  (first
                    | (go_at_call 44; with_reducible refine Hcall.out.mono ?_; rintro e wv ⟨rfl, hbv⟩)
                    | (refine step_catG (E := pCelF 0) (xs := (sucL cl.path (madeL r' cl.mod)).take q) (base := w2.heap.size) (G := (w2.heap.size ≤ ·)) 26 51 (.agg #[.string ByteArray.empty, .int .u8 0, .slice none 0 0]) 48 (.tmp 110) (.tmp 119) rfl rfl Tryd.underlying26 info_cel rfl (by decide) rfl (Step2.out _ hbv).1 _ 1 [⟨subP cl.path q, mo⟩] rfl _ (Step2.out _ hbv).2 (HFq.out _ hbv) (q + 1) Hlk.out Hrk.out (by decide) (HB.out _ hbv) ?_; intro Az cz wz hoz hgz))
                all_goals
                  have hbz := Hrest.out _ _ _ _ hbv hgz
                  have hzz := hbz.size
                  have Hbz := Lib.hid hbz; clear hbz
                  clear Step2 Kp1 Kp2 hbv hgz HB HFq Hrest
                  go_wp2
                  go_roundw
                  case rel =>
                    refine ⟨q + 1, Az, cz, hlq, by go_num, rfl, Hbz, hzz, Hnext, ?_⟩
                    unfold Hid; rw [Htk2.out]; exact hoz.out
                  case measure => simp [intOf]; omega
              case pos =>
                obtain ⟨b6, o6, A6, c6, f, hdf, hAf, hob6, f0, f1, hfc6, hfa, hfl⟩ := (hsa.out.keep (w' := wq) fun x hx => hbq.out.block x (by have : x < w.heap.size := hx; omega)).getFrm hlt3
                subst hAf
                have hob6w : b6 < w.heap.size := hob6
                have hob6q : b6 < wq.heap.size := by omega
                have hok := Hsum.out sp Hsm.out f (mem_of_drop hdf.out)
                have hvf : valueF f cl.mod.args = if worthF f cl.mod.args < -1000000000 ∨ 1000000000 < worthF f cl.mod.args then (0, 16) else (worthF f cl.mod.args, 0) := valueF_ok hok (Hforms.out sp Hsm.out f (mem_of_drop hdf.out))
                have hbd := worth_bd hok
                obtain ⟨wx, hwx⟩ : ∃ wx, wx = wq.alloc (.cells #[.int .i64 f.const, .slice A6 f.coefs.length c6] 70) := ⟨_, rfl⟩
                have hbx : Below wq.heap.size wq wx := by rw [hwx]; exact (Below.refl _ _).alloc (Nat.le_refl _) _
                have hzx : wq.heap.size + 1 ≤ wx.heap.size := by rw [hwx]; simp
                have hbf : Blk wx wq.heap.size 70 #[.int .i64 f.const, .slice A6 f.coefs.length c6] := by rw [hwx]; exact Blk.new _ _ _
                have hbwx : Below w.heap.size w wx := hbwq.trans (hbx.mono (by omega))
                have haq : SlAt (pI .i64) (Old wx) wx D d cl.mod.args := H'.out.later hbwx
                have hcq : SlAt (pI .i64) (Old wx) wx A6 c6 f.coefs := (hfa.out.keep fun x hx => hbx.block x (by have : x < w.heap.size := hx; omega)).wide fun x hx => by have : x < w.heap.size := hx; show x < _; omega
                have v0 : wx.cell? ⟨wq.heap.size, 0, none⟩ = some (.int .i64 f.const) := (hbf.cell 0).trans rfl
                have v1 : wx.cell? ⟨wq.heap.size, 1, none⟩ = some (.slice A6 f.coefs.length c6) := (hbf.cell 1).trans rfl
                have u2 : wx.cell? ⟨w.heap.size, 2, none⟩ = some (.slice D cl.mod.args.length d) := ((hblq.same (hbx.block _ (by omega))).cell 2).trans rfl
                have hk30 : (0 : Int) ≤ (k3 : Int) := Int.natCast_nonneg _
                have hk31 : (k3 : Int) < (sp.args.length : Int) := by omega
                have hcall := value_calls A6 c6 f D d cl.mod.args wx hcq haq hfc6
                obtain ⟨v, hvv⟩ : ∃ v, worthF f cl.mod.args = v := ⟨_, rfl⟩
                rw [hvv] at hbd hvf
                have hstep : okS cl.mod.args sp = (argOk v && (sp.args.drop (k3 + 1)).all fun f => argOk (worthF f cl.mod.args)) := by rw [hoks.out, hdf.out, List.all_cons, hvv]
                have hvs : (sp.args.take (k3 + 1)).map (fun f => worthF f cl.mod.args) = (sp.args.take k3).map (fun f => worthF f cl.mod.args) ++ [v] := by
                  rw [take_of_drop hdf.out, List.map_append, List.map_singleton, hvv]
                have Hok := Lib.hid hok; clear hok
                have Hvv := Lib.hid hvv; clear hvv
                have Hstep := Lib.hid hstep; clear hstep
                have Hvs := Lib.hid hvs; clear hvs
                have Hbx := Lib.hid hbx; clear hbx
                have Hbf := Lib.hid hbf; clear hbf
                have Hbwx := Lib.hid hbwx; clear hbwx
                have Haq := Lib.hid haq; clear haq
                have Hcq := Lib.hid hcq; clear hcq
                have Hbq2 := Lib.hid hbq2; clear hbq2
                have Hblq := Lib.hid hblq; clear hblq
                have Hbwq := Lib.hid hbwq; clear hbwq
                have Hdf := Lib.hid hdf; clear hdf
                have Hfa := Lib.hid hfa; clear hfa
                have V0 := Lib.hid v0; clear v0
                have V1 := Lib.hid v1; clear v1
                have U2 := Lib.hid u2; clear u2
                clear m0 m1
                go_upto_region 22 with fail
                rw [← hwx]
                have Hwx := Lib.hid hwx; clear hwx
                have v0 := V0.out
                have v1 := V1.out
                have u2 := U2.out
                clear f0 f1
                by_cases hbad : v < -1000000000 ∨ 1000000000 < v
                · rw [if_pos hbad] at hvf
                  have hcc2 : Calls Tryd.prog 70 #[.agg #[.int .i64 f.const, .slice A6 f.coefs.length c6], .slice D cl.mod.args.length d] wx fun e w' => e = .returned (.tuple #[.int .i64 0, .int .i64 16]) ∧ Below wx.heap.size wx w' := by
                    refine hcall.mono ?_
                    rintro e w' ⟨rfl, hb⟩
                    rw [hvf]
                    exact ⟨rfl, hb⟩
                  have hno : madeOk r' cl.mod = false := by rw [hall4.out, Hds.out, List.all_cons, Hstep.out, argOk_no hbad]; rfl
                  have hst := sucR_not hno
                  have Hcc2 := Lib.hid hcc2; clear hcc2
                  have Hst := Lib.hid hst; clear hst
                  have Hno := Lib.hid hno; clear hno
                  clear hvf hbad hcall
                  go_wp2_with (go_at_call 70; refine Hcc2.out.mono ?_; rintro e w5 ⟨rfl, hb5⟩)
                  go_ret2
                  exact celsPostF_none (Hres.out.trans Hst.out) (Hbwx.out.trans (hb5.mono (by omega)))
                · rw [if_neg hbad] at hvf
                  have hcc2 : Calls Tryd.prog 70 #[.agg #[.int .i64 f.const, .slice A6 f.coefs.length c6], .slice D cl.mod.args.length d] wx fun e w' => e = .returned (.tuple #[.int .i64 v, .int .i64 0]) ∧ Below wx.heap.size wx w' := by
                    refine hcall.mono ?_
                    rintro e w' ⟨rfl, hb⟩
                    rw [hvf]
                    exact ⟨rfl, hb⟩
                  have hoky := argOk_yes (x := v) (by omega) (by omega)
                  have hv64 : -1000000000 ≤ v ∧ v ≤ 1000000000 := by omega
                  have Hcc2 := Lib.hid hcc2; clear hcc2
                  have Hoky := Lib.hid hoky; clear hoky
                  clear hvf hbad hcall
                  go_upto_region 25 with (go_at_call 70; refine Hcc2.out.mono ?_; rintro e w5 ⟨rfl, hb5⟩)
                  have hz5 := hb5.size
                  have hbxr : Below wq.heap.size wq w5 := Hbx.out.trans (hb5.mono (by omega))
                  have hbp5 : Below wi.heap.size wi w5 := hbq.out.trans (hbxr.mono (by omega))
                  have hbm5 := hbm.out.same (hbxr.block _ (by omega))
                  have how5 := how.out.later hbxr
                  have hln5 : ((sp.args.take k3).map fun f => worthF f cl.mod.args).length + 1 = k3 + 1 := by rw [List.length_map, List.length_take]; omega
                  have hrm5 : Room ((sp.args.take k3).map fun f => worthF f cl.mod.args).length := room_of (by rw [List.length_map, List.length_take]; omega)
                  have hba5 : wi.heap.size + 2 ≤ w5.heap.size := by omega
                  have hlt5 : wi.heap.size + 1 < w5.heap.size := by omega
                  have hne5 : some (wi.heap.size + 1) ≠ (Value.slice Dv k3 dv).ownBlock := fun he => by have := how.out.lt _ he.symm; omega
                  have hRv : (pI .i64).R (fun _ => False) w5 (Value.int .i64 v).cells.toList v := ⟨rfl, fits_i64 (by omega)⟩
                  have m1 : w5.cell? ⟨wi.heap.size + 1, 1, none⟩ = some (.slice Dv k3 dv) := (hbm5.cell 1).trans rfl
                  have Hbp5 := Lib.hid hbp5; clear hbp5
                  have Hbm5 := Lib.hid hbm5; clear hbm5
                  have How5 := Lib.hid how5; clear how5
                  have Hln5 := Lib.hid hln5; clear hln5
                  have Hrm5 := Lib.hid hrm5; clear hrm5
                  have Hne5 := Lib.hid hne5; clear hne5
                  have HRv := Lib.hid hRv; clear hRv
                  have Hbxr := Lib.hid hbxr; clear hbxr
                  clear v0 v1 u2 hb5
                  go_wp2_with ((with_reducible show wpList _ _ _ (Oper.mk (some 106) _ _ _ _ _ :: _) _ _); refine wpList_pushG (E := pI .i64) (xs := (sp.args.take k3).map fun f => worthF f cl.mod.args) (v := .slice Dv k3 dv) (base := wi.heap.size + 2) (G := fun _ => False) 47 3 (.int .i64 0) 8 106 (.tmp 104) (.tmp 105) rfl rfl rfl rfl rfl Tryd.underlying47 (by kernel_rfl) rfl (by decide) (fun _ => rfl) (fun _ => rfl) How5.out (.int .i64 v) rfl v (fun _ => False) HRv.out (fun _ h => h.elim) (k3 + 1) Hln5.out Hrm5.out ⟨by decide, by decide⟩ hba5 ?_; intro A10 c10 w7 hown7 hg7; have hbm7 := Hbm5.out.same (hg7.out.oth _ hlt5 Hne5.out); have x7 := hbm7.cell 1; have f7 := hbm7.free 1; have Hbm7 := Lib.hid hbm7; clear hbm7)
                  go_roundw
                  case rel =>
                    have hz7 := hg7.out.bel.size
                    have hs7 : (w7.setCell ⟨wi.heap.size + 1, 1, none⟩ (.slice A10 (k3 + 1) c10)).heap.size = w7.heap.size := by simp [World.setCell]
                    refine ⟨k3 + 1, A10, c10, hlt3, by go_num, ?_, by omega, ?_, ?_, ?_⟩
                    · exact (Hbp5.out.trans (hg7.out.bel.mono (by omega))).setCell (by show wi.heap.size ≤ wi.heap.size + 1; omega) _
                    · have := Hbm7.out.set 1 (.slice A10 (k3 + 1) c10)
                      unfold Hid
                      simpa using this
                    · unfold Hid; rw [Hstep.out, Hoky.out]; rfl
                    · unfold Hid
                      rw [Hvs.out]
                      refine hown7.out.keepG (fun x hx hG => Below.heap_setCell _ _ _ _ ?_) (by omega)
                      rcases hG with hG | hG
                      · exact hG.elim
                      · have := hown7.out.lt x hG
                        show x ≠ wi.heap.size + 1
                        omega
                  case measure => simp [intOf]; omega
end Go.Proofs.YtlipmagkplbkdaaDoor

/-! Ob9 -/
namespace Go.Proofs.YtlipmagkplbkdaaDoor
open Go.RowKit Go.Sort Go.BigFrame
set_option linter.unusedVariables false
set_option linter.unusedSimpArgs false
def ManyPostF (num : Int) (r : List Cel × Int) (w : World) (e : Ending) (w' : World) : Prop := ∃ B c, e = .returned (.agg #[.int .i64 num, .slice B r.1.length c, .int .i64 r.2]) ∧ SlAt (pCelF 0) (Old w') w' B c r.1 ∧ Below w.heap.size w w'
set_option maxRecDepth 100000 in
set_option maxHeartbeats 8000000 in
theorem many9F_calls (A : Option Addr) (c : Nat) (rs : List Rul) (s : Int) (B : Option Addr) (cb : Nat) (l : List Cel) (num : Int) (w : World) (h : SlAt pRul (Old w) w A c rs) (h' : SlAt pCel (Old w) w B cb l) (hs : Fits .i64 s) (hnum : Fits .i64 num) (hv : RVal rs)
    (hl : ∀ x ∈ l, fineF x.mod = true ∧ x.path.size ≤ 300) (hl3 : l.length ≤ 3000) (ht : TabAt w) (hg : GAt w) :
    Calls Tryd.prog 62 #[.slice A rs.length c, .int .i64 s, .slice B l.length cb, .int .i64 num] w (ManyPostF num (manyR9 rs s l) w) := by
  have hmx := h.lenle
  have hmx' := h'.lenle
  obtain ⟨W0, hW0⟩ : ∃ W0, W0 = (w.alloc (.cells #[.int .i64 0, .slice none 0 0, .int .i64 0] 93)).alloc (.cells #[.int .i64 num, .slice none 0 0, .int .i64 0] 93) := ⟨_, rfl⟩
  have hb0 : Below w.heap.size w W0 := by rw [hW0]; exact ((Below.refl _ _).alloc (Nat.le_refl _) _).alloc (by simp) _
  have hz0 : w.heap.size + 2 ≤ W0.heap.size := by rw [hW0]; simp
  have hb80 : Blk W0 w.heap.size 93 #[.int .i64 0, .slice none 0 0, .int .i64 0] := by rw [hW0]; exact (Blk.new _ _ _).alloc _
  have hb90 : Blk W0 (w.heap.size + 1) 93 #[.int .i64 num, .slice none 0 0, .int .i64 0] := by
    rw [hW0]
    have := Blk.new (w.alloc (.cells #[.int .i64 0, .slice none 0 0, .int .i64 0] 93)) 93 #[.int .i64 num, .slice none 0 0, .int .i64 0]
    rwa [show (w.alloc (.cells #[.int .i64 0, .slice none 0 0, .int .i64 0] 93)).heap.size = w.heap.size + 1 from by simp] at this
  have how0 : Own (pCelF 0) 51 (w.heap.size + 2) (w.heap.size + 2 ≤ ·) W0 (.slice none 0 0) (allL rs s (l.take 0)) := Own.nil
  have hn0 : (allL rs s (l.take 0)).length = 0 := rfl
  have he0 : errL rs s (l.take 0) = 0 := rfl
  have H := Lib.hid h; clear h
  have H' := Lib.hid h'; clear h'
  have Hv := Lib.hid hv; clear hv
  have Hb0 := Lib.hid hb0; clear hb0
  have Hb80 := Lib.hid hb80; clear hb80
  have Hb90 := Lib.hid hb90; clear hb90
  have Hs := Lib.hid hs; clear hs
  have Ht := Lib.hid ht; clear ht
  have Hg := Lib.hid hg; clear hg
  have How0 := Lib.hid how0; clear how0
  have Hn0 := Lib.hid hn0; clear hn0
  have He0 := Lib.hid he0; clear he0
  have Hl := Lib.hid hl; clear hl
  go_enter Tryd.func62, Tryd.ntmps62
  go_wp2
  rw [← hW0]
  have HW0 := Lib.hid hW0; clear hW0
  go_loopw [18] (fun i wr => ∃ (k n : Nat) (Ao : Option Addr) (co : Nat), k ≤ l.length ∧ i = .int .i64 k ∧ Hid ((allL rs s (l.take k)).length = n) ∧ Hid (errL rs s (l.take k) = 0) ∧ Hid (Below w.heap.size w wr) ∧ w.heap.size + 2 ≤ wr.heap.size ∧ Hid (Blk wr w.heap.size 93 #[.int .i64 0, .slice none 0 0, .int .i64 0]) ∧
    Hid (Blk wr (w.heap.size + 1) 93 #[.int .i64 num, .slice Ao n co, .int .i64 0]) ∧ Hid (Own (pCelF 0) 51 (w.heap.size + 2) (w.heap.size + 2 ≤ ·) wr (.slice Ao n co) (allL rs s (l.take k)))) (fun i _ => l.length - (intOf i).toNat)
  case atStart => exact ⟨0, 0, none, 0, Nat.zero_le _, rfl, Hn0, He0, Hb0, hz0, Hb80, Hb90, How0⟩
  case round =>
    obtain ⟨k, n, Ao, co, hk, rfl, hn, he, hb, hsz, hb8, hb9, how⟩ := hrel
    obtain ⟨wo, rfl⟩ : ∃ wo : World, wo = wr := ⟨_, rfl⟩
    by_cases hlt : k < l.length
    case neg =>
      obtain rfl : k = l.length := by omega
      have hn' := hn.out
      have he' := he.out
      have how' := how.out
      rw [List.take_length] at hn' he' how'
      have hr := manyR9_ok he'
      have y0 : wo.cell? ⟨w.heap.size + 1, 0, none⟩ = some (.int .i64 num) := (hb9.out.cell 0).trans rfl
      have y1 : wo.cell? ⟨w.heap.size + 1, 1, none⟩ = some (.slice Ao n co) := (hb9.out.cell 1).trans rfl
      have y2 : wo.cell? ⟨w.heap.size + 1, 2, none⟩ = some (.int .i64 0) := (hb9.out.cell 2).trans rfl
      have hbz : Below w.heap.size w (wo.setRow w.heap.size #[.int .i64 num, .slice Ao n co, .int .i64 0]) := row_below hb.out (Nat.le_refl _) _
      have hsl : SlAt (pCelF 0) (Old (wo.setRow w.heap.size #[.int .i64 num, .slice Ao n co, .int .i64 0])) (wo.setRow w.heap.size #[.int .i64 num, .slice Ao n co, .int .i64 0]) Ao co (allL rs s l) := by
        obtain ⟨A2, c2, e2, hs2⟩ := how'.fresh
        injection e2 with e21 e22 e23
        subst e21 e23
        exact (hs2.keep fun q hq => setRow_other wo _ q _ (by omega)).wide fun q hq => by show q < _; simpa using hq.2
      have hb8r : Blk (wo.setRow w.heap.size #[.int .i64 num, .slice Ao n co, .int .i64 0]) w.heap.size 93 #[.int .i64 num, .slice Ao n co, .int .i64 0] := blk_row hb8.out
      have Hn' := Lib.hid hn'; clear hn'
      have He' := Lib.hid he'; clear he'
      have How' := Lib.hid how'; clear how'
      have Hr := Lib.hid hr; clear hr
      have Hbz := Lib.hid hbz; clear hbz
      have Hsl := Lib.hid hsl; clear hsl
      have Hb8r := Lib.hid hb8r; clear hb8r
      go_wp2_with ((with_reducible show wpList _ _ _ (Oper.mk none (.store _ _ _) _ _ _ _ :: _) _ _); refine wpList_storeAtH 93 (.tmp 8) (.tmp 40) 0 #[.int .i64 0, .slice none 0 0, .int .i64 0] #[.int .i64 num, .slice Ao n co, .int .i64 0] #[.int .i64 num, .slice Ao n co, .int .i64 0] rfl rfl rfl rfl hb8.out (by kernel_rfl) (Nat.le_refl 3) (by simp [Value.oneCell']) rfl rfl ?_)
      (try simp only [Exit.inBlock, Exit.then])
      refine bodyPost_ret (results_row1 rfl _ _ _ _ _ _ rfl Hb8r.out Tryd.underlying93 (by kernel_rfl)) rfl ?_
      refine ⟨Ao, co, ?_, ?_, Hbz.out⟩
      · rw [Hr.out]; show Ending.returned _ = Ending.returned (.agg #[_, .slice Ao (allL rs s l).length co, _]); rw [Hn'.out]
      · rw [Hr.out]; exact Hsl.out
    case pos =>
      obtain ⟨b, o, D, d, x, hd, rfl, hob, q0, q1, q2, hps, hf8, hxa, hxl⟩ := (H'.out.below hb.out).getCel hlt
      have hxk : l[k]? = some x := get_of_drop hd.out
      obtain ⟨hxf, hxp⟩ := Hl.out x (mem_of_drop hd.out)
      have hnl : n ≤ k * 20 := by have h1 := allL_len Hv.out s (l.take k); rw [hn.out, List.length_take] at h1; omega
      have hbw1 : Below w.heap.size w (wo.alloc (.cells #[.string x.path, .int .u8 x.mod.name, .slice D x.mod.args.length d] 51)) := hb.out.alloc (by omega) _
      obtain ⟨W1, hW1⟩ : ∃ W1, W1 = wo.alloc (.cells #[.string x.path, .int .u8 x.mod.name, .slice D x.mod.args.length d] 51) := ⟨_, rfl⟩
      rw [← hW1] at hbw1
      have hb1 : Below wo.heap.size wo W1 := by rw [hW1]; exact (Below.refl _ _).alloc (Nat.le_refl _) _
      have hz1 : wo.heap.size + 1 ≤ W1.heap.size := by rw [hW1]; simp
      have hbl1 : Blk W1 wo.heap.size 51 #[.string x.path, .int .u8 x.mod.name, .slice D x.mod.args.length d] := by rw [hW1]; exact Blk.new _ _ _
      have z0 : W1.cell? ⟨wo.heap.size, 0, none⟩ = some (.string x.path) := (hbl1.cell 0).trans rfl
      have z1 : W1.cell? ⟨wo.heap.size, 1, none⟩ = some (.int .u8 x.mod.name) := (hbl1.cell 1).trans rfl
      have z2 : W1.cell? ⟨wo.heap.size, 2, none⟩ = some (.slice D x.mod.args.length d) := (hbl1.cell 2).trans rfl
      have hcall := successors9F_calls A c rs s x D d W1 (H.out.later hbw1) ((hxa.out.keep fun q hq => hb1.block q (by have : q < w.heap.size := hq; omega)).wide fun q hq => by have : q < w.heap.size := hq; show q < _; omega) hf8 Hs.out Hv.out hxf hxp (Ht.out.later hbw1 Hg.out) (Hg.out.later hbw1)
      have hlen20 := succR_len Hv.out s x
      have hes := errL_snoc hxk he.out
      have has := allL_snoc (rs := rs) (s := s) hxk
      have hk0 : (0 : Int) ≤ (k : Int) := Int.natCast_nonneg _
      have hk1 : (k : Int) < (l.length : Int) := by omega
      obtain ⟨⟨sl, sv⟩, hsr⟩ : ∃ p, succR rs s x = p := ⟨_, rfl⟩
      rw [hsr] at hcall hlen20 hes has
      simp only at hlen20 hes has
      unfold CelsPostF at hcall
      by_cases h0 : sv = 0
      case neg =>
        have e0 : (sv != 0) = true := by simp [h0]
        have her : errL rs s l = sv := by rw [← hes]; exact errL_take (by rw [hes]; exact h0)
        have hr : manyR9 rs s l = ([], sv) := by rw [manyR9_err (by rw [her]; exact h0), her]
        have Hcall := Lib.hid hcall; clear hcall
        have Hes := Lib.hid hes; clear hes
        have Has := Lib.hid has; clear has
        have Her := Lib.hid her; clear her
        have Hr := Lib.hid hr; clear hr
        have Hd := Lib.hid hd; clear hd
        have Hxa := Lib.hid hxa; clear hxa
        have Hxk := Lib.hid hxk; clear hxk
        have Hb1 := Lib.hid hb1; clear hb1
        have Hbl1 := Lib.hid hbl1; clear hbl1
        have Hbw1 := Lib.hid hbw1; clear hbw1
        have H0 := Lib.hid h0; clear h0
        have Z0 := Lib.hid z0; clear z0
        have Z1 := Lib.hid z1; clear z1
        have Z2 := Lib.hid z2; clear z2
        go_upto_region 5 with fail
        rw [← hW1]
        have HW1 := Lib.hid hW1; clear hW1
        have z0 := Z0.out
        have z1 := Z1.out
        have z2 := Z2.out
        clear q0 q1 q2
        go_upto_region 7 with (go_at_call 53; refine Hcall.out.mono ?_; rintro e w2 ⟨A2, c2, rfl, hs2, hb2⟩)
        have hz2 := hb2.size
        have hbw2 : Below w.heap.size w w2 := Hbw1.out.trans (hb2.mono (by omega))
        have hb82 : Blk w2 w.heap.size 93 #[.int .i64 0, .slice none 0 0, .int .i64 0] := (hb8.out.same (Hb1.out.block _ (by omega))).same (hb2.block _ (by omega))
        have hbz : Below w.heap.size w (w2.setRow w.heap.size #[.int .i64 num, .slice none 0 0, .int .i64 sv]) := row_below hbw2 (Nat.le_refl _) _
        have hb8r : Blk (w2.setRow w.heap.size #[.int .i64 num, .slice none 0 0, .int .i64 sv]) w.heap.size 93 #[.int .i64 num, .slice none 0 0, .int .i64 sv] := blk_row hb82
        have Hbz := Lib.hid hbz; clear hbz
        have Hb8r := Lib.hid hb8r; clear hb8r
        have Hb82 := Lib.hid hb82; clear hb82
        have Hbw2 := Lib.hid hbw2; clear hbw2
        have Hs2 := Lib.hid hs2; clear hs2
        have Hb2 := Lib.hid hb2; clear hb2
        clear z0 z1 z2
        go_wp2_with ((with_reducible show wpList _ _ _ (Oper.mk none (.store _ _ _) _ _ _ _ :: _) _ _); refine wpList_storeAtH 93 (.tmp 8) (.tmp 33) 0 #[.int .i64 0, .slice none 0 0, .int .i64 0] #[.int .i64 num, .slice none 0 0, .int .i64 sv] #[.int .i64 num, .slice none 0 0, .int .i64 sv] rfl rfl rfl rfl Hb82.out (by kernel_rfl) (Nat.le_refl 3) (by simp [Value.oneCell']) rfl rfl ?_)
        (try simp only [Exit.inBlock, Exit.then])
        refine bodyPost_ret (results_row1 rfl _ _ _ _ _ _ rfl Hb8r.out Tryd.underlying93 (by kernel_rfl)) rfl ?_
        refine ⟨none, 0, by rw [Hr.out]; rfl, ?_, Hbz.out⟩
        rw [Hr.out]
        exact ⟨Nat.le_refl _, Nat.zero_le _, (fun _ => rfl), fun i x hx => by simp at hx⟩
      case pos =>
        subst h0
        have Hcall := Lib.hid hcall; clear hcall
        have Hes := Lib.hid hes; clear hes
        have Has := Lib.hid has; clear has
        have Hd := Lib.hid hd; clear hd
        have Hxa := Lib.hid hxa; clear hxa
        have Hxk := Lib.hid hxk; clear hxk
        have Hb1 := Lib.hid hb1; clear hb1
        have Hbl1 := Lib.hid hbl1; clear hbl1
        have Hbw1 := Lib.hid hbw1; clear hbw1
        have Z0 := Lib.hid z0; clear z0
        have Z1 := Lib.hid z1; clear z1
        have Z2 := Lib.hid z2; clear z2
        go_upto_region 5 with fail
        rw [← hW1]
        have HW1 := Lib.hid hW1; clear hW1
        have z0 := Z0.out
        have z1 := Z1.out
        have z2 := Z2.out
        clear q0 q1 q2
        go_upto_region 8 with (go_at_call 53; refine Hcall.out.mono ?_; rintro e w2 ⟨A2, c2, rfl, hs2, hb2⟩)
        have hs2 : SlAt (pCelF 0) (fun q => W1.heap.size ≤ q ∧ q < w2.heap.size) w2 A2 c2 sl := hs2
        have hz2 := hb2.size
        have hbo2 : Below wo.heap.size wo w2 := Hb1.out.trans (hb2.mono (by omega))
        have hbw2 : Below w.heap.size w w2 := hb.out.trans (hbo2.mono (by omega))
        have hb82 := hb8.out.same (hbo2.block _ (by omega))
        have hb92 := hb9.out.same (hbo2.block _ (by omega))
        have how2 := how.out.later hbo2
        have hF : ∀ q, (W1.heap.size ≤ q ∧ q < w2.heap.size) → w.heap.size + 2 ≤ q ∧ q < w2.heap.size ∧ some q ≠ (Value.slice Ao n co).ownBlock := fun q hq => ⟨by omega, hq.2, fun he => by have := (how.out.lt q he.symm).2; omega⟩
        have hlk : (allL rs s (l.take k) ++ sl).length = n + sl.length := by rw [List.length_append, hn.out]
        have hrk : Room (n + sl.length) := room_of (by omega)
        have hba : w.heap.size + 2 ≤ w2.heap.size := by omega
        have hne8 : some w.heap.size ≠ (Value.slice Ao n co).ownBlock := fun he => by have := how.out.lt _ he.symm; omega
        have hne9 : some (w.heap.size + 1) ≠ (Value.slice Ao n co).ownBlock := fun he => by have := how.out.lt _ he.symm; omega
        have hlt8 : w.heap.size < w2.heap.size := by omega
        have hlt9 : w.heap.size + 1 < w2.heap.size := by omega
        have m1 : w2.cell? ⟨w.heap.size + 1, 1, none⟩ = some (.slice Ao n co) := (hb92.cell 1).trans rfl
        have Hs2 := Lib.hid hs2; clear hs2
        have Hb2 := Lib.hid hb2; clear hb2
        have Hbo2 := Lib.hid hbo2; clear hbo2
        have Hbw2 := Lib.hid hbw2; clear hbw2
        have Hb82 := Lib.hid hb82; clear hb82
        have Hb92 := Lib.hid hb92; clear hb92
        have How2 := Lib.hid how2; clear how2
        have HF := Lib.hid hF; clear hF
        have Hlk := Lib.hid hlk; clear hlk
        have Hrk := Lib.hid hrk; clear hrk
        have Hne8 := Lib.hid hne8; clear hne8
        have Hne9 := Lib.hid hne9; clear hne9
        clear z0 z1 z2
        go_wp2_with (at_builtin; refine wpList_catG (E := pCelF 0) (xs := allL rs s (l.take k)) (v := .slice Ao n co) (base := w.heap.size + 2) (G := (w.heap.size + 2 ≤ ·)) 26 51 (.agg #[.string ByteArray.empty, .int .u8 0, .slice none 0 0]) 48 (.tmp 35) (.tmp 36) rfl rfl Tryd.underlying26 info_cel rfl (by decide) rfl How2.out A2 c2 sl rfl _ Hs2.out HF.out (n + sl.length) Hlk.out Hrk.out (by decide) hba ?_; intro A6 c6 w6 hown6 hg6; have hb96 := Hb92.out.same (hg6.out.oth _ hlt9 Hne9.out); have x6 := hb96.cell 1; have f6 := hb96.free 1; have Hb96 := Lib.hid hb96; clear hb96)
        go_roundw
        case rel =>
          have hz6 := hg6.out.bel.size
          have hs6 : (w6.setCell ⟨w.heap.size + 1, 1, none⟩ (.slice A6 (n + sl.length) c6)).heap.size = w6.heap.size := by simp [World.setCell]
          refine ⟨k + 1, n + sl.length, A6, c6, hlt, by go_num, ?_, Hes, ?_, by omega, ?_, ?_, ?_⟩
          · unfold Hid; rw [Has.out]; exact Hlk.out
          · exact (Hbw2.out.trans (hg6.out.bel.mono (by omega))).setCell (by show w.heap.size ≤ w.heap.size + 1; omega) _
          · exact (Hb82.out.same (hg6.out.oth _ hlt8 Hne8.out)).same (Below.heap_setCell _ _ _ _ (by show w.heap.size ≠ w.heap.size + 1; omega))
          · have := Hb96.out.set 1 (.slice A6 (n + sl.length) c6)
            unfold Hid
            simpa using this
          · unfold Hid
            rw [Has.out]
            refine hown6.out.keepG (fun x hx hG => Below.heap_setCell _ _ _ _ ?_) (by omega)
            rcases hG with hG | hG
            · show x ≠ w.heap.size + 1; omega
            · have := hown6.out.lt x hG
              show x ≠ w.heap.size + 1
              omega
        case measure => simp [intOf]; omega
end Go.Proofs.YtlipmagkplbkdaaDoor

/-! Oe9 -/
namespace Go.Proofs.YtlipmagkplbkdaaDoor
open Go.RowKit Go.Sort Go.BigFrame
set_option linter.unusedVariables false
set_option linter.unusedSimpArgs false
set_option maxRecDepth 100000 in
set_option maxHeartbeats 4000000 in
theorem oneF_calls (A : Option Addr) (c : Nat) (rs : List Rul) (s : Int) (cl : Cel) (D : Option Addr) (d : Nat) (w : World) (h : SlAt pRul (Old w) w A c rs) (h' : SlAt (pI .i64) (Old w) w D d cl.mod.args) (hf8 : Fits .u8 cl.mod.name) (hs : Fits .i64 s) (hsm : Small rs) (hp : cl.path.size ≤ 300) (ht : TabAt w) (hg : GAt w) :
    Calls Tryd.prog 27 #[.slice A rs.length c, .int .i64 s, .agg #[.string cl.path, .int .u8 cl.mod.name, .slice D cl.mod.args.length d]] w (CelsPost (oneR rs s cl) w) := by
  have hmx := h.lenle
  have hmx' := h'.lenle
  obtain ⟨W0, hW0⟩ : ∃ W0, W0 = w.alloc (.cells #[.string cl.path, .int .u8 cl.mod.name, .slice D cl.mod.args.length d] 51) := ⟨_, rfl⟩
  have hb0 : Below w.heap.size w W0 := by rw [hW0]; exact (Below.refl _ _).alloc (Nat.le_refl _) _
  have hz0 : w.heap.size + 1 ≤ W0.heap.size := by rw [hW0]; simp
  have hbl0 : Blk W0 w.heap.size 51 #[.string cl.path, .int .u8 cl.mod.name, .slice D cl.mod.args.length d] := by rw [hW0]; exact Blk.new _ _ _
  have hck := checkC_calls A c rs W0 (h.later hb0) hsm
  unfold IntPost at hck
  by_cases hc : checkC rs = 0
  case neg =>
    have e0 : (checkC rs != 0) = true := by simp [hc]
    have hff : oneR rs s cl = ([], checkC rs) := by unfold oneR; rw [if_neg hc]
    generalize checkC rs = x at hck hff e0
    clear hc
    have H := Lib.hid h; clear h
    have H' := Lib.hid h'; clear h'
    have Hb0 := Lib.hid hb0; clear hb0
    have Hbl0 := Lib.hid hbl0; clear hbl0
    have Hck := Lib.hid hck; clear hck
    have Hff := Lib.hid hff; clear hff
    go_enter Tryd.func27, Tryd.ntmps27
    go_upto_region 1 with fail
    rw [← hW0]
    have HW0 := Lib.hid hW0; clear hW0
    go_wp2_with (go_at_call 21; refine Hck.out.mono ?_; rintro e w1 ⟨rfl, hb1⟩)
    go_ret2
    exact celsPost_none Hff.out (Hb0.out.trans (hb1.mono (by omega)))
  case pos =>
  rw [hc] at hck
  have hv := rval_of hc
  have H := Lib.hid h; clear h
  have H' := Lib.hid h'; clear h'
  have Hb0 := Lib.hid hb0; clear hb0
  have Hbl0 := Lib.hid hbl0; clear hbl0
  have Hck := Lib.hid hck; clear hck
  have Hv := Lib.hid hv; clear hv
  have Hc := Lib.hid hc; clear hc
  have Hs := Lib.hid hs; clear hs
  have Ht := Lib.hid ht; clear ht
  have Hg := Lib.hid hg; clear hg
  go_enter Tryd.func27, Tryd.ntmps27
  go_upto_region 1 with fail
  rw [← hW0]
  have HW0 := Lib.hid hW0; clear hW0
  go_upto_region 4 with (go_at_call 21; refine Hck.out.mono ?_; rintro e w1 ⟨rfl, hb1⟩)
  have hz1 := hb1.size
  have hbw1 : Below w.heap.size w w1 := Hb0.out.trans (hb1.mono (by omega))
  have hbl1 := Hbl0.out.same (hb1.block _ (by omega))
  have y1 : w1.cell? ⟨w.heap.size, 1, none⟩ = some (.int .u8 cl.mod.name) := (hbl1.cell 1).trans rfl
  have y2 : w1.cell? ⟨w.heap.size, 2, none⟩ = some (.slice D cl.mod.args.length d) := (hbl1.cell 2).trans rfl
  obtain ⟨W2, hW2⟩ : ∃ W2, W2 = w1.alloc (.cells #[.int .u8 cl.mod.name, .slice D cl.mod.args.length d] 49) := ⟨_, rfl⟩
  have hb2 : Below w1.heap.size w1 W2 := by rw [hW2]; exact (Below.refl _ _).alloc (Nat.le_refl _) _
  have hz2 : w1.heap.size + 1 ≤ W2.heap.size := by rw [hW2]; simp
  have hsb : SlAt pMod (Old W2) W2 (some ⟨w1.heap.size, 0, none⟩) 1 [cl.mod] := by
    rw [hW2]
    refine (sl_boxed (E := pMod) (F := Old w1) (u := .agg #[.int .u8 cl.mod.name, .slice D cl.mod.args.length d]) ⟨D, d, rfl, hf8, H'.out.later hbw1⟩ (fun q hq => hq)).wide ?_
    intro q hq
    rcases hq with hq | rfl
    · have : q < w1.heap.size := hq
      unfold Old; simp; omega
    · unfold Old; simp
  have hcw : Calls Tryd.prog 42 #[.slice (some ⟨w1.heap.size, 0, none⟩) 1 1] W2 fun e w' => e = .returned (.int .i64 (checkF [cl.mod])) ∧ Below W2.heap.size W2 w' := wordCheck_calls (some ⟨w1.heap.size, 0, none⟩) 1 [cl.mod] W2 hsb
  have hbw2 : Below w.heap.size w W2 := hbw1.trans (hb2.mono (by omega))
  have hbl2 := hbl1.same (hb2.block _ (by omega))
  have hcm := check_mod cl.mod
  obtain ⟨x, hx⟩ : ∃ x, checkF [cl.mod] = x := ⟨_, rfl⟩
  rw [hx] at hcw hcm
  have Hb1 := Lib.hid hb1; clear hb1
  have Hbw1 := Lib.hid hbw1; clear hbw1
  have Hbl1 := Lib.hid hbl1; clear hbl1
  have Hb2 := Lib.hid hb2; clear hb2
  have Hsb := Lib.hid hsb; clear hsb
  have Hcw := Lib.hid hcw; clear hcw
  have Hbw2 := Lib.hid hbw2; clear hbw2
  have Hbl2 := Lib.hid hbl2; clear hbl2
  have Hcm := Lib.hid hcm; clear hcm
  have Hx := Lib.hid hx; clear hx
  go_upto_region 5 with (go_at_call 42; rw [← hW2]; refine Hcw.out.mono ?_; rintro e w3 ⟨rfl, hb3⟩)
  have hz3 := hb3.size
  have hbw3 : Below w.heap.size w w3 := Hbw2.out.trans (hb3.mono (by omega))
  have hbl3 := Hbl2.out.same (hb3.block _ (by omega))
  have y0 : w3.cell? ⟨w.heap.size, 0, none⟩ = some (.string cl.path) := (hbl3.cell 0).trans rfl
  have z1 : w3.cell? ⟨w.heap.size, 1, none⟩ = some (.int .u8 cl.mod.name) := (hbl3.cell 1).trans rfl
  have z2 : w3.cell? ⟨w.heap.size, 2, none⟩ = some (.slice D cl.mod.args.length d) := (hbl3.cell 2).trans rfl
  clear y1 y2 hW2
  have hcp := path_calls cl.path w3 (by omega)
  unfold BoolPost at hcp
  cases hpf : pathF cl.path
  case false =>
    rw [hpf] at hcp
    have hff : oneR rs s cl = ([], 8) := by unfold oneR; rw [if_pos Hc.out, hpf]; rfl
    have Hcp := Lib.hid hcp; clear hcp
    have Hff := Lib.hid hff; clear hff
    have Hbl3 := Lib.hid hbl3; clear hbl3
    have Hbw3 := Lib.hid hbw3; clear hbw3
    have Hb3 := Lib.hid hb3; clear hb3
    go_wp2_with (go_at_call 52; refine Hcp.out.mono ?_; rintro e w4 ⟨rfl, hb4⟩)
    go_ret2
    exact celsPost_none Hff.out (Hbw3.out.trans (hb4.mono (by omega)))
  case true =>
    rw [hpf] at hcp
    have hsu : ∀ w4, Below w3.heap.size w3 w4 → fineF cl.mod = true → Calls Tryd.prog 53 #[.slice A rs.length c, .int .i64 s, .agg #[.string cl.path, .int .u8 cl.mod.name, .slice D cl.mod.args.length d]] w4 (CelsPost (succR rs s cl) w4) := fun w4 hb4 hfi =>
      have hbw4 := hbw3.trans (hb4.mono (by omega))
      (successors9F_calls A c rs s cl D d w4 (H.out.later hbw4) (H'.out.later hbw4) hf8 Hs.out Hv.out hfi hp (Ht.out.later hbw4 Hg.out) (Hg.out.later hbw4)).mono fun e w' ⟨A, c, he, hs, hb⟩ => ⟨A, c, he, slAt_celF hs, hb⟩
    have hcell : ∀ w4, Below w3.heap.size w3 w4 → w4.cell? ⟨w.heap.size, 0, none⟩ = some (.string cl.path) ∧ w4.cell? ⟨w.heap.size, 1, none⟩ = some (.int .u8 cl.mod.name) ∧ w4.cell? ⟨w.heap.size, 2, none⟩ = some (.slice D cl.mod.args.length d) := fun w4 hb4 =>
      have hb := hbl3.same (hb4.block _ (by omega))
      ⟨(hb.cell 0).trans rfl, (hb.cell 1).trans rfl, (hb.cell 2).trans rfl⟩
    cases hfi : fineF cl.mod
    case false =>
      have hx0 : ¬ (x = 0 ∨ x = 28) := fun h => by have := Hcm.out.1 h; rw [hfi] at this; cases this
      have hff : oneR rs s cl = ([], 8) := by unfold oneR; rw [if_pos Hc.out, hpf, hfi]; rfl
      have e0 : (x != 0) = true := by simp; omega
      have e1 : (x != 28) = true := by simp; omega
      have Hcp := Lib.hid hcp; clear hcp
      have Hff := Lib.hid hff; clear hff
      have Hbl3 := Lib.hid hbl3; clear hbl3
      have Hbw3 := Lib.hid hbw3; clear hbw3
      have Hb3 := Lib.hid hb3; clear hb3
      have Hsu := Lib.hid hsu; clear hsu
      have Hcell := Lib.hid hcell; clear hcell
      have Hfi := Lib.hid hfi; clear hfi
      clear hx0
      go_wp2_with (go_at_call 52; refine Hcp.out.mono ?_; rintro e w4 ⟨rfl, hb4⟩)
      go_ret2
      exact celsPost_none Hff.out (Hbw3.out.trans (hb4.mono (by omega)))
    case true =>
      have hx0 : x = 0 ∨ x = 28 := Hcm.out.2 hfi
      have hff : oneR rs s cl = succR rs s cl := by unfold oneR; rw [if_pos Hc.out, hpf, hfi]; rfl
      have hsu2 := fun w4 hb4 => hsu w4 hb4 hfi
      unfold CelsPost at hsu2
      have Hcp := Lib.hid hcp; clear hcp
      have Hff := Lib.hid hff; clear hff
      have Hbl3 := Lib.hid hbl3; clear hbl3
      have Hbw3 := Lib.hid hbw3; clear hbw3
      have Hb3 := Lib.hid hb3; clear hb3
      have Hsu := Lib.hid hsu; clear hsu
      have Hcell := Lib.hid hcell; clear hcell
      have Hfi := Lib.hid hfi; clear hfi
      have Hsu2 := Lib.hid hsu2; clear hsu2
      have fnl : ∀ w4 (hb4 : Below w3.heap.size w3 w4) (w5 : World) A6 c6, SlAt pCel (fun q => w4.heap.size ≤ q ∧ q < w5.heap.size) w5 A6 c6 (succR rs s cl).1 → Below w4.heap.size w4 w5 → CelsPost (oneR rs s cl) w (.returned (.tuple #[.slice A6 (succR rs s cl).1.length c6, .int .i64 (succR rs s cl).2])) w5 := fun w4 hb4 w5 A6 c6 hs5 hb5 => by
        have hz4 := hb4.size
        have := Hbw3.out.size
        rw [Hff.out]
        exact ⟨A6, c6, rfl, hs5.wide fun q hq => ⟨by omega, hq.2⟩, (Hbw3.out.trans (hb4.mono (by omega))).trans (hb5.mono (by omega))⟩
      have Fnl := Lib.hid fnl; clear fnl
      rcases hx0 with rfl | rfl
      · go_wp2_with (first
          | (go_at_call 52; refine Hcp.out.mono ?_; rintro e w4 ⟨rfl, hb4⟩; obtain ⟨p0, p1, p2⟩ := Hcell.out _ hb4)
          | (go_at_call 53; refine (Hsu2.out _ hb4).mono ?_; rintro e w5 ⟨A6, c6, rfl, hs5, hb5⟩))
        go_ret2
        exact Fnl.out _ hb4 _ _ _ hs5 hb5
      · go_wp2_with (first
          | (go_at_call 52; refine Hcp.out.mono ?_; rintro e w4 ⟨rfl, hb4⟩; obtain ⟨p0, p1, p2⟩ := Hcell.out _ hb4)
          | (go_at_call 53; refine (Hsu2.out _ hb4).mono ?_; rintro e w5 ⟨A6, c6, rfl, hs5, hb5⟩))
        go_ret2
        exact Fnl.out _ hb4 _ _ _ hs5 hb5
set_option maxRecDepth 100000 in
set_option maxHeartbeats 4000000 in
theorem refOne9_calls (A : Option Addr) (c : Nat) (rs : List Rul) (s : Int) (cl : Cel) (D : Option Addr) (d : Nat) (w : World) (h : SlAt pRul (Old w) w A c rs) (h' : SlAt (pI .i64) (Old w) w D d cl.mod.args) (hf8 : Fits .u8 cl.mod.name) (hs : Fits .i64 s) (hsm : Small rs) (hp : cl.path.size ≤ 300) :
    Calls Tryd.prog 28 #[.slice A rs.length c, .int .i64 s, .agg #[.string cl.path, .int .u8 cl.mod.name, .slice D cl.mod.args.length d]] w (CelsPost (oneR rs s cl) w) := by
  have hmx := h.lenle
  have hmx' := h'.lenle
  obtain ⟨W0, hW0⟩ : ∃ W0, W0 = w.alloc (.cells #[.string cl.path, .int .u8 cl.mod.name, .slice D cl.mod.args.length d] 51) := ⟨_, rfl⟩
  have hb0 : Below w.heap.size w W0 := by rw [hW0]; exact (Below.refl _ _).alloc (Nat.le_refl _) _
  have hz0 : w.heap.size + 1 ≤ W0.heap.size := by rw [hW0]; simp
  have hbl0 : Blk W0 w.heap.size 51 #[.string cl.path, .int .u8 cl.mod.name, .slice D cl.mod.args.length d] := by rw [hW0]; exact Blk.new _ _ _
  have hck : ∀ w1, Below w.heap.size w w1 → Calls Tryd.prog 22 #[.slice A rs.length c] w1 fun e w' => e = .returned (.int .i64 (checkC rs)) ∧ Below w1.heap.size w1 w' := fun w1 hb => refCheckC_calls A c rs w1 (h.later hb) hsm
  by_cases hc : checkC rs = 0
  case neg =>
    have e0 : (checkC rs != 0) = true := by simp [hc]
    have hff : oneR rs s cl = ([], checkC rs) := by unfold oneR; rw [if_neg hc]
    generalize checkC rs = x at hck hff e0
    clear hc
    have H := Lib.hid h; clear h
    have H' := Lib.hid h'; clear h'
    have Hb0 := Lib.hid hb0; clear hb0
    have Hbl0 := Lib.hid hbl0; clear hbl0
    have Hck := Lib.hid hck; clear hck
    have Hff := Lib.hid hff; clear hff
    go_enter Tryd.func28, Tryd.ntmps28
    go_upto_region 1 with fail
    rw [← hW0]
    have HW0 := Lib.hid hW0; clear hW0
    go_wp2_with fail
    refine (Hck.out _ Hb0.out).mono ?_
    rintro e w1 ⟨rfl, hb1⟩
    have hbw1 : Below w.heap.size w w1 := Hb0.out.trans (hb1.mono (by omega))
    have hz1 := hbw1.size
    have Hbw1 := Lib.hid hbw1; clear hbw1
    clear hb1
    go_wp2_with fail
    refine (Hck.out _ Hbw1.out).mono ?_
    rintro e w2 ⟨rfl, hb2⟩
    go_wp2
    go_ret2
    exact celsPost_none Hff.out (Hbw1.out.trans (hb2.mono (by omega)))
  case pos =>
  rw [hc] at hck
  have hv := rval_of hc
  have H := Lib.hid h; clear h
  have H' := Lib.hid h'; clear h'
  have Hb0 := Lib.hid hb0; clear hb0
  have Hbl0 := Lib.hid hbl0; clear hbl0
  have Hck := Lib.hid hck; clear hck
  have Hv := Lib.hid hv; clear hv
  have Hc := Lib.hid hc; clear hc
  have Hs := Lib.hid hs; clear hs
  go_enter Tryd.func28, Tryd.ntmps28
  go_upto_region 1 with fail
  rw [← hW0]
  have HW0 := Lib.hid hW0; clear hW0
  go_upto_region 3 with (go_at_call 22; refine (Hck.out _ Hb0.out).mono ?_; rintro e w1 ⟨rfl, hb1⟩)
  have hz1 := hb1.size
  have hbw1 : Below w.heap.size w w1 := Hb0.out.trans (hb1.mono (by omega))
  have hbl1 := Hbl0.out.same (hb1.block _ (by omega))
  have y0 : w1.cell? ⟨w.heap.size, 0, none⟩ = some (.string cl.path) := (hbl1.cell 0).trans rfl
  have y1 : w1.cell? ⟨w.heap.size, 1, none⟩ = some (.int .u8 cl.mod.name) := (hbl1.cell 1).trans rfl
  have y2 : w1.cell? ⟨w.heap.size, 2, none⟩ = some (.slice D cl.mod.args.length d) := (hbl1.cell 2).trans rfl
  have hcp := refPath_calls cl.path w1 (by omega)
  have hcf := refFine_calls D d cl.mod w1 (H'.out.later hbw1) (fun k hk => hk)
  unfold FinePost at hcf
  cases hpf : pathF cl.path
  case false =>
    rw [hpf] at hcp
    have hff : oneR rs s cl = ([], 8) := by unfold oneR; rw [if_pos Hc.out, hpf]; rfl
    have Hcp := Lib.hid hcp; clear hcp
    have Hff := Lib.hid hff; clear hff
    have Hbl1 := Lib.hid hbl1; clear hbl1
    have Hbw1 := Lib.hid hbw1; clear hbw1
    have Hb1 := Lib.hid hb1; clear hb1
    have Hcf := Lib.hid hcf; clear hcf
    go_wp2_with (go_at_call 31; refine Hcp.out.mono ?_; rintro e w4 ⟨rfl, rfl⟩)
    go_ret2
    exact celsPost_none Hff.out Hbw1.out
  case true =>
    rw [hpf] at hcp
    cases hfi : fineF cl.mod
    case false =>
      rw [hfi] at hcf
      have hff : oneR rs s cl = ([], 8) := by unfold oneR; rw [if_pos Hc.out, hpf, hfi]; rfl
      have Hcp := Lib.hid hcp; clear hcp
      have Hff := Lib.hid hff; clear hff
      have Hbl1 := Lib.hid hbl1; clear hbl1
      have Hbw1 := Lib.hid hbw1; clear hbw1
      have Hb1 := Lib.hid hb1; clear hb1
      have Hcf := Lib.hid hcf; clear hcf
      have Hfi := Lib.hid hfi; clear hfi
      go_wp2_with (first
        | (go_at_call 31; refine Hcp.out.mono ?_; rintro e w4 ⟨rfl, rfl⟩)
        | (go_at_call 32; refine Hcf.out.mono ?_; rintro e w5 ⟨rfl, hb5⟩))
      go_ret2
      exact celsPost_none Hff.out (Hbw1.out.trans (hb5.mono (by omega)))
    case true =>
      rw [hfi] at hcf
      have hff : oneR rs s cl = succR rs s cl := by unfold oneR; rw [if_pos Hc.out, hpf, hfi]; rfl
      have hsu : ∀ w4, Below w1.heap.size w1 w4 → Calls Tryd.prog 54 #[.slice A rs.length c, .int .i64 s, .agg #[.string cl.path, .int .u8 cl.mod.name, .slice D cl.mod.args.length d]] w4 fun e w' => ∃ A' c', e = .returned (.tuple #[.slice A' (succR rs s cl).1.length c', .int .i64 (succR rs s cl).2]) ∧ SlAt pCel (fun q => w4.heap.size ≤ q ∧ q < w'.heap.size) w' A' c' (succR rs s cl).1 ∧ Below w4.heap.size w4 w' := fun w4 hb4 =>
        have hbw4 := hbw1.trans (hb4.mono (by omega))
        refSucc_calls A c rs s cl D d w4 (H.out.later hbw4) (H'.out.later hbw4) hf8 Hs.out Hv.out hfi hp
      have hcell : ∀ w4, Below w1.heap.size w1 w4 → w4.cell? ⟨w.heap.size, 0, none⟩ = some (.string cl.path) ∧ w4.cell? ⟨w.heap.size, 1, none⟩ = some (.int .u8 cl.mod.name) ∧ w4.cell? ⟨w.heap.size, 2, none⟩ = some (.slice D cl.mod.args.length d) := fun w4 hb4 =>
        have hb := hbl1.same (hb4.block _ (by omega))
        ⟨(hb.cell 0).trans rfl, (hb.cell 1).trans rfl, (hb.cell 2).trans rfl⟩
      have fnl : ∀ w4 (hb4 : Below w1.heap.size w1 w4) (w5 : World) A6 c6, SlAt pCel (fun q => w4.heap.size ≤ q ∧ q < w5.heap.size) w5 A6 c6 (succR rs s cl).1 → Below w4.heap.size w4 w5 → CelsPost (oneR rs s cl) w (.returned (.tuple #[.slice A6 (succR rs s cl).1.length c6, .int .i64 (succR rs s cl).2])) w5 := fun w4 hb4 w5 A6 c6 hs5 hb5 => by
        have hz4 := hb4.size
        have := hbw1.size
        rw [hff]
        exact ⟨A6, c6, rfl, hs5.wide fun q hq => ⟨by omega, hq.2⟩, (hbw1.trans (hb4.mono (by omega))).trans (hb5.mono (by omega))⟩
      have Hcp := Lib.hid hcp; clear hcp
      have Hff := Lib.hid hff; clear hff
      have Hbl1 := Lib.hid hbl1; clear hbl1
      have Hbw1 := Lib.hid hbw1; clear hbw1
      have Hb1 := Lib.hid hb1; clear hb1
      have Hcf := Lib.hid hcf; clear hcf
      have Hfi := Lib.hid hfi; clear hfi
      have Hsu := Lib.hid hsu; clear hsu
      have Hcell := Lib.hid hcell; clear hcell
      have Fnl := Lib.hid fnl; clear fnl
      go_upto_region 5 with (first
        | (go_at_call 31; refine Hcp.out.mono ?_; rintro e w4 ⟨rfl, rfl⟩)
        | (go_at_call 32; refine Hcf.out.mono ?_; rintro e w5 ⟨rfl, hb5⟩))
      obtain ⟨p0, p1, p2⟩ := Hcell.out _ hb5
      clear y0 y1 y2
      go_wp2_with (go_at_call 54; refine (Hsu.out _ hb5).mono ?_; rintro e w6 ⟨A6, c6, rfl, hs6, hb6⟩)
      go_ret2
      exact Fnl.out _ hb5 _ _ _ hs6 hb6
theorem succR_nil9 (s : Int) (c : Cel) : succR [] s c = ([c], 0) := by
  rcases succR_pick (rs := []) ⟨by simp, fun r h => (by cases h), fun r h => (by cases h), fun r h => (by cases h)⟩ s c with ⟨_, h⟩ | ⟨r, h, _⟩
  · exact h
  · cases h
theorem nilRC : checkC [] = 0 := by decide +kernel
theorem step_nil9 {s : Int} : ∀ {l : List Cel}, errL [] s l = 0 ∧ allL [] s l = l
  | [] => ⟨rfl, rfl⟩
  | c :: l => by
    obtain ⟨h1, h2⟩ := step_nil9 (s := s) (l := l)
    refine ⟨?_, ?_⟩
    · show (if (succR [] s c).2 ≠ 0 then (succR [] s c).2 else errL [] s l) = 0
      rw [succR_nil9]; exact h1
    · show (succR [] s c).1 ++ allL [] s l = c :: l
      rw [succR_nil9, h2]; rfl
theorem rStep_nil9 (s : Int) (l : List Cel) : (rStep9 [] s l).2 = 0 → (rStep9 [] s l).1 = l := by
  unfold rStep9
  rw [if_pos nilRC]
  by_cases hc : cellsR l = 0
  · rw [if_pos hc]
    intro _
    obtain ⟨h1, h2⟩ := step_nil9 (s := s) (l := l)
    rw [stepR9_ok h1 (by rw [h2]; have := (cells_fine hc).1; omega), h2]
  · rw [if_neg hc]
    intro h
    exact absurd h hc
structure WrS (N : Nat) (v w : World) : Prop where
  size : w.heap.size = v.heap.size
  cell : ∀ a u, v.cell? a = some u → w.cell? a = some u ∨ (N ≤ a.block ∧ ∃ n n', u = .int .i64 n ∧ w.cell? a = some (.int .i64 n'))
  non : ∀ a, v.cell? a = none → w.cell? a = none
  frz : ∀ a, w.frozen? a = v.frozen? a
theorem WrS.refl (N : Nat) (v : World) : WrS N v v := ⟨rfl, fun a u h => .inl h, fun a h => h, fun a => rfl⟩
theorem setCell_cell9 {w : World} {b o : Nat} {u x : Value} (h : w.cell? ⟨b, o, none⟩ = some u) (a : Addr) : (w.setCell ⟨b, o, none⟩ x).cell? a = if a = ⟨b, o, none⟩ then some x else w.cell? a := by
  obtain ⟨b', o', sp⟩ := a
  unfold World.cell? at h ⊢
  unfold World.setCell
  by_cases hb : b = b'
  · subst hb
    cases ho : w.heap[b]? with
    | none => rw [ho] at h; simp at h
    | some ob =>
      rw [ho] at h
      cases ob with
      | cells cs t fr =>
        have hlt : o < cs.size := by
          simp at h
          exact (Array.getElem?_eq_some_iff.1 h).1
        cases sp with
        | none =>
          by_cases hoo : o' = o
          · subst hoo; simp [Array.getElem?_modify, ho, hlt]
          · have : ¬ (o = o') := fun e => hoo e.symm
            simp [Array.getElem?_modify, ho, hoo, this, Array.getElem?_setIfInBounds]
        | some p => simp [Array.getElem?_modify, ho]
      | _ => simp at h
  · have : ¬ (b' = b) := fun e => hb e.symm
    simp [Array.getElem?_modify, hb, this]
theorem setCell_frozen9 {w : World} {b o : Nat} {x : Value} (a : Addr) : (w.setCell ⟨b, o, none⟩ x).frozen? a = w.frozen? a := by
  unfold World.frozen? World.setCell
  by_cases hb : b = a.block
  · subst hb
    cases ho : w.heap[a.block]? with
    | none => simp [Array.getElem?_modify, ho]
    | some ob => cases ob <;> simp [Array.getElem?_modify, ho]
  · simp [Array.getElem?_modify, hb]
theorem WrS.set {N : Nat} {v w : World} {b o : Nat} {n m : Int} (h : WrS N v w) (hb : N ≤ b) (hc : w.cell? ⟨b, o, none⟩ = some (.int .i64 n)) : WrS N v (w.setCell ⟨b, o, none⟩ (.int .i64 m)) := by
  refine ⟨by rw [← h.size]; unfold World.setCell; simp, fun a u hu => ?_, fun a ha => ?_, fun a => (setCell_frozen9 a).trans (h.frz a)⟩
  · rw [setCell_cell9 hc]
    by_cases e : a = ⟨b, o, none⟩
    · subst e
      rw [if_pos rfl]
      refine .inr ⟨hb, ?_⟩
      rcases h.cell _ u hu with h1 | ⟨_, n1, n2, h1, h2⟩
      · rw [hc] at h1
        exact ⟨n, m, (Option.some.inj h1).symm, rfl⟩
      · exact ⟨n1, m, h1, rfl⟩
    · rw [if_neg e]; exact h.cell a u hu
  · rw [setCell_cell9 hc]
    have h1 := h.non a ha
    rw [if_neg (fun e => by subst e; rw [hc] at h1; cases h1)]
    exact h1
structure Kp9 (v w : World) : Prop where
  size : v.heap.size ≤ w.heap.size
  cell : ∀ a, a.block < v.heap.size → w.cell? a = v.cell? a
theorem WrS.kp {N : Nat} {v0 v w : World} (h : WrS N v w) (k : Kp9 v0 v) (hN : v0.heap.size ≤ N) : Kp9 v0 w := by
  refine ⟨by rw [h.size]; exact k.size, fun a ha => ?_⟩
  rw [← k.cell a ha]
  cases hc : v.cell? a with
  | none => exact h.non a hc
  | some u =>
    rcases h.cell a u hc with h1 | ⟨h1, _⟩
    · exact h1
    · omega
theorem celF_get {N : Nat} {F : Nat → Prop} {w : World} {A : Option Addr} {cap : Nat} {xs : List Cel} (h : SlAt (pCelF N) F w A cap xs) {i : Nat} (hi : i < xs.length) :
    ∃ b o A' c' m, xs[i]? = some m ∧ A = some ⟨b, o, none⟩ ∧ w.cell? ⟨b, o + i * 3 + 2, none⟩ = some (.slice A' m.mod.args.length c') ∧ m.mod.args.length ≤ 9223372036854775807 ∧
      ∀ j, j < m.mod.args.length → ∃ b' o' n, A' = some ⟨b', o', none⟩ ∧ N ≤ b' ∧ w.cell? ⟨b', o' + j, none⟩ = some (.int .i64 n) ∧ w.frozen? ⟨b', o' + j, none⟩ = false := by
  have hx : xs[i]? = some (xs[i]'hi) := List.getElem?_eq_getElem hi
  obtain ⟨b, o, cs, h1, h2, ⟨A', c', h3, h4, h5, h6, h7⟩, h8⟩ := h.el i _ hx
  subst h3
  refine ⟨b, o, A', c', _, hx, h1, ?_, h6.lenle.1, fun j hj => ?_⟩
  · simpa [pCelF] using h8 2 _ rfl
  · obtain ⟨b', o', y, _, hA, _, hc, _⟩ := h6.getI hj
    have hu := h7 (fun e => by rw [e] at hj; exact absurd hj (Nat.not_lt_zero _)) _ _ hA
    exact ⟨b', o', y, hA, hu.1, hc, hu.2 _⟩
end Go.Proofs.YtlipmagkplbkdaaDoor
