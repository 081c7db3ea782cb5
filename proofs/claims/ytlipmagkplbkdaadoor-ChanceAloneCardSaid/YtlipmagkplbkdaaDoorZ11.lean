/- Texts of the proof that the statement of ChanceAlone holds, several in one. -/
import Derived.Test.YtlipmagkplbkdaaDoorZ10
import Derived.Test.YtlipmagkplbkdaaDoorZ9
import Derived.Test.YtlipmagkplbkdaaDoorZ8
set_option linter.unusedVariables false
set_option linter.unusedSimpArgs false
set_option linter.unusedSectionVars false
set_option maxRecDepth 100000
set_option maxHeartbeats 8000000
namespace Go.Proofs.YtlipmagkplbkdaaDoor
section
open Go.RowKit Go.Sort Go.BigFrame
structure FitS (B : Nat) (w : World) (Aw : Option Addr) (cw : Nat) (Ai : Option Addr) (ci n : Nat) (ws is : List Int) : Prop where
 ow : Own (pI .i64) 3 B (fun _ => False) w (.slice Aw n cw) ws
 oi : Own (pI .i64) 3 B (fun _ => False) w (.slice Ai n ci) is
 d : ∀ q, (Value.slice Aw n cw).ownBlock = some q -> (Value.slice Ai n ci).ownBlock ≠ some q
section
variable {B : Nat} {w w' : World} {Aw Ai : Option Addr} {cw ci n : Nat} {ws is : List Int}
theorem FitS.later (h : FitS B w Aw cw Ai ci n ws is) (hb : Below w.heap.size w w') : FitS B w' Aw cw Ai ci n ws is := ⟨h.ow.later hb, h.oi.later hb, h.d⟩
theorem FitS.oi1 (h : FitS B w Aw cw Ai ci n ws is) {v' : Value} {b : Nat} (hg : Grew b w w' (.slice Aw n cw) v') : Own (pI .i64) 3 B (fun _ => False) w' (.slice Ai n ci) is :=
 h.oi.beside hg fun k hk => ⟨fun hf => hf, h.d k hk⟩
theorem FitS.step (h : FitS B w Aw cw Ai ci n ws is) {A6 A7 : Option Addr} {c6 c7 n6 b : Nat} {w6 w7 : World} {ws' is' : List Int} (h6 : Own (pI .i64) 3 B (fun _ => False) w6 (.slice A6 n6 c6) ws') (hg6 : Grew b w w6 (.slice Aw n cw) (.slice A6 n6 c6))
  (h7 : Own (pI .i64) 3 B (fun _ => False) w7 (.slice A7 n6 c7) is') (hg7 : Grew b w6 w7 (.slice Ai n ci) (.slice A7 n6 c7)) : FitS B w7 A6 c6 A7 c7 n6 ws' is' := by
 have hd : ∀ k, (Value.slice Ai n ci).ownBlock = some k -> (Value.slice A6 n6 c6).ownBlock ≠ some k := fun k hk he => by
  rcases hg6.blk with e | ⟨k', e, hk'⟩
  ·rw [e] at he; exact h.d k he hk
  ·rw [e] at he
   injection he with he
   have := (h.oi.lt k hk).2
   omega
 refine ⟨h6.beside hg7 fun k hk => ⟨fun hf => hf, hd k hk⟩, h7, fun q hq he => ?_⟩
 rcases hg7.blk with e | ⟨k', e, hk'⟩
 ·rw [e] at he; exact hd q he hq
 ·rw [e] at he
  injection he with he
  have := (h6.lt q hq).2
  omega
end
def CelsPost (r : List Cel × Int) (w : World) (e : Ending) (w' : World) : Prop := ∃ A c, e = .returned (.tuple #[.slice A r.1.length c, .int .i64 r.2]) /\ SlAt pCel (fun q => w.heap.size <= q /\ q < w'.heap.size) w' A c r.1 /\ Below w.heap.size w w'
theorem celsPost_none {r : List Cel × Int} {x : Int} {w w' : World} (h : r = ([], x)) (hb : Below w.heap.size w w') : CelsPost r w (.returned (.tuple #[.slice none 0 0, .int .i64 x])) w' := by
 subst h
 exact ⟨none, 0, rfl, ⟨Nat.le_refl _, Nat.zero_le _, (fun _ => rfl), fun i x hx => by simp at hx⟩, hb⟩
theorem own_fits {B : Nat} {w : World} {A : Option Addr} {n c : Nat} {l : List Int} (h : Own (pI .i64) 3 B (fun _ => False) w (.slice A n c) l) : l.length = n /\ SlAt (pI .i64) (Old w) w A c l := by
 obtain ⟨h1, h2⟩ := h.sl'
 exact ⟨h1, h2.wide fun q hq => hq.2⟩
theorem twin_one {W w2 : World} {A1 : Option Addr} {c1 : Nat} {m : Mod} (h : Own pModF 49 W.heap.size (W.heap.size <= ·) w2 (.slice A1 1 c1) [m]) :
  ∃ g o D d, A1 = some ⟨g, o, none⟩ /\ w2.cell? ⟨g, o, none⟩ = some (.int .u8 m.name) /\ w2.cell? ⟨g, o + 1, none⟩ = some (.slice D m.args.length d) /\ SlAt (pI .i64) (fun q => W.heap.size <= q /\ q < w2.heap.size) w2 D d m.args := by
 obtain ⟨A, c, e, hs⟩ := h.fresh
 injection e with e1 e2 e3
 subst e1 e3
 obtain ⟨g, o, D, d, m', hd, hA, hob, x0, x1, _, hxa, _⟩ := (slAt_modF hs).getMod (i := 0) (by simp)
 have hm : m' = m := by have := hd.out; simp at this; exact this.symm
 subst hm
 exact ⟨g, o, D, d, hA, by simpa using x0, by simpa using x1, hxa.out⟩
theorem successors9_calls (A : Option Addr) (c : Nat) (rs : List Rul) (s : Int) (cl : Cel) (D : Option Addr) (d : Nat) (w : World) (h : SlAt pRul (Old w) w A c rs) (h' : SlAt (pI .i64) (Old w) w D d cl.mod.args) (hf8 : Fits .u8 cl.mod.name) (hs : Fits .i64 s) (hv : RVal rs) (hfine : fineF cl.mod = true) (hp : cl.path.size <= 300) (ht : TabAt w) (hg : GAt w) :
  Calls Tryd.prog 53 #[.slice A rs.length c, .int .i64 s, .agg #[.string cl.path, .int .u8 cl.mod.name, .slice D cl.mod.args.length d]] w (CelsPost (succR rs s cl) w) := by
 have hmx := h.lenle
 have hmx' := h'.lenle
 have hl40 := hv.l
 have hargs := fine_args hfine
 obtain ⟨W0, hW0⟩ : ∃ W0, W0 = w.alloc (.cells #[.string cl.path, .int .u8 cl.mod.name, .slice D cl.mod.args.length d] 51) := ⟨_, rfl⟩
 have hb0 : Below w.heap.size w W0 := by rw [hW0]; exact (Below.refl _ _).alloc (Nat.le_refl _) _
 have hz0 : W0.heap.size = w.heap.size + 1 := by rw [hW0]; simp
 have hbl0 : Blk W0 w.heap.size 51 #[.string cl.path, .int .u8 cl.mod.name, .slice D cl.mod.args.length d] := by rw [hW0]; exact Blk.new _ _ _
 have hfs0 : FitS W0.heap.size W0 none 0 none 0 0 (fitW cl.mod (rs.take 0)) (fitI cl.mod (rs.take 0)) := ⟨Own.nil, Own.nil, fun q hq => by cases hq⟩
 have hn0 : (fitP cl.mod (rs.take 0)).length = 0 := rfl
 obtain ⟨H, H', Hv, Hargs, Hb0, Hbl0, Hfine, Hs, Ht, Hg, Hfs0, Hn0⟩ := HH12 h h' hv hargs hb0 hbl0 hfine hs ht hg hfs0 hn0; clear h h' hv hargs hb0 hbl0 hfine hs ht hg hfs0 hn0
 go_enter Tryd.func53, Tryd.ntmps53
 go_wp2
 rw [<- hW0]
 have HW0 := HH1 hW0; clear hW0
 go_loopw [26, 8, 9] (fun i xw xi wr => ∃ (k n : Nat) (Aw Ai : Option Addr) (cw ci : Nat), k <= rs.length /\ i = .int .i64 k /\ xw = .slice Aw n cw /\ xi = .slice Ai n ci /\ n <= k /\ Hid ((fitP cl.mod (rs.take k)).length = n) /\ Hid (Below W0.heap.size W0 wr) /\ W0.heap.size <= wr.heap.size /\
  Hid (FitS W0.heap.size wr Aw cw Ai ci n (fitW cl.mod (rs.take k)) (fitI cl.mod (rs.take k)))) (fun i _ _ _ => rs.length - (intOf i).toNat)
 case atStart => exact ⟨0, 0, none, none, 0, 0, Nat.zero_le _, rfl, rfl, rfl, Nat.le_refl _, Hn0, Below.refl _ _, Nat.le_refl _, Hfs0⟩
 case round =>
  obtain ⟨k, n, Aw, Ai, cw, ci, hk, rfl, rfl, rfl, hnk, hn, hb, hsz, hfs⟩ := hrel
  obtain ⟨wo, rfl⟩ : ∃ wo : World, wo = wr := ⟨_, rfl⟩
  have hbwo : Below w.heap.size w wo := Hb0.out.trans (hb.out.mono (by omega))
  have hblo := Hbl0.out.same (hb.out.block _ (by omega))
  by_cases hlt : k < rs.length
  case pos =>
   obtain ⟨b7, o7, A7, c7, A8, c8, r, hdr, rfl, hob7, k0, k1, k2, k3, k4, k5, k6, hat, hl1, hl8⟩ := (H.out.below hbwo).getRulAt hlt
   have hrk : rs[k]? = some r := get_of_drop hdr.out
   have hco1 : coreR r = true := Hv.out.c r (mem_of_drop hdr.out)
   have hwt := Hv.out.w r (mem_of_drop hdr.out)
   obtain ⟨W1, hW1⟩ : ∃ W1, W1 = wo.alloc (.cells #[.int .u8 r.name, .int .i64 r.arity, .int .u8 r.left, .int .u8 r.right, .slice A7 r.guards.length c7, .int .i64 r.weight, .slice A8 r.out.length c8] 60) := ⟨_, rfl⟩
   have hb1 : Below wo.heap.size wo W1 := by rw [hW1]; exact (Below.refl _ _).alloc (Nat.le_refl _) _
   have hz1 : wo.heap.size + 1 <= W1.heap.size := by rw [hW1]; simp
   have hbr1 : Blk W1 wo.heap.size 60 #[.int .u8 r.name, .int .i64 r.arity, .int .u8 r.left, .int .u8 r.right, .slice A7 r.guards.length c7, .int .i64 r.weight, .slice A8 r.out.length c8] := by rw [hW1]; exact Blk.new _ _ _
   have hbw1 : Below w.heap.size w W1 := hbwo.trans (hb1.mono (by omega))
   have hcall := chFits_calls r A7 c7 A8 c8 D d cl.mod W1 (hat.out.to (by omega) hb1) (H'.out.later hbw1) hco1 Hargs.out
   have hz5 : ∀ w2 : World, Below W1.heap.size W1 w2 -> w2.cell? ⟨wo.heap.size, 5, none⟩ = some (.int .i64 r.weight) := fun w2 hw2 => ((hbr1.same (hw2.block _ hbr1.lt)).cell 5).trans rfl
   have hfs2 : ∀ w2 : World, Below W1.heap.size W1 w2 -> FitS W0.heap.size w2 Aw cw Ai ci n (fitW cl.mod (rs.take k)) (fitI cl.mod (rs.take k)) := fun w2 hw2 => (hfs.out.later hb1).later hw2
   have hb2' : ∀ w2 : World, Below W1.heap.size W1 w2 -> Below W0.heap.size W0 w2 := fun w2 hw2 => hb.out.trans ((hb1.trans (hw2.mono (by omega))).mono hsz)
   have hk0 : (0 : Int) <= (k : Int) := Int.natCast_nonneg _
   have hk1 : (k : Int) < (rs.length : Int) := by omega
   have hblo1 := hblo.same (hb1.block _ (by omega))
   have y1 : W1.cell? ⟨w.heap.size, 1, none⟩ = some (.int .u8 cl.mod.name) := (hblo1.cell 1).trans rfl
   have y2 : W1.cell? ⟨w.heap.size, 2, none⟩ = some (.slice D cl.mod.args.length d) := (hblo1.cell 2).trans rfl
   obtain ⟨z0, z1, z2, z3, z4, z5, z6⟩ := hbr1.rul
   unfold BoolPost at hcall
   generalize hmn : fitsF r cl.mod = t at hcall
   cases t
   ·have hn1 : (fitP cl.mod (rs.take (k + 1))).length = n := by rw [fitP_snoc cl.mod hrk, if_neg (by rw [hmn]; decide), List.append_nil]; exact hn.out
    have e1 := fitW_no hrk hmn
    have e2 := fitI_no hrk hmn
    obtain ⟨Hcall, Hz5, Hfs2, Hn1, E1, E2, Hb2', Hmn, Hrk⟩ := HH9 hcall hz5 hfs2 hn1 e1 e2 hb2' hmn hrk; clear hcall hz5 hfs2 hn1 e1 e2 hb2' hmn hrk
    clear hn hfs hbr1 hbw1 hb1 hblo hblo1 hat hdr
    obtain ⟨Y1, Y2, Z0, Z1, Z2, Z3, Z4, Z5, Z6⟩ := HH9 y1 y2 z0 z1 z2 z3 z4 z5 z6; clear y1 y2 z0 z1 z2 z3 z4 z5 z6
    go_upto_region 5 with fail
    rw [<- hW1]
    have HW1 := HH1 hW1; clear hW1
    have y1 := Y1.out
    have y2 := Y2.out
    have z0 := Z0.out
    have z1 := Z1.out
    have z2 := Z2.out
    have z3 := Z3.out
    have z4 := Z4.out
    have z5 := Z5.out
    have z6 := Z6.out
    clear k0 k1 k2 k3 k4 k5 k6
    go_wp2_with (go_at_call 68; refine Hcall.out.mono ?_; rintro e w2 ⟨rfl, hb2⟩)
    have hz2 := hb2.size
    go_roundw
    case rel =>
     refine ⟨k + 1, n, Aw, Ai, cw, ci, hlt, by go_num, rfl, rfl, by omega, Hn1, Hb2'.out _ hb2, by omega, ?_⟩
     unfold Hid; rw [E1.out, E2.out]; exact Hfs2.out _ hb2
    case measure => simp [intOf]; omega
   ·have hn1 : (fitP cl.mod (rs.take (k + 1))).length = n + 1 := by rw [fitP_snoc cl.mod hrk, if_pos hmn, List.length_append, hn.out]; rfl
    have e1 := fitW_yes hrk hmn
    have e2 := fitI_yes hrk hmn
    have hlw : (fitW cl.mod (rs.take k)).length + 1 = n + 1 := by rw [fitW_len, hn.out]
    have hli : (fitI cl.mod (rs.take k)).length + 1 = n + 1 := by rw [fitI_len, hn.out]
    have hrw : Room (fitW cl.mod (rs.take k)).length := room_of (by rw [fitW_len, hn.out]; omega)
    have hri : Room (fitI cl.mod (rs.take k)).length := room_of (by rw [fitI_len, hn.out]; omega)
    have hba : ∀ w2 : World, Below W1.heap.size W1 w2 -> W0.heap.size <= w2.heap.size := fun w2 hw2 => by have := hw2.size; omega
    have hRw : (pI .i64).R (fun _ => False) W1 (Value.int .i64 r.weight).cells.toList r.weight := ⟨rfl, fits_i64 (by omega)⟩
    have hRi : (pI .i64).R (fun _ => False) W1 (Value.int .i64 k).cells.toList (k : Int) := ⟨rfl, fits_i64 (by omega)⟩
    obtain ⟨Hcall, Hz5, Hfs2, Hn1, E1, E2, Hb2', Hmn, Hrk, Hlw, Hli, Hrw⟩ := HH12 hcall hz5 hfs2 hn1 e1 e2 hb2' hmn hrk hlw hli hrw; clear hcall hz5 hfs2 hn1 e1 e2 hb2' hmn hrk hlw hli hrw
    obtain ⟨Hri, Hba, HRw, HRi⟩ := HH4 hri hba hRw hRi; clear hri hba hRw hRi
    clear hn hfs hbr1 hbw1 hb1 hblo hblo1 hat hdr
    obtain ⟨Y1, Y2, Z0, Z1, Z2, Z3, Z4, Z5, Z6⟩ := HH9 y1 y2 z0 z1 z2 z3 z4 z5 z6; clear y1 y2 z0 z1 z2 z3 z4 z5 z6
    go_upto_region 5 with fail
    rw [<- hW1]
    have HW1 := HH1 hW1; clear hW1
    have y1 := Y1.out
    have y2 := Y2.out
    have z0 := Z0.out
    have z1 := Z1.out
    have z2 := Z2.out
    have z3 := Z3.out
    have z4 := Z4.out
    have z5 := Z5.out
    have z6 := Z6.out
    clear k0 k1 k2 k3 k4 k5 k6
    go_wp2_with (first
     | (go_at_call 68; refine Hcall.out.mono ?_; rintro e w2 ⟨rfl, hb2⟩; have zz5 := Hz5.out _ hb2)
     | ((with_reducible show wpList _ _ _ (Oper.mk (some 38) _ _ _ _ _ :: _) _ _); refine wpList_pushG (E := pI .i64) (xs := fitW cl.mod (rs.take k)) (v := .slice Aw n cw) (base := W0.heap.size) (G := fun _ => False) 47 3 (.int .i64 0) 8 38 (.tmp 35) (.tmp 37) rfl rfl rfl rfl rfl Tryd.underlying47 (by kernel_rfl) rfl (by decide) (fun _ => rfl) (fun _ => rfl) (Hfs2.out _ hb2).ow (.int .i64 r.weight) rfl r.weight (fun _ => False) HRw.out (fun _ h => h.elim) (n + 1) Hlw.out Hrw.out ⟨by decide, by decide⟩ (Hba.out _ hb2) ?_; intro A6 c6 w6 hown6 hg6; have ho6 := HH1 ((Hfs2.out _ hb2).oi1 hg6.out); have hz6 := Nat.le_trans (Hba.out _ hb2) hg6.out.bel.size)
     | ((with_reducible show wpList _ _ _ (Oper.mk (some 42) _ _ _ _ _ :: _) _ _); refine wpList_pushG (E := pI .i64) (xs := fitI cl.mod (rs.take k)) (v := .slice Ai n ci) (base := W0.heap.size) (G := fun _ => False) 47 3 (.int .i64 0) 8 42 (.tmp 40) (.tmp 41) rfl rfl rfl rfl rfl Tryd.underlying47 (by kernel_rfl) rfl (by decide) (fun _ => rfl) (fun _ => rfl) ho6.out (.int .i64 k) rfl (k : Int) (fun _ => False) HRi.out (fun _ h => h.elim) (n + 1) Hli.out Hri.out ⟨by decide, by decide⟩ hz6 ?_; intro A7' c7' w7 hown7 hg7))
    have hz7 := hg7.out.bel.size
    have hst := (Hfs2.out _ hb2).step hown6.out hg6.out hown7.out hg7.out
    have hbz := (Hb2'.out _ hb2).trans (hg6.out.bel.trans hg7.out.bel)
    obtain ⟨Hst, Hbz⟩ := HH2 hst hbz; clear hst hbz
    go_roundw
    case rel =>
     refine ⟨k + 1, n + 1, A6, A7', c6, c7', hlt, by go_num, rfl, rfl, by omega, Hn1, Hbz, by omega, ?_⟩
     unfold Hid; rw [E1.out, E2.out]; exact Hst.out
    case measure => simp [intOf]; omega
  case neg =>
   obtain rfl : k = rs.length := by omega
   rw [List.take_length] at hn hfs
   have hq0 := hblo.cell 0
   have y0 : wo.cell? ⟨w.heap.size, 0, none⟩ = some (.string cl.path) := (hblo.cell 0).trans rfl
   have y1 : wo.cell? ⟨w.heap.size, 1, none⟩ = some (.int .u8 cl.mod.name) := (hblo.cell 1).trans rfl
   have y2 : wo.cell? ⟨w.heap.size, 2, none⟩ = some (.slice D cl.mod.args.length d) := (hblo.cell 2).trans rfl
   clear hq0
   rcases pick_cases Hv.out s cl with ⟨hnil, hch, hpk⟩ | ⟨i, j, r, hi, hch, hij, hj, hfit, hpk⟩
   ·have hn0 : n = 0 := by have := hn.out; rw [hnil] at this; exact this.symm
    subst hn0
    have hres : succR rs s cl = ([cl], 0) := succR_none hpk
    have hsb : SlAt pMod (Old (wo.alloc (.cells #[.int .u8 cl.mod.name, .slice D cl.mod.args.length d] 49))) (wo.alloc (.cells #[.int .u8 cl.mod.name, .slice D cl.mod.args.length d] 49)) (some ⟨wo.heap.size, 0, none⟩) 1 [cl.mod] := by
     refine (sl_boxed (E := pMod) (F := Old wo) (u := .agg #[.int .u8 cl.mod.name, .slice D cl.mod.args.length d]) ⟨D, d, rfl, hf8, H'.out.later hbwo⟩ (fun q hq => hq)).wide ?_
     intro q hq
     rcases hq with hq | rfl
     ·have : q < wo.heap.size := hq
      unfold Old; simp; omega
     ·unfold Old; simp
    obtain ⟨W1, hW1⟩ : ∃ W1, W1 = wo.alloc (.cells #[.int .u8 cl.mod.name, .slice D cl.mod.args.length d] 49) := ⟨_, rfl⟩
    have hb1 : Below wo.heap.size wo W1 := by rw [hW1]; exact (Below.refl _ _).alloc (Nat.le_refl _) _
    have hz1 : wo.heap.size + 1 <= W1.heap.size := by rw [hW1]; simp
    rw [<- hW1] at hsb
    have hbl1 := hblo.same (hb1.block _ (by omega))
    have htw := twin_calls (some ⟨wo.heap.size, 0, none⟩) 1 [cl.mod] W1 hsb (by simp) (fun m' hm' => by simp at hm'; rw [hm']; have := Hargs.out.2; omega)
    have hbw1 : Below w.heap.size w W1 := hbwo.trans (hb1.mono (by omega))
    obtain ⟨Htw, Hb1, Hbl1, Hbw1, Hres, Hn, Hfs, Hnil, Hch, Hpk, Hblo, Hbwo⟩ := HH12 htw hb1 hbl1 hbw1 hres hn hfs hnil hch hpk hblo hbwo; clear htw hb1 hbl1 hbw1 hres hn hfs hnil hch hpk hblo hbwo
    have Hsb := HH1 hsb; clear hsb
    go_upto_region 10 with (first
     | (go_at_call 43; rw [<- hW1]; refine Htw.out.mono ?_; rintro e w2 ⟨A1, c1, rfl, hown2, hb2⟩; obtain ⟨g9, o9, D9, d9, rfl, x0, x1, hx9⟩ := twin_one hown2; have hbl2 := HH1 (Hbl1.out.same (hb2.block _ Hbl1.out.lt)); have Hx9 := HH1 hx9; clear hx9)
     | ((with_reducible show wpList _ _ _ (Oper.mk none _ _ _ _ _ :: _) _ _); refine wpList_storeAtH 49 (.tmp 54) (.tmp 53) 1 #[.string cl.path, .int .u8 cl.mod.name, .slice D cl.mod.args.length d] #[.int .u8 cl.mod.name, .slice D9 cl.mod.args.length d9] #[.string cl.path, .int .u8 cl.mod.name, .slice D9 cl.mod.args.length d9] rfl rfl rfl rfl hbl2.out (by kernel_rfl) (Nat.le_refl 3) (by simp [Value.oneCell']) rfl rfl ?_))
    have hz2 := hb2.size
    obtain ⟨W3, hW3⟩ : ∃ W3, W3 = w2.setRow w.heap.size #[.string cl.path, .int .u8 cl.mod.name, .slice D9 cl.mod.args.length d9] := ⟨_, rfl⟩
    have hbl3 : Blk W3 w.heap.size 51 #[.string cl.path, .int .u8 cl.mod.name, .slice D9 cl.mod.args.length d9] := by rw [hW3]; exact blk_row hbl2.out
    have hb3 : Below w.heap.size w W3 := by rw [hW3]; exact row_below (Hbw1.out.trans (hb2.mono (by omega))) (Nat.le_refl _) _
    have hz3 : w2.heap.size <= W3.heap.size := by rw [hW3]; simp
    have hx3 : SlAt (pI .i64) (fun q => W1.heap.size <= q /\ q < w2.heap.size) W3 D9 d9 cl.mod.args := by
     refine Hx9.out.keep fun q hq => ?_
     rw [hW3]
     exact setRow_other w2 _ q _ (by omega)
    rw [<- hW3]
    have y0 : W3.cell? ⟨w.heap.size, 0, none⟩ = some (.string cl.path) := (hbl3.cell 0).trans rfl
    have y1 : W3.cell? ⟨w.heap.size, 1, none⟩ = some (.int .u8 cl.mod.name) := (hbl3.cell 1).trans rfl
    have y2 : W3.cell? ⟨w.heap.size, 2, none⟩ = some (.slice D9 cl.mod.args.length d9) := (hbl3.cell 2).trans rfl
    have hfin : SlAt pCel (fun q => w.heap.size <= q /\ q < (W3.alloc (.cells #[.string cl.path, .int .u8 cl.mod.name, .slice D9 cl.mod.args.length d9] 51)).heap.size) (W3.alloc (.cells #[.string cl.path, .int .u8 cl.mod.name, .slice D9 cl.mod.args.length d9] 51)) (some ⟨W3.heap.size, 0, none⟩) 1 [cl] := by
     refine (sl_boxed (E := pCel) (F := fun q => W1.heap.size <= q /\ q < w2.heap.size) (x := cl) (u := .agg #[.string cl.path, .int .u8 cl.mod.name, .slice D9 cl.mod.args.length d9]) ⟨D9, d9, rfl, by unfold maxLen; omega, hf8, hx3⟩ (fun q hq => by omega)).wide ?_
     intro q hq
     have hzz : w.heap.size <= wo.heap.size := by omega
     rcases hq with hq | rfl
     ·simp; omega
     ·simp; omega
    have hb4 : Below w.heap.size w (W3.alloc (.cells #[.string cl.path, .int .u8 cl.mod.name, .slice D9 cl.mod.args.length d9] 51)) := hb3.alloc (by omega) _
    obtain ⟨Hbl3, Hb3, HW3, Hx3, Hfin, Hb4⟩ := HH6 hbl3 hb3 hW3 hx3 hfin hb4; clear hbl3 hb3 hW3 hx3 hfin hb4
    clear hown2 hb2 hbl2 x0 x1
    go_wp2
    go_ret2
    rw [Hres.out]
    exact ⟨_, 1, rfl, Hfin.out, Hb4.out⟩
   ·have hin : i < n := by have := hn.out; omega
    have hres : succR rs s cl = sucR r cl := succR_some hpk
    have hmem := List.mem_of_getElem? hj
    have hco1 := Hv.out.c r hmem
    have ho20 := Hv.out.o r hmem
    have hjl : j < rs.length := (List.getElem?_eq_some_iff.1 hj).1
    obtain ⟨hlw, hsw⟩ := own_fits hfs.out.ow
    obtain ⟨hli, hsi⟩ := own_fits hfs.out.oi
    have hch2 : chooseF s cl.path (fitW cl.mod rs) = ((i : Int), 0) := hch
    have hcc : Calls Tryd.prog 69 #[.int .i64 s, .string cl.path, .slice Aw n cw] wo fun e w' => e = .returned (.tuple #[.int .i64 i, .int .i64 0]) /\ Below wo.heap.size wo w' := by
     have := choose_calls s cl.path Aw cw (fitW cl.mod rs) wo Hs.out (by omega) hsw
     rw [hlw] at this
     refine this.mono ?_
     rintro e w' ⟨rfl, hb⟩
     rw [hch2]
     exact ⟨rfl, hb⟩
    obtain ⟨bi, oi, x, hdi, hAi, hobi, hci, _⟩ := hsi.getI (i := i) (by omega)
    have hxj : x = (j : Int) := by have h1 := get_of_drop hdi.out; rw [hij] at h1; exact (Option.some.inj h1).symm
    subst hxj
    subst hAi
    obtain ⟨hsum, hs4⟩ := fit_sums hco1 hfit Hargs.out
    have hforms : ∀ s ∈ r.out, ∀ f ∈ s.args, formF f cl.mod.args.length = true := fun s hs f hf => by
     have har : r.arity = (cl.mod.args.length : Int) := by
      unfold fitsF at hfit
      simp only [Bool.and_eq_true, beq_iff_eq] at hfit
      exact hfit.1.2
     have h1 := (fineR_guards hco1).2.2.2 s hs f hf
     rwa [har, Int.toNat_natCast] at h1
    have hok0 : madeOk r cl.mod = r.out.all (okS cl.mod.args) := rfl
    have hzw : w.heap.size < wo.heap.size := by omega
    have hn0 : (0 : Int) < (n : Int) := by omega
    have hi1 : (i : Int) < (n : Int) := by omega
    have hi0 : (0 : Int) <= (i : Int) := Int.natCast_nonneg _
    have hj0 : (0 : Int) <= (j : Int) := Int.natCast_nonneg _
    have hj1 : (j : Int) < (rs.length : Int) := by omega
    obtain ⟨Hcc, Hres, Hn, Hfs, Hch, Hpk, Hij, Hj, Hfit, Hch2, Hsw, Hsi⟩ := HH12 hcc hres hn hfs hch hpk hij hj hfit hch2 hsw hsi; clear hcc hres hn hfs hch hpk hij hj hfit hch2 hsw hsi
    obtain ⟨Hdi, Hlw, Hli, Hsum, Hs4, Hforms, Hok0, Hbwo, Hblo, Hci, Hco1⟩ := HH11 hdi hlw hli hsum hs4 hforms hok0 hbwo hblo hci hco1; clear hdi hlw hli hsum hs4 hforms hok0 hbwo hblo hci hco1
    go_upto_region 14 with (go_at_call 69; refine Hcc.out.mono ?_; rintro e w2 ⟨rfl, hb2⟩)
    have hz2 := hb2.size
    have hbw2 : Below w.heap.size w w2 := Hbwo.out.trans (hb2.mono (by omega))
    have hci2 : w2.cell? ⟨bi, oi + i, none⟩ = some (.int .i64 j) := (cell_keep (hb2.block bi hobi)).trans Hci.out
    have hbl2 := Hblo.out.same (hb2.block _ hzw)
    obtain ⟨b7, o7, A7, c7, A8, c8, r', hdr, hA7, hob7, k0, k1, k2, k3, k4, k5, k6, hat, hl1, hl8⟩ := (H.out.below hbw2).getRulAt hjl
    have hrr : r' = r := by have h1 := get_of_drop hdr.out; rw [Hj.out] at h1; exact (Option.some.inj h1).symm
    subst hrr
    subst hA7
    have hx2 : SlAt (pI .i64) (Old w) w2 D d cl.mod.args := H'.out.below hbw2
    have how0 : Own pCel 51 w2.heap.size (w2.heap.size <= ·) w2 (.slice none 0 0) ((sucL cl.path (madeL r' cl.mod)).take 0) := Own.nil
    obtain ⟨Hb2, Hbw2, Hbl2, Hat, Hdr, Hx2, How0⟩ := HH7 hb2 hbw2 hbl2 hat hdr hx2 how0; clear hb2 hbw2 hbl2 hat hdr hx2 how0
    clear k0 k1 k2 k3 k4 k5 y0 y1 y2
    go_wp2
    clear k6
    go_loopw [77, 14] (fun zq out wr => ∃ (q : Nat) (Aq : Option Addr) (cq : Nat), q <= r'.out.length /\ zq = .int .i64 q /\ out = .slice Aq q cq /\ Hid (Below w2.heap.size w2 wr) /\ w2.heap.size <= wr.heap.size /\ Hid (madeOk r' cl.mod = (r'.out.drop q).all (okS cl.mod.args)) /\
     Hid (Own pCel 51 w2.heap.size (w2.heap.size <= ·) wr (.slice Aq q cq) ((sucL cl.path (madeL r' cl.mod)).take q))) (fun zq _ _ => r'.out.length - (intOf zq).toNat)
    case atStart => exact ⟨0, none, 0, Nat.zero_le _, rfl, rfl, Below.refl _ _, Nat.le_refl _, Hok0, How0⟩
    case round =>
     obtain ⟨q, Aq, cq, hq, rfl, rfl, hb4, hsz4, hall4, hown4⟩ := hrel
     obtain ⟨wi, rfl⟩ : ∃ wi : World, wi = wr := ⟨_, rfl⟩
     have hbwi : Below w.heap.size w wi := Hbw2.out.trans (hb4.out.mono (by omega))
     by_cases hlq : q < r'.out.length
     case neg =>
      obtain rfl : q = r'.out.length := by omega
      have hok1 : madeOk r' cl.mod = true := by rw [hall4.out, List.drop_length]; rfl
      have hLl : (sucL cl.path (madeL r' cl.mod)).length = r'.out.length := by rw [sucL_len, madeL_len]
      have hown5 := hown4.out
      rw [List.take_of_length_le (by omega)] at hown5
      obtain ⟨L, hL⟩ : ∃ L, sucL cl.path (madeL r' cl.mod) = L := ⟨_, rfl⟩
      rw [hL] at hLl hown5
      obtain ⟨Az, cz, ez, hslz⟩ := hown5.fresh
      injection ez with ez1 ez2 ez3
      subst ez1 ez3
      have hlong : shortL L = false -> sucR r' cl = ([], 4) := fun h => sucR_long hok1 (by rw [hL]; exact h)
      have hfine2 : shortL L = true -> sucR r' cl = (L, 0) := fun h => by rw [sucR_ok hok1 (by rw [hL]; exact h), hL]
      have hsl0 : shortL L = shortL (L.drop 0) := rfl
      obtain ⟨Hok1, HL, Hown5, Hslz, Hlong, Hfine2, HLl, Hsl0, Hbwi⟩ := HH9 hok1 hL hown5 hslz hlong hfine2 hLl hsl0 hbwi; clear hok1 hL hown5 hslz hlong hfine2 hLl hsl0 hbwi
      clear hall4 hown4
      go_wp2
      go_loopw [124] (fun z wr => ∃ k2 : Nat, k2 <= r'.out.length /\ z = .int .i64 k2 /\ Hid (Below wi.heap.size wi wr) /\ wi.heap.size <= wr.heap.size /\ Hid (shortL L = shortL (L.drop k2))) (fun z _ => r'.out.length - (intOf z).toNat)
      case atStart => exact ⟨0, Nat.zero_le _, rfl, Below.refl _ _, Nat.le_refl _, Hsl0⟩
      case round =>
       obtain ⟨k2, hk2, rfl, hbq, hzq, hsh⟩ := hrel
       obtain ⟨wq, rfl⟩ : ∃ wq : World, wq = wr := ⟨_, rfl⟩
       have hbwq : Below w.heap.size w wq := Hbwi.out.trans (hbq.out.mono (by omega))
       by_cases hlt2 : k2 < r'.out.length
       case pos =>
        have hLk : k2 < L.length := by have := HLl.out; omega
        have hslq : SlAt pCel (fun x => w2.heap.size <= x /\ x < wi.heap.size) wq Aq cq L := Hslz.out.keep fun x hx => hbq.out.block x hx.2
        obtain ⟨b3, o3, D3, d3, x3, hd3, hA3, hob3, u0, u1, u2, hps3, hf3, hxa3, hxl3⟩ := hslq.getCel hLk
        subst hA3
        have hob3w : b3 < wq.heap.size := by omega
        have hk0 : (0 : Int) <= (k2 : Int) := Int.natCast_nonneg _
        have hk1 : (k2 : Int) < (r'.out.length : Int) := by omega
        have hbq2 : Below wi.heap.size wi (wq.alloc (.cells #[.string x3.path, .int .u8 x3.mod.name, .slice D3 x3.mod.args.length d3] 51)) := hbq.out.alloc (by omega) _
        have hbq3 : Below w.heap.size w (wq.alloc (.cells #[.string x3.path, .int .u8 x3.mod.name, .slice D3 x3.mod.args.length d3] 51)) := hbwq.alloc (by omega) _
        by_cases hl3 : 200 < x3.path.size
        ·have hno : shortL L = false := by rw [hsh.out, hd3.out]; unfold shortL; rw [List.all_cons, decide_eq_false (by omega)]; rfl
         have hf := Hlong.out hno
         obtain ⟨Hno, Hf, Hbq3, Hslq, Hd3, Hxa3, Hbq2⟩ := HH7 hno hf hbq3 hslq hd3 hxa3 hbq2; clear hno hf hbq3 hslq hd3 hxa3 hbq2
         go_wp2
         go_ret2
         exact celsPost_none (Hres.out.trans Hf.out) Hbq3.out
        ·have hn : shortL L = shortL (L.drop (k2 + 1)) := by rw [hsh.out, hd3.out]; unfold shortL; rw [List.all_cons, decide_eq_true (by omega)]; simp
         obtain ⟨Hn, Hbq3, Hbq2, Hslq, Hd3, Hxa3⟩ := HH6 hn hbq3 hbq2 hslq hd3 hxa3; clear hn hbq3 hbq2 hslq hd3 hxa3
         go_wp2
         go_roundw
         case rel => exact ⟨k2 + 1, by omega, by go_num, Hbq2, by simp; omega, Hn⟩
         case measure => simp [intOf]; omega
       case neg =>
        have hyes : shortL L = true := by rw [hsh.out, drop_end (by have := HLl.out; omega)]; rfl
        have hf := Hfine2.out hyes
        have hslq : SlAt pCel (fun x => w.heap.size <= x /\ x < wq.heap.size) wq Aq cq L := (Hslz.out.keep fun x hx => hbq.out.block x hx.2).wide fun x hx => by omega
        obtain ⟨Hf, Hslq, Hbwq, Hyes⟩ := HH4 hf hslq hbwq hyes; clear hf hslq hbwq hyes
        go_wp2
        go_ret2
        rw [Hres.out, Hf.out]
        refine ⟨Aq, cq, ?_, Hslq.out, Hbwq.out⟩
        show Ending.returned (.tuple #[.slice Aq r'.out.length cq, .int .i64 0]) = _
        rw [HLl.out]
     case pos =>
      obtain ⟨b8, o8, As, cs, sp, hds, hA8, hob8, s0, s1, hs8, hsa, hsl⟩ := (Hat.out.out.so.keep (w' := wi) fun x hx => hb4.out.block x (by have : x < w.heap.size := hx; omega)).getShp hlq
      subst hA8
      have hob8w : b8 < w.heap.size := hob8
      have hob8i : b8 < wi.heap.size := by omega
      have hsm := mem_of_drop hds.out
      have hl4 := Hs4.out sp hsm
      have hgetq : (madeL r' cl.mod)[q]? = some (outF cl.mod.args sp).1 := by unfold madeL; rw [List.getElem?_map, get_of_drop hds.out]; rfl
      have htk := sucL_take (p := cl.path) hgetq
      have hlxq : ((sucL cl.path (madeL r' cl.mod)).take q).length = q := by rw [List.length_take, sucL_len, madeL_len]; omega
      obtain ⟨wq0, hwq⟩ : ∃ wq, wq = (wi.alloc (.cells #[.int .u8 sp.name, .slice As sp.args.length cs] 72)).alloc (.cells #[.int .u8 sp.name, .slice none 0 0] 49) := ⟨_, rfl⟩
      have hbq0 : Below wi.heap.size wi wq0 := by rw [hwq]; exact ((Below.refl _ _).alloc (Nat.le_refl _) _).alloc (by simp) _
      have hzq0 : wi.heap.size + 2 <= wq0.heap.size := by rw [hwq]; simp
      have hbm0 : Blk wq0 (wi.heap.size + 1) 49 #[.int .u8 sp.name, .slice none 0 0] := by
       rw [hwq]
       have := Blk.new (wi.alloc (.cells #[.int .u8 sp.name, .slice As sp.args.length cs] 72)) 49 #[.int .u8 sp.name, .slice none 0 0]
       rwa [show (wi.alloc (.cells #[.int .u8 sp.name, .slice As sp.args.length cs] 72)).heap.size = wi.heap.size + 1 from by simp] at this
      have how0 : Own (pI .i64) 3 (wi.heap.size + 2) (fun _ => False) wq0 (.slice none 0 0) ((sp.args.take 0).map fun f => worthF f cl.mod.args) := Own.nil
      have hhs : okS cl.mod.args sp = (sp.args.drop 0).all fun f => argOk (worthF f cl.mod.args) := rfl
      have hq0 : (0 : Int) <= (q : Int) := Int.natCast_nonneg _
      have hq1 : (q : Int) < (r'.out.length : Int) := by omega
      obtain ⟨Hsm, Hbq0, Hbm0, How0, Hds, Hhs, Htk, Hlxq, Hbwi, Hgetq⟩ := HH10 hsm hbq0 hbm0 how0 hds hhs htk hlxq hbwi hgetq; clear hsm hbq0 hbm0 how0 hds hhs htk hlxq hbwi hgetq
      go_wp2
      rw [<- hwq]
      have Hwq := HH1 hwq; clear hwq
      clear s0 s1
      go_loopw [88] (fun z wr => ∃ (k3 : Nat) (Dv : Option Addr) (dv : Nat), k3 <= sp.args.length /\ z = .int .i64 k3 /\ Hid (Below wi.heap.size wi wr) /\ wi.heap.size + 2 <= wr.heap.size /\ Hid (Blk wr (wi.heap.size + 1) 49 #[.int .u8 sp.name, .slice Dv k3 dv]) /\
       Hid (okS cl.mod.args sp = (sp.args.drop k3).all fun f => argOk (worthF f cl.mod.args)) /\
       Hid (Own (pI .i64) 3 (wi.heap.size + 2) (fun _ => False) wr (.slice Dv k3 dv) ((sp.args.take k3).map fun f => worthF f cl.mod.args))) (fun z _ => sp.args.length - (intOf z).toNat)
      case atStart => exact ⟨0, none, 0, Nat.zero_le _, rfl, Hbq0, hzq0, Hbm0, Hhs, How0⟩
      case round =>
       obtain ⟨k3, Dv, dv, hk3m, rfl, hbq, hzq, hbm, hoks, how⟩ := hrel
       obtain ⟨wq, rfl⟩ : ∃ wq : World, wq = wr := ⟨_, rfl⟩
       have hbq2 : Below w2.heap.size w2 wq := hb4.out.trans (hbq.out.mono hsz4)
       have hbwq : Below w.heap.size w wq := Hbw2.out.trans (hbq2.mono (by omega))
       have m0 := hbm.out.cell 0
       have m1 := hbm.out.cell 1
       have hblq := Hbl2.out.same (hbq2.block _ (by omega))
       by_cases hlt3 : k3 < sp.args.length
       case neg =>
        obtain rfl : k3 = sp.args.length := by omega
        have how' := how.out
        rw [List.take_length] at how'
        have hok1 : okS cl.mod.args sp = true := by rw [hoks.out, List.drop_length]; rfl
        obtain ⟨A3, c9, e3, hsl3⟩ := (how'.flat (pI_flat _) (G' := (wi.heap.size + 2 <= ·))).fresh
        rw [List.length_map] at e3
        injection e3 with e31 e32 e33
        subst e31 e33
        obtain ⟨it, hit⟩ : ∃ it, itoaB q = it := ⟨_, rfl⟩
        have his : it.size <= 21 := by rw [<- hit]; exact itoaB_size (by omega)
        obtain ⟨mo, hmo⟩ : ∃ mo, (outF cl.mod.args sp).1 = mo := ⟨_, rfl⟩
        have hmn : mo.name = sp.name := by rw [<- hmo]; rfl
        have hma : mo.args = sp.args.map fun f => worthF f cl.mod.args := by rw [<- hmo]; rfl
        have hsub : subP cl.path q = cl.path ++ ⟨#[47]⟩ ++ it := by unfold subP slash; rw [hit]
        have hcall : Calls Tryd.prog 44 #[.int .i64 q] wq.drew fun e w' => e = .returned (.string it) /\ Below wq.heap.size wq w' := by
         refine (itoaC_calls q wq.drew (by omega) ((Ht.out.later hbwq Hg.out).later (below_drew (Below.refl _ _)) (Hg.out.later hbwq))).mono ?_
         rintro e w' ⟨rfl, hb'⟩
         exact ⟨by rw [hit], (below_drew (Below.refl _ _)).trans hb'⟩
        have howq : Own pCel 51 w2.heap.size (w2.heap.size <= ·) wq (.slice Aq q cq) ((sucL cl.path (madeL r' cl.mod)).take q) := hown4.out.later hbq.out
        have step2 : ∀ wv : World, Below wq.heap.size wq wv ->
          Own pCel 51 w2.heap.size (w2.heap.size <= ·) (wv.alloc (.cells #[.string (cl.path ++ ⟨#[47]⟩ ++ it), .int .u8 sp.name, .slice Dv sp.args.length dv] 51)) (.slice Aq q cq) ((sucL cl.path (madeL r' cl.mod)).take q) /\
          SlAt pCel (fun x => (wi.heap.size + 2 <= x /\ x < wq.heap.size) ∨ x = wv.heap.size) (wv.alloc (.cells #[.string (cl.path ++ ⟨#[47]⟩ ++ it), .int .u8 sp.name, .slice Dv sp.args.length dv] 51)) (some ⟨wv.heap.size, 0, none⟩) 1 [⟨subP cl.path q, mo⟩] := by
         intro wv hv
         have hzv := hv.size
         refine ⟨(howq.later hv).alloc _, ?_⟩
         refine sl_boxed (E := pCel) (u := .agg #[.string (cl.path ++ ⟨#[47]⟩ ++ it), .int .u8 sp.name, .slice Dv sp.args.length dv]) (F := fun x => wi.heap.size + 2 <= x /\ x < wq.heap.size) ⟨Dv, dv, ?_, ?_, ?_, ?_⟩ fun x hx => Nat.lt_of_lt_of_le hx.2 hzv
         ·show [_, _, _] = [_, _, _]
          rw [hsub, hmn, hma, List.length_map]
         ·show (subP cl.path q).size <= maxLen
          rw [subP_size, hit]
          unfold maxLen
          have := hp
          omega
         ·show Fits .u8 mo.name
          rw [hmn]; exact hs8
         ·show SlAt (pI .i64) _ _ _ _ mo.args
          rw [hma]
          exact hsl3.keep fun x hx => hv.block x hx.2
        have hFq : ∀ wv : World, Below wq.heap.size wq wv -> ∀ x, ((wi.heap.size + 2 <= x /\ x < wq.heap.size) ∨ x = wv.heap.size) -> w2.heap.size <= x /\ x < (wv.alloc (.cells #[.string (cl.path ++ ⟨#[47]⟩ ++ it), .int .u8 sp.name, .slice Dv sp.args.length dv] 51)).heap.size /\ some x ≠ (Value.slice Aq q cq).ownBlock := fun wv hv x hx => by
         have hz := hv.size
         rcases hx with hx | rfl
         ·refine ⟨by omega, by simp; omega, fun he => ?_⟩
          have := (hown4.out.lt x he.symm).2
          omega
         ·refine ⟨by omega, by simp, fun he => ?_⟩
          have := (hown4.out.lt _ he.symm).2
          omega
        have hB : ∀ wv : World, Below wq.heap.size wq wv -> w2.heap.size <= (wv.alloc (.cells #[.string (cl.path ++ ⟨#[47]⟩ ++ it), .int .u8 sp.name, .slice Dv sp.args.length dv] 51)).heap.size := fun wv hv => by
         have hz := hv.size
         simp; omega
        have hlk : ((sucL cl.path (madeL r' cl.mod)).take q ++ [(⟨subP cl.path q, mo⟩ : Cel)]).length = q + 1 := by rw [List.length_append, Hlxq.out]; rfl
        have hrk : Room (q + 1) := room_of (by omega)
        have htk2 : (sucL cl.path (madeL r' cl.mod)).take (q + 1) = (sucL cl.path (madeL r' cl.mod)).take q ++ [⟨subP cl.path q, mo⟩] := by rw [Htk.out, hmo]
        have kp1 : ∀ wv : World, Below wq.heap.size wq wv -> wv.cell? ⟨wi.heap.size + 1, 0, none⟩ = some (.int .u8 sp.name) /\ wv.cell? ⟨wi.heap.size + 1, 1, none⟩ = some (.slice Dv sp.args.length dv) /\ wv.cell? ⟨w.heap.size, 0, none⟩ = some (.string cl.path) := fun wv hv =>
         ⟨((hbm.out.same (hv.block _ hbm.out.lt)).cell 0).trans rfl, ((hbm.out.same (hv.block _ hbm.out.lt)).cell 1).trans rfl, ((hblq.same (hv.block _ hblq.lt)).cell 0).trans rfl⟩
        have kp2 : ∀ (wv wz : World) (ob : Obj) (v' : Value), Below wq.heap.size wq wv -> Hid (Grew w2.heap.size (wv.alloc ob) wz (.slice Aq q cq) v') -> wz.cell? ⟨wi.heap.size + 1, 0, none⟩ = some (.int .u8 sp.name) /\ wz.cell? ⟨wi.heap.size + 1, 1, none⟩ = some (.slice Dv sp.args.length dv) /\ wz.cell? ⟨w.heap.size, 0, none⟩ = some (.string cl.path) := fun wv wz ob v' hv hgz => by
         have hz := hv.size
         have hltm := hbm.out.lt
         have hltc := hblq.lt
         have e1 : wz.heap[wi.heap.size + 1]? = wq.heap[wi.heap.size + 1]? := ((hgz.out.oth _ (by simp; omega) fun he => by have := (hown4.out.lt _ he.symm).2; omega).trans (Below.heap_alloc _ _ _ (by omega))).trans (hv.block _ hltm)
         have e2 : wz.heap[w.heap.size]? = wq.heap[w.heap.size]? := ((hgz.out.oth _ (by simp; omega) fun he => by have := (hown4.out.lt _ he.symm).1; omega).trans (Below.heap_alloc _ _ _ (by omega))).trans (hv.block _ hltc)
         exact ⟨((hbm.out.same e1).cell 0).trans rfl, ((hbm.out.same e1).cell 1).trans rfl, ((hblq.same e2).cell 0).trans rfl⟩
        have hrest : ∀ (wv wz : World) (ob : Obj) (v' : Value), Below wq.heap.size wq wv -> Hid (Grew w2.heap.size (wv.alloc ob) wz (.slice Aq q cq) v') -> Below w2.heap.size w2 wz := fun wv wz ob v' hv hgz =>
         ((hbq2.trans (hv.mono (by omega))).alloc (by have := hv.size; omega) _).trans hgz.out.bel
        have hq1' : ¬ (9223372036854775807 < cl.path.size + 1) := by omega
        have hq2' : ¬ (9223372036854775807 < cl.path.size + 1 + it.size) := by omega
        have hnext : madeOk r' cl.mod = (r'.out.drop (q + 1)).all (okS cl.mod.args) := by rw [hall4.out, Hds.out, List.all_cons, hok1]; rfl
        have y0 : wq.cell? ⟨w.heap.size, 0, none⟩ = some (.string cl.path) := (hblq.cell 0).trans rfl
        have m0' : wq.cell? ⟨wi.heap.size + 1, 0, none⟩ = some (.int .u8 sp.name) := (hbm.out.cell 0).trans rfl
        have m1' : wq.cell? ⟨wi.heap.size + 1, 1, none⟩ = some (.slice Dv sp.args.length dv) := (hbm.out.cell 1).trans rfl
        obtain ⟨Hcall, Step2, HFq, HB, Hlk, Hrk, Htk2, Kp1, Kp2, Hrest, Hnext, Hok1⟩ := HH12 hcall step2 hFq hB hlk hrk htk2 kp1 kp2 hrest hnext hok1; clear hcall step2 hFq hB hlk hrk htk2 kp1 kp2 hrest hnext hok1
        obtain ⟨Hsub, Hmn, Hma, Hit, Hmo, Howq, Hsl3, Hblq, Hbq2, Hbwq⟩ := HH10 hsub hmn hma hit hmo howq hsl3 hblq hbq2 hbwq; clear hsub hmn hma hit hmo howq hsl3 hblq hbq2 hbwq
        clear how' m0 m1
        go_upto_region 27 with fail
        go_region_held3 (fun w' => w'.cell? ⟨wi.heap.size + 1, 0, none⟩ = some (.int .u8 sp.name) /\ w'.cell? ⟨wi.heap.size + 1, 1, none⟩ = some (.slice Dv sp.args.length dv) /\ w'.cell? ⟨w.heap.size, 0, none⟩ = some (.string cl.path))
         (first | go_keep | exact Kp1.out _ hbv | exact Kp2.out _ _ _ _ hbv hgz)
         (first
          | (go_at_call 44; with_reducible refine Hcall.out.mono ?_; rintro e wv ⟨rfl, hbv⟩)
          | (refine step_catG (E := pCel) (xs := (sucL cl.path (madeL r' cl.mod)).take q) (base := w2.heap.size) (G := (w2.heap.size <= ·)) 26 51 (.agg #[.string ByteArray.empty, .int .u8 0, .slice none 0 0]) 48 (.tmp 110) (.tmp 119) rfl rfl Tryd.underlying26 info_cel rfl (by decide) rfl (Step2.out _ hbv).1 _ 1 [⟨subP cl.path q, mo⟩] rfl _ (Step2.out _ hbv).2 (HFq.out _ hbv) (q + 1) Hlk.out Hrk.out (by decide) (HB.out _ hbv) ?_; intro Az cz wz hoz hgz))
        all_goals
         have hbz := Hrest.out _ _ _ _ hbv hgz
         have hzz := hbz.size
         have Hbz := HH1 hbz; clear hbz
         clear Step2 Kp1 Kp2 hbv hgz HB HFq Hrest
         go_wp2
         go_roundw
         case rel =>
          refine ⟨q + 1, Az, cz, hlq, by go_num, rfl, Hbz, hzz, Hnext, ?_⟩
          unfold Hid; rw [Htk2.out]; exact hoz.out
         case measure => simp [intOf]; omega
       case pos =>
        obtain ⟨b6, o6, A6, c6, f, hdf, hAf, hob6, f0, f1, hfc6, hfa, hfl⟩ := (hsa.out.keep (w' := wq) fun x hx => hbq.out.block x (by have : x < w.heap.size := hx; omega)).getFrm hlt3
        subst hAf
        have hob6w : b6 < w.heap.size := hob6
        have hob6q : b6 < wq.heap.size := by omega
        have hok := Hsum.out sp Hsm.out f (mem_of_drop hdf.out)
        have hvf : valueF f cl.mod.args = if worthF f cl.mod.args < -1000000000 ∨ 1000000000 < worthF f cl.mod.args then (0, 16) else (worthF f cl.mod.args, 0) := valueF_ok hok (Hforms.out sp Hsm.out f (mem_of_drop hdf.out))
        have hbd := worth_bd hok
        obtain ⟨wx, hwx⟩ : ∃ wx, wx = wq.alloc (.cells #[.int .i64 f.const, .slice A6 f.coefs.length c6] 70) := ⟨_, rfl⟩
        have hbx : Below wq.heap.size wq wx := by rw [hwx]; exact (Below.refl _ _).alloc (Nat.le_refl _) _
        have hzx : wq.heap.size + 1 <= wx.heap.size := by rw [hwx]; simp
        have hbf : Blk wx wq.heap.size 70 #[.int .i64 f.const, .slice A6 f.coefs.length c6] := by rw [hwx]; exact Blk.new _ _ _
        have hbwx : Below w.heap.size w wx := hbwq.trans (hbx.mono (by omega))
        have haq : SlAt (pI .i64) (Old wx) wx D d cl.mod.args := H'.out.later hbwx
        have hcq : SlAt (pI .i64) (Old wx) wx A6 c6 f.coefs := (hfa.out.keep fun x hx => hbx.block x (by have : x < w.heap.size := hx; omega)).wide fun x hx => by have : x < w.heap.size := hx; show x < _; omega
        have v0 : wx.cell? ⟨wq.heap.size, 0, none⟩ = some (.int .i64 f.const) := (hbf.cell 0).trans rfl
        have v1 : wx.cell? ⟨wq.heap.size, 1, none⟩ = some (.slice A6 f.coefs.length c6) := (hbf.cell 1).trans rfl
        have u2 : wx.cell? ⟨w.heap.size, 2, none⟩ = some (.slice D cl.mod.args.length d) := ((hblq.same (hbx.block _ (by omega))).cell 2).trans rfl
        have hk30 : (0 : Int) <= (k3 : Int) := Int.natCast_nonneg _
        have hk31 : (k3 : Int) < (sp.args.length : Int) := by omega
        have hcall := value_calls A6 c6 f D d cl.mod.args wx hcq haq hfc6
        obtain ⟨v, hvv⟩ : ∃ v, worthF f cl.mod.args = v := ⟨_, rfl⟩
        rw [hvv] at hbd hvf
        have hstep : okS cl.mod.args sp = (argOk v && (sp.args.drop (k3 + 1)).all fun f => argOk (worthF f cl.mod.args)) := by rw [hoks.out, hdf.out, List.all_cons, hvv]
        have hvs : (sp.args.take (k3 + 1)).map (fun f => worthF f cl.mod.args) = (sp.args.take k3).map (fun f => worthF f cl.mod.args) ++ [v] := by
         rw [take_of_drop hdf.out, List.map_append, List.map_singleton, hvv]
        obtain ⟨Hok, Hvv, Hstep, Hvs, Hbx, Hbf, Hbwx, Haq, Hcq, Hbq2, Hblq, Hbwq⟩ := HH12 hok hvv hstep hvs hbx hbf hbwx haq hcq hbq2 hblq hbwq; clear hok hvv hstep hvs hbx hbf hbwx haq hcq hbq2 hblq hbwq
        obtain ⟨Hdf, Hfa, V0, V1, U2⟩ := HH5 hdf hfa v0 v1 u2; clear hdf hfa v0 v1 u2
        clear m0 m1
        go_upto_region 22 with fail
        rw [<- hwx]
        have Hwx := HH1 hwx; clear hwx
        have v0 := V0.out
        have v1 := V1.out
        have u2 := U2.out
        clear f0 f1
        by_cases hbad : v < -1000000000 ∨ 1000000000 < v
        ·rw [if_pos hbad] at hvf
         have hcc2 : Calls Tryd.prog 70 #[.agg #[.int .i64 f.const, .slice A6 f.coefs.length c6], .slice D cl.mod.args.length d] wx fun e w' => e = .returned (.tuple #[.int .i64 0, .int .i64 16]) /\ Below wx.heap.size wx w' := by
          refine hcall.mono ?_
          rintro e w' ⟨rfl, hb⟩
          rw [hvf]
          exact ⟨rfl, hb⟩
         have hno : madeOk r' cl.mod = false := by rw [hall4.out, Hds.out, List.all_cons, Hstep.out, argOk_no hbad]; rfl
         have hst := sucR_not hno
         obtain ⟨Hcc2, Hst, Hno⟩ := HH3 hcc2 hst hno; clear hcc2 hst hno
         clear hvf hbad hcall
         go_wp2_with (go_at_call 70; refine Hcc2.out.mono ?_; rintro e w5 ⟨rfl, hb5⟩)
         go_ret2
         exact celsPost_none (Hres.out.trans Hst.out) (Hbwx.out.trans (hb5.mono (by omega)))
        ·rw [if_neg hbad] at hvf
         have hcc2 : Calls Tryd.prog 70 #[.agg #[.int .i64 f.const, .slice A6 f.coefs.length c6], .slice D cl.mod.args.length d] wx fun e w' => e = .returned (.tuple #[.int .i64 v, .int .i64 0]) /\ Below wx.heap.size wx w' := by
          refine hcall.mono ?_
          rintro e w' ⟨rfl, hb⟩
          rw [hvf]
          exact ⟨rfl, hb⟩
         have hoky := argOk_yes (x := v) (by omega) (by omega)
         have hv64 : -1000000000 <= v /\ v <= 1000000000 := by omega
         obtain ⟨Hcc2, Hoky⟩ := HH2 hcc2 hoky; clear hcc2 hoky
         clear hvf hbad hcall
         go_upto_region 25 with (go_at_call 70; refine Hcc2.out.mono ?_; rintro e w5 ⟨rfl, hb5⟩)
         have hz5 := hb5.size
         have hbxr : Below wq.heap.size wq w5 := Hbx.out.trans (hb5.mono (by omega))
         have hbp5 : Below wi.heap.size wi w5 := hbq.out.trans (hbxr.mono (by omega))
         have hbm5 := hbm.out.same (hbxr.block _ (by omega))
         have how5 := how.out.later hbxr
         have hln5 : ((sp.args.take k3).map fun f => worthF f cl.mod.args).length + 1 = k3 + 1 := by rw [List.length_map, List.length_take]; omega
         have hrm5 : Room ((sp.args.take k3).map fun f => worthF f cl.mod.args).length := room_of (by rw [List.length_map, List.length_take]; omega)
         have hba5 : wi.heap.size + 2 <= w5.heap.size := by omega
         have hlt5 : wi.heap.size + 1 < w5.heap.size := by omega
         have hne5 : some (wi.heap.size + 1) ≠ (Value.slice Dv k3 dv).ownBlock := fun he => by have := how.out.lt _ he.symm; omega
         have hRv : (pI .i64).R (fun _ => False) w5 (Value.int .i64 v).cells.toList v := ⟨rfl, fits_i64 (by omega)⟩
         have m1 : w5.cell? ⟨wi.heap.size + 1, 1, none⟩ = some (.slice Dv k3 dv) := (hbm5.cell 1).trans rfl
         obtain ⟨Hbp5, Hbm5, How5, Hln5, Hrm5, Hne5, HRv, Hbxr⟩ := HH8 hbp5 hbm5 how5 hln5 hrm5 hne5 hRv hbxr; clear hbp5 hbm5 how5 hln5 hrm5 hne5 hRv hbxr
         clear v0 v1 u2 hb5
         go_wp2_with ((with_reducible show wpList _ _ _ (Oper.mk (some 106) _ _ _ _ _ :: _) _ _); refine wpList_pushG (E := pI .i64) (xs := (sp.args.take k3).map fun f => worthF f cl.mod.args) (v := .slice Dv k3 dv) (base := wi.heap.size + 2) (G := fun _ => False) 47 3 (.int .i64 0) 8 106 (.tmp 104) (.tmp 105) rfl rfl rfl rfl rfl Tryd.underlying47 (by kernel_rfl) rfl (by decide) (fun _ => rfl) (fun _ => rfl) How5.out (.int .i64 v) rfl v (fun _ => False) HRv.out (fun _ h => h.elim) (k3 + 1) Hln5.out Hrm5.out ⟨by decide, by decide⟩ hba5 ?_; intro A10 c10 w7 hown7 hg7; have hbm7 := Hbm5.out.same (hg7.out.oth _ hlt5 Hne5.out); have x7 := hbm7.cell 1; have f7 := hbm7.free 1; have Hbm7 := HH1 hbm7; clear hbm7)
         go_roundw
         case rel =>
          have hz7 := hg7.out.bel.size
          have hs7 : (w7.setCell ⟨wi.heap.size + 1, 1, none⟩ (.slice A10 (k3 + 1) c10)).heap.size = w7.heap.size := by simp [World.setCell]
          refine ⟨k3 + 1, A10, c10, hlt3, by go_num, ?_, by omega, ?_, ?_, ?_⟩
          ·exact (Hbp5.out.trans (hg7.out.bel.mono (by omega))).setCell (by show wi.heap.size <= wi.heap.size + 1; omega) _
          ·have := Hbm7.out.set 1 (.slice A10 (k3 + 1) c10)
           unfold Hid
           simpa using this
          ·unfold Hid; rw [Hstep.out, Hoky.out]; rfl
          ·unfold Hid
           rw [Hvs.out]
           refine hown7.out.keepG (fun x hx hG => Below.heap_setCell _ _ _ _ ?_) (by omega)
           rcases hG with hG | hG
           ·exact hG.elim
           ·have := hown7.out.lt x hG
            show x ≠ wi.heap.size + 1
            omega
         case measure => simp [intOf]; omega
end
section
open Go.RowKit Go.Sort Go.BigFrame
end
end Go.Proofs.YtlipmagkplbkdaaDoor
