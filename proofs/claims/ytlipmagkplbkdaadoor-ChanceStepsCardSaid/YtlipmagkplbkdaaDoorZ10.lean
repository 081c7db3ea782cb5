/-
  Several texts in one.
-/
import Derived.Test.YtlipmagkplbkdaaDoorZ9
import Derived.Test.YtlipmagkplbkdaaDoorZ8
import Derived.Test.YtlipmagkplbkdaaDoorZ7
/-! L3 -/
namespace Go.Proofs.YtlipmagkplbkdaaDoor
open Go.RowKit Go.Sort Go.BigFrame
set_option linter.unusedVariables false
set_option linter.unusedSimpArgs false
structure FitS (B : Nat) (w : World) (Aw : Option Addr) (cw : Nat) (Ai : Option Addr) (ci n : Nat) (ws is : List Int) : Prop where
  ow : Own (pI .i64) 3 B (fun _ => False) w (.slice Aw n cw) ws
  oi : Own (pI .i64) 3 B (fun _ => False) w (.slice Ai n ci) is
  d : ∀ q, (Value.slice Aw n cw).ownBlock = some q → (Value.slice Ai n ci).ownBlock ≠ some q
section
variable {B : Nat} {w w' : World} {Aw Ai : Option Addr} {cw ci n : Nat} {ws is : List Int}
theorem FitS.later (h : FitS B w Aw cw Ai ci n ws is) (hb : Below w.heap.size w w') : FitS B w' Aw cw Ai ci n ws is := ⟨h.ow.later hb, h.oi.later hb, h.d⟩
theorem FitS.oi1 (h : FitS B w Aw cw Ai ci n ws is) {v' : Value} {b : Nat} (hg : Grew b w w' (.slice Aw n cw) v') : Own (pI .i64) 3 B (fun _ => False) w' (.slice Ai n ci) is :=
  h.oi.beside hg fun k hk => ⟨fun hf => hf, h.d k hk⟩
theorem FitS.step (h : FitS B w Aw cw Ai ci n ws is) {A6 A7 : Option Addr} {c6 c7 n6 b : Nat} {w6 w7 : World} {ws' is' : List Int} (h6 : Own (pI .i64) 3 B (fun _ => False) w6 (.slice A6 n6 c6) ws') (hg6 : Grew b w w6 (.slice Aw n cw) (.slice A6 n6 c6))
    (h7 : Own (pI .i64) 3 B (fun _ => False) w7 (.slice A7 n6 c7) is') (hg7 : Grew b w6 w7 (.slice Ai n ci) (.slice A7 n6 c7)) : FitS B w7 A6 c6 A7 c7 n6 ws' is' := by
  have hd : ∀ k, (Value.slice Ai n ci).ownBlock = some k → (Value.slice A6 n6 c6).ownBlock ≠ some k := fun k hk he => by
    rcases hg6.blk with e | ⟨k', e, hk'⟩
    · rw [e] at he; exact h.d k he hk
    · rw [e] at he
      injection he with he
      have := (h.oi.lt k hk).2
      omega
  refine ⟨h6.beside hg7 fun k hk => ⟨fun hf => hf, hd k hk⟩, h7, fun q hq he => ?_⟩
  rcases hg7.blk with e | ⟨k', e, hk'⟩
  · rw [e] at he; exact hd q he hq
  · rw [e] at he
    injection he with he
    have := (h6.lt q hq).2
    omega
end
def CelsPost (r : List Cel × Int) (w : World) (e : Ending) (w' : World) : Prop := ∃ A c, e = .returned (.tuple #[.slice A r.1.length c, .int .i64 r.2]) ∧ SlAt pCel (fun q => w.heap.size ≤ q ∧ q < w'.heap.size) w' A c r.1 ∧ Below w.heap.size w w'
theorem celsPost_none {r : List Cel × Int} {x : Int} {w w' : World} (h : r = ([], x)) (hb : Below w.heap.size w w') : CelsPost r w (.returned (.tuple #[.slice none 0 0, .int .i64 x])) w' := by
  subst h
  exact ⟨none, 0, rfl, ⟨Nat.le_refl _, Nat.zero_le _, (fun _ => rfl), fun i x hx => by simp at hx⟩, hb⟩
theorem own_fits {B : Nat} {w : World} {A : Option Addr} {n c : Nat} {l : List Int} (h : Own (pI .i64) 3 B (fun _ => False) w (.slice A n c) l) : l.length = n ∧ SlAt (pI .i64) (Old w) w A c l := by
  obtain ⟨h1, h2⟩ := h.sl'
  exact ⟨h1, h2.wide fun q hq => hq.2⟩
end Go.Proofs.YtlipmagkplbkdaaDoor

/-! L5 -/
namespace Go.Proofs.YtlipmagkplbkdaaDoor
open Go.RowKit Go.Sort Go.BigFrame
set_option linter.unusedVariables false
set_option linter.unusedSimpArgs false
def chnR (rs : List Rul) (s : Int) (c : Cel) : Int := ((fitI c.mod rs)[(choF rs s c).1.toNat]?).getD (-1)
theorem num_none {rs : List Rul} {s : Int} {c : Cel} (h : fitP c.mod rs = []) : chnR rs s c = -1 := by
  unfold chnR fitI; rw [h]; simp
theorem num_some {rs : List Rul} {s : Int} {c : Cel} {i : Nat} {j : Int} (h : choF rs s c = ((i : Int), 0)) (hi : (fitI c.mod rs)[i]? = some j) : chnR rs s c = j := by
  unfold chnR
  rw [h]
  show ((fitI c.mod rs)[((i : Int)).toNat]?).getD (-1) = j
  rw [Int.toNat_natCast, hi]
  rfl
set_option maxRecDepth 100000 in
set_option maxHeartbeats 8000000 in
theorem refChosen_calls (A : Option Addr) (c : Nat) (rs : List Rul) (s : Int) (cl : Cel) (D : Option Addr) (d : Nat) (w : World) (h : SlAt pRul (Old w) w A c rs) (h' : SlAt (pI .i64) (Old w) w D d cl.mod.args) (hs : Fits .i64 s) (hv : RVal rs) (hfine : fineF cl.mod = true) (hp : cl.path.size ≤ 300) :
    Calls Tryd.prog 71 #[.slice A rs.length c, .int .i64 s, .agg #[.string cl.path, .int .u8 cl.mod.name, .slice D cl.mod.args.length d]] w (IntPost (chnR rs s cl) w) := by
  have hmx := h.lenle
  have hmx' := h'.lenle
  have hl40 := hv.l
  have hargs := fine_args hfine
  obtain ⟨W0, hW0⟩ : ∃ W0, W0 = w.alloc (.cells #[.string cl.path, .int .u8 cl.mod.name, .slice D cl.mod.args.length d] 51) := ⟨_, rfl⟩
  have hb0 : Below w.heap.size w W0 := by rw [hW0]; exact (Below.refl _ _).alloc (Nat.le_refl _) _
  have hz0 : W0.heap.size = w.heap.size + 1 := by rw [hW0]; simp
  have hbl0 : Blk W0 w.heap.size 51 #[.string cl.path, .int .u8 cl.mod.name, .slice D cl.mod.args.length d] := by rw [hW0]; exact Blk.new _ _ _
  have hfs0 : FitS W0.heap.size W0 none 0 none 0 0 (fitI cl.mod (rs.take 0)) (fitW cl.mod (rs.take 0)) := ⟨Own.nil, Own.nil, fun q hq => by cases hq⟩
  have hn0 : (fitP cl.mod (rs.take 0)).length = 0 := rfl
  have H := Lib.hid h; clear h
  have H' := Lib.hid h'; clear h'
  have Hv := Lib.hid hv; clear hv
  have Hargs := Lib.hid hargs; clear hargs
  have Hb0 := Lib.hid hb0; clear hb0
  have Hbl0 := Lib.hid hbl0; clear hbl0
  have Hfine := Lib.hid hfine; clear hfine
  have Hs := Lib.hid hs; clear hs
  have Hfs0 := Lib.hid hfs0; clear hfs0
  have Hn0 := Lib.hid hn0; clear hn0
  go_enter Tryd.func71, Tryd.ntmps71
  go_wp2
  rw [← hW0]
  have HW0 := Lib.hid hW0; clear hW0
  go_loopw [9, 7, 8] (fun i xi xw wr => ∃ (k n : Nat) (Ai Aw : Option Addr) (ci cw : Nat), k ≤ rs.length ∧ i = .int .i64 k ∧ xi = .slice Ai n ci ∧ xw = .slice Aw n cw ∧ n ≤ k ∧ Hid ((fitP cl.mod (rs.take k)).length = n) ∧ Hid (Below W0.heap.size W0 wr) ∧ W0.heap.size ≤ wr.heap.size ∧
    Hid (FitS W0.heap.size wr Ai ci Aw cw n (fitI cl.mod (rs.take k)) (fitW cl.mod (rs.take k)))) (fun i _ _ _ => rs.length - (intOf i).toNat)
  case atStart => exact ⟨0, 0, none, none, 0, 0, Nat.zero_le _, rfl, rfl, rfl, Nat.le_refl _, Hn0, Below.refl _ _, Nat.le_refl _, Hfs0⟩
  case round =>
    obtain ⟨k, n, Ai, Aw, ci, cw, hk, rfl, rfl, rfl, hnk, hn, hb, hsz, hfs⟩ := hrel
    obtain ⟨wo, rfl⟩ : ∃ wo : World, wo = wr := ⟨_, rfl⟩
    have hbwo : Below w.heap.size w wo := Hb0.out.trans (hb.out.mono (by omega))
    have hblo := Hbl0.out.same (hb.out.block _ (by omega))
    by_cases hlt : k < rs.length
    case pos =>
      obtain ⟨b7, o7, A7, c7, A8, c8, r, hdr, rfl, hob7, k0, k1, k2, k3, k4, k5, k6, hat, hl1, hl8⟩ := (H.out.below hbwo).getRulAt hlt
      have hob7w : b7 < w.heap.size := hob7
      have hrk : rs[k]? = some r := get_of_drop hdr.out
      have hco1 : coreR r = true := Hv.out.c r (mem_of_drop hdr.out)
      have hwt := Hv.out.w r (mem_of_drop hdr.out)
      have y1 : wo.cell? ⟨w.heap.size, 1, none⟩ = some (.int .u8 cl.mod.name) := (hblo.cell 1).trans rfl
      have y2 : wo.cell? ⟨w.heap.size, 2, none⟩ = some (.slice D cl.mod.args.length d) := (hblo.cell 2).trans rfl
      have g0 := cell_regrown k0
      have g1 := cell_regrown k1
      have g2 := cell_regrown k2
      have g3 := cell_regrown k3
      have g4 := cell_regrown k4
      have g5 := cell_regrown k5
      have g6 := cell_regrown k6
      have p1 := cell_regrown y1
      have p2 := cell_regrown y2
      have hcall : ∀ (q : Nat) (os : Array Obj), Calls Tryd.prog 34 #[.agg #[.int .u8 r.name, .int .i64 r.arity, .int .u8 r.left, .int .u8 r.right, .slice A7 r.guards.length c7, .int .i64 r.weight, .slice A8 r.out.length c8], .agg #[.int .u8 cl.mod.name, .slice D cl.mod.args.length d]] (grow (redrawn wo q) os) fun e w'' => e = .returned (.bool (fitsF r cl.mod)) ∧ ∃ p : Regrown, w'' = grow (redrawn wo p.d) p.os := fun q os =>
        have hg := below_regrown wo q os
        Calls.regrown_of (fits_calls r A7 c7 A8 c8 D d cl.mod _ (hat.out.to (by omega) hg) (((H'.out.below hbwo).keep fun q hq => hg.block q (by have : q < w.heap.size := hq; omega)).wide fun q hq => by have : q < w.heap.size := hq; have := hg.size; show q < _; omega) hco1 Hargs.out)
      have hkk5 : ∀ w2 v', Hid (Below wo.heap.size wo w2) → ∀ w6 b, Hid (Grew b w2 w6 (.slice Ai n ci) v') → w6.cell? ⟨b7, o7 + k * 7 + 5, none⟩ = some (.int .i64 r.weight) := fun w2 v' hw2 w6 b hg => by
        have e1 : w2.heap[b7]? = wo.heap[b7]? := hw2.out.block b7 (by omega)
        have hz := hw2.out.size
        have e2 : w6.heap[b7]? = w2.heap[b7]? := hg.out.oth b7 (by omega) fun he => by have := (hfs.out.ow.lt _ he.symm).1; omega
        exact (cell_keep (e2.trans e1)).trans k5
      have hk0 : (0 : Int) ≤ (k : Int) := Int.natCast_nonneg _
      have hk1 : (k : Int) < (rs.length : Int) := by omega
      have hfs2 : ∀ w2 : World, Below wo.heap.size wo w2 → FitS W0.heap.size w2 Ai ci Aw cw n (fitI cl.mod (rs.take k)) (fitW cl.mod (rs.take k)) := fun w2 hw2 => hfs.out.later hw2
      have hb2' : ∀ w2 : World, Below wo.heap.size wo w2 → Below W0.heap.size W0 w2 := fun w2 hw2 => hb.out.trans (hw2.mono hsz)
      generalize hmn : fitsF r cl.mod = t at hcall
      have Hcall := Lib.hid hcall; clear hcall
      have Hfs2 := Lib.hid hfs2; clear hfs2
      have Hb2' := Lib.hid hb2'; clear hb2'
      have Hrk := Lib.hid hrk; clear hrk
      have Hkk5 := Lib.hid hkk5; clear hkk5
      have Hblo := Lib.hid hblo; clear hblo
      have Hbwo := Lib.hid hbwo; clear hbwo
      have Hat := Lib.hid hat; clear hat
      have Hdr := Lib.hid hdr; clear hdr
      clear k0 k1 k2 k3 k4 k5 k6 y1 y2
      go_upto_region 5 with fail
      refine wp_region_quiet_below (by kernel_rfl) (by kernel_rfl) ?_
      repeat (quiet_step (exact Hcall.out _ _))
      refine wpQuiet_nil ?_
      intro _ hw'
      obtain ⟨⟨dq, osq⟩, hw''⟩ := hw'
      subst hw''
      have hb2 := below_regrown wo dq osq
      generalize grow (redrawn wo dq) osq = w2 at hb2 ⊢
      have hz2 := hb2.size
      clear g0 g1 g2 g3 g4 g5 g6 p1 p2
      cases t
      · have hn1 : (fitP cl.mod (rs.take (k + 1))).length = n := by rw [fitP_snoc cl.mod Hrk.out, if_neg (by rw [hmn]; decide), List.append_nil]; exact hn.out
        have e1 := fitW_no Hrk.out hmn
        have e2 := fitI_no Hrk.out hmn
        have hst := Hfs2.out _ hb2
        have hbz := Hb2'.out _ hb2
        have Hn1 := Lib.hid hn1; clear hn1
        have E1 := Lib.hid e1; clear e1
        have E2 := Lib.hid e2; clear e2
        have Hst := Lib.hid hst; clear hst
        have Hbz := Lib.hid hbz; clear hbz
        have Hb2 := Lib.hid hb2; clear hb2
        have Hmn := Lib.hid hmn; clear hmn
        clear hn hfs
        go_wp2
        go_roundw
        case rel =>
          refine ⟨k + 1, n, Ai, Aw, ci, cw, hlt, by go_num, rfl, rfl, by omega, Hn1, Hbz, by omega, ?_⟩
          unfold Hid; rw [E1.out, E2.out]; exact Hst.out
        case measure => simp [intOf]; omega
      · have hn1 : (fitP cl.mod (rs.take (k + 1))).length = n + 1 := by rw [fitP_snoc cl.mod Hrk.out, if_pos hmn, List.length_append, hn.out]; rfl
        have e1 := fitW_yes Hrk.out hmn
        have e2 := fitI_yes Hrk.out hmn
        have hlw : (fitW cl.mod (rs.take k)).length + 1 = n + 1 := by rw [fitW_len, hn.out]
        have hli : (fitI cl.mod (rs.take k)).length + 1 = n + 1 := by rw [fitI_len, hn.out]
        have hrw : Room (fitW cl.mod (rs.take k)).length := room_of (by rw [fitW_len, hn.out]; omega)
        have hri : Room (fitI cl.mod (rs.take k)).length := room_of (by rw [fitI_len, hn.out]; omega)
        have hba : W0.heap.size ≤ w2.heap.size := by omega
        have hRw : (pI .i64).R (fun _ => False) w2 (Value.int .i64 r.weight).cells.toList r.weight := ⟨rfl, fits_i64 (by omega)⟩
        have hRi : (pI .i64).R (fun _ => False) w2 (Value.int .i64 k).cells.toList (k : Int) := ⟨rfl, fits_i64 (by omega)⟩
        have hst := Hfs2.out _ hb2
        have hbz := Hb2'.out _ hb2
        have Hbq := Lib.hid hb2
        have Hn1 := Lib.hid hn1; clear hn1
        have E1 := Lib.hid e1; clear e1
        have E2 := Lib.hid e2; clear e2
        have Hst := Lib.hid hst; clear hst
        have Hbz := Lib.hid hbz; clear hbz
        have Hb2 := Lib.hid hb2; clear hb2
        have Hlw := Lib.hid hlw; clear hlw
        have Hli := Lib.hid hli; clear hli
        have Hrw := Lib.hid hrw; clear hrw
        have Hri := Lib.hid hri; clear hri
        have HRw := Lib.hid hRw; clear hRw
        have HRi := Lib.hid hRi; clear hRi
        have Hmn := Lib.hid hmn; clear hmn
        clear hn hfs
        go_wp2_with (first
          | ((with_reducible show wpList _ _ _ (Oper.mk (some 27) _ _ _ _ _ :: _) _ _); refine wpList_pushG (E := pI .i64) (xs := fitI cl.mod (rs.take k)) (v := .slice Ai n ci) (base := W0.heap.size) (G := fun _ => False) 47 3 (.int .i64 0) 8 27 (.tmp 25) (.tmp 26) rfl rfl rfl rfl rfl Tryd.underlying47 (by kernel_rfl) rfl (by decide) (fun _ => rfl) (fun _ => rfl) Hst.out.ow (.int .i64 k) rfl (k : Int) (fun _ => False) HRi.out (fun _ h => h.elim) (n + 1) Hli.out Hri.out ⟨by decide, by decide⟩ hba ?_; intro A6 c6 w6 hown6 hg6; have ho6 := Lib.hid (Hst.out.oi1 hg6.out); have hz6 := Nat.le_trans hba hg6.out.bel.size; have kk5 := Hkk5.out _ _ Hbq _ _ hg6)
          | ((with_reducible show wpList _ _ _ (Oper.mk (some 35) _ _ _ _ _ :: _) _ _); refine wpList_pushG (E := pI .i64) (xs := fitW cl.mod (rs.take k)) (v := .slice Aw n cw) (base := W0.heap.size) (G := fun _ => False) 47 3 (.int .i64 0) 8 35 (.tmp 29) (.tmp 34) rfl rfl rfl rfl rfl Tryd.underlying47 (by kernel_rfl) rfl (by decide) (fun _ => rfl) (fun _ => rfl) ho6.out (.int .i64 r.weight) rfl r.weight (fun _ => False) HRw.out (fun _ h => h.elim) (n + 1) Hlw.out Hrw.out ⟨by decide, by decide⟩ hz6 ?_; intro A7' c7' w7 hown7 hg7))
        have hz7 := hg7.out.bel.size
        have hst2 := Hst.out.step hown6.out hg6.out hown7.out hg7.out
        have hbz2 := Hbz.out.trans (hg6.out.bel.trans hg7.out.bel)
        have Hst2 := Lib.hid hst2; clear hst2
        have Hbz2 := Lib.hid hbz2; clear hbz2
        clear kk5
        go_roundw
        case rel =>
          refine ⟨k + 1, n + 1, A6, A7', c6, c7', hlt, by go_num, rfl, rfl, by omega, Hn1, Hbz2, by omega, ?_⟩
          unfold Hid; rw [E1.out, E2.out]; exact Hst2.out
        case measure => simp [intOf]; omega
    case neg =>
      obtain rfl : k = rs.length := by omega
      rw [List.take_length] at hn hfs
      have y0 : wo.cell? ⟨w.heap.size, 0, none⟩ = some (.string cl.path) := (hblo.cell 0).trans rfl
      obtain ⟨hlw, hsw⟩ := own_fits hfs.out.oi
      obtain ⟨hli, hsi⟩ := own_fits hfs.out.ow
      have hcc0 := refChoose_calls s cl.path Aw cw (fitW cl.mod rs) wo Hs.out (by omega) hsw
      rw [hlw] at hcc0
      rcases pick_cases Hv.out s cl with ⟨hnil, hch, hpk⟩ | ⟨i, j, r, hi, hch, hij, hj, hfit, hpk⟩
      · have hres : chnR rs s cl = -1 := num_none hnil
        have hch2 : chooseF s cl.path (fitW cl.mod rs) = (0, 2) := hch
        have hcc : Calls Tryd.prog 87 #[.int .i64 s, .string cl.path, .slice Aw n cw] wo fun e w' => e = .returned (.tuple #[.int .i64 0, .int .i64 2]) ∧ Below wo.heap.size wo w' := by
          refine hcc0.mono ?_
          rintro e w' ⟨rfl, hb⟩
          rw [hch2]
          exact ⟨rfl, hb⟩
        have Hcc := Lib.hid hcc; clear hcc
        have Hres := Lib.hid hres; clear hres
        have Hn := Lib.hid hn; clear hn
        have Hfs := Lib.hid hfs; clear hfs
        have Hnil := Lib.hid hnil; clear hnil
        have Hch := Lib.hid hch; clear hch
        have Hpk := Lib.hid hpk; clear hpk
        have Hblo := Lib.hid hblo; clear hblo
        have Hbwo := Lib.hid hbwo; clear hbwo
        have Hsw := Lib.hid hsw; clear hsw
        have Hsi := Lib.hid hsi; clear hsi
        have Hlw := Lib.hid hlw; clear hlw
        have Hli := Lib.hid hli; clear hli
        have Hch2 := Lib.hid hch2; clear hch2
        clear hcc0
        go_wp2_with (go_at_call 87; refine Hcc.out.mono ?_; rintro e w2 ⟨rfl, hb2⟩)
        go_ret
        exact ⟨ret_int Hres.out.symm, Hbwo.out.trans (hb2.mono (by omega))⟩
      · have hin : i < n := by have := hn.out; omega
        have hres : chnR rs s cl = (j : Int) := num_some hch hij
        have hch2 : chooseF s cl.path (fitW cl.mod rs) = ((i : Int), 0) := hch
        have hcc : Calls Tryd.prog 87 #[.int .i64 s, .string cl.path, .slice Aw n cw] wo fun e w' => e = .returned (.tuple #[.int .i64 i, .int .i64 0]) ∧ Below wo.heap.size wo w' := by
          refine hcc0.mono ?_
          rintro e w' ⟨rfl, hb⟩
          rw [hch2]
          exact ⟨rfl, hb⟩
        obtain ⟨bi, oi, x, hdi, hAi, hobi, hci, _⟩ := hsi.getI (i := i) (by omega)
        have hxj : x = (j : Int) := by have h1 := get_of_drop hdi.out; rw [hij] at h1; exact (Option.some.inj h1).symm
        subst hxj
        subst hAi
        have hi1 : (i : Int) < (n : Int) := by omega
        have hi0 : (0 : Int) ≤ (i : Int) := Int.natCast_nonneg _
        have hci2 : ∀ w2 : World, Below wo.heap.size wo w2 → w2.cell? ⟨bi, oi + i, none⟩ = some (.int .i64 j) := fun w2 hw2 => (cell_keep (hw2.block bi hobi)).trans hci
        have Hcc := Lib.hid hcc; clear hcc
        have Hres := Lib.hid hres; clear hres
        have Hn := Lib.hid hn; clear hn
        have Hfs := Lib.hid hfs; clear hfs
        have Hch := Lib.hid hch; clear hch
        have Hpk := Lib.hid hpk; clear hpk
        have Hij := Lib.hid hij; clear hij
        have Hj := Lib.hid hj; clear hj
        have Hfit := Lib.hid hfit; clear hfit
        have Hblo := Lib.hid hblo; clear hblo
        have Hbwo := Lib.hid hbwo; clear hbwo
        have Hsw := Lib.hid hsw; clear hsw
        have Hsi := Lib.hid hsi; clear hsi
        have Hdi := Lib.hid hdi; clear hdi
        have Hlw := Lib.hid hlw; clear hlw
        have Hli := Lib.hid hli; clear hli
        have Hch2 := Lib.hid hch2; clear hch2
        have Hci2 := Lib.hid hci2; clear hci2
        clear hcc0 hci
        go_wp2_with (go_at_call 87; refine Hcc.out.mono ?_; rintro e w2 ⟨rfl, hb2⟩; have ci2 := Hci2.out _ hb2)
        go_ret
        exact ⟨ret_int Hres.out.symm, Hbwo.out.trans (hb2.mono (by omega))⟩
end Go.Proofs.YtlipmagkplbkdaaDoor
