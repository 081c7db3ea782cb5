/-
  Layer 43: the walk of Best.
-/
import Derived.Test.YtfeafembifdklaaZk
namespace Go.Proofs.Ytfeafembifdklaa
open Go.RowKit Go.Sort


theorem set_mid (l r : List Int) (u a : Int) {m : Nat} (h : l.length = m) : (l ++ u :: r).set m a = l ++ a :: r := by
  subst h
  rw [List.set_append_right _ _ (Nat.le_refl _), Nat.sub_self]; rfl
/-- a copy of a list, made while w was the world -/
def CopyPost (xs : List Int) (n : Nat) (w W : World) (e : Ending) (W' : World) : Prop :=
  ∃ A c, e = .returned (.slice A n c) ∧ xs.length = n ∧ Below w.heap.size w W' ∧ Below W.heap.size W W' ∧ SlAt (pI .i64) (fun k => w.heap.size ≤ k ∧ k < W'.heap.size) W' A c xs
def CostPost (v : Int) (w W : World) (e : Ending) (W' : World) : Prop := e = .returned (.int .i64 v) ∧ Below w.heap.size w W' ∧ Below W.heap.size W W'
/-- the state of the search: the list of now in its row, and the best so far -/
def BestAt (f : Fit) (w1 : World) (gt : Nat) (g : Nat) (s2 s3 : Value) (wr : World) : Prop :=
  ∃ (tr best : List Int) (least : Int) (A : Option Addr) (c : Nat), s2 = .slice A best.length c ∧ s3 = .int .i64 least ∧ RowAt wr gt 3 tr ∧ InBox f.lo f.hi tr ∧ SlAt (pI .i64) (fun k => w1.heap.size ≤ k ∧ k < wr.heap.size ∧ k ≠ gt) wr A c best ∧
    bestF f = (succs f.lo f.hi tr).foldl (bestStep f) (best, least) ∧ g = (succs f.lo f.hi tr).length + 1

set_option maxRecDepth 100000 in
set_option maxHeartbeats 8000000 in
theorem best_calls (f : Fit) (A1 : Option Addr) (c1 : Nat) (A2 : Option Addr) (c2 : Nat) (A3 : Option Addr) (c3 : Nat) (A4 : Option Addr) (c4 : Nat) (w : World) (h : FitAt f (Old w) w A1 c1 A2 c2 A3 c3 A4 c4) : Calls Try.prog 14 #[.agg #[.slice A1 f.lo.length c1, .slice A2 f.hi.length c2, .slice A3 f.terms.length c3, .slice A4 f.goals.length c4]] w (BestPost f w) := by
  have m1 := h.l.lenle
  obtain ⟨W0, hW0⟩ : ∃ W0, W0 = w.alloc (.cells #[.slice A1 f.lo.length c1, .slice A2 f.hi.length c2, .slice A3 f.terms.length c3, .slice A4 f.goals.length c4] 25) := ⟨_, rfl⟩
  have hb0 : Below w.heap.size w W0 := by rw [hW0]; exact (Below.refl _ _).alloc (Nat.le_refl _) _
  have hz0 : w.heap.size + 1 ≤ W0.heap.size := by rw [hW0]; simp
  have hl0 : w.heap.size < W0.heap.size := by omega
  have hbl0 : Blk W0 w.heap.size 25 #[.slice A1 f.lo.length c1, .slice A2 f.hi.length c2, .slice A3 f.terms.length c3, .slice A4 f.goals.length c4] := by rw [hW0]; exact Blk.new _ _ _
  have h0 := h.later hb0
  have cells : ∀ W : World, Below W0.heap.size W0 W → (W.cell? ⟨w.heap.size, 0, none⟩ = some (.slice A1 f.lo.length c1) ∧ W.cell? ⟨w.heap.size, 1, none⟩ = some (.slice A2 f.hi.length c2) ∧ W.cell? ⟨w.heap.size, 2, none⟩ = some (.slice A3 f.terms.length c3) ∧ W.cell? ⟨w.heap.size, 3, none⟩ = some (.slice A4 f.goals.length c4)) := fun W hW => (hbl0.same (hW.block _ (by omega))).four
  have H0 := Lib.hid h0; clear h0
  have Hb0 := Lib.hid hb0; clear hb0
  have Hbl0 := Lib.hid hbl0; clear hbl0
  have HW0 := Lib.hid hW0; clear hW0
  have Cells := Lib.hid cells; clear cells
  clear h
  by_cases hck : checkFit f = 0
  · have hv := checkFit_valid hck
    obtain ⟨p1, p2, p3, p4, p5, p6, p7⟩ := valid_parts hv
    have hne : f.lo ≠ [] := by intro e; rw [e] at p1; simp at p1
    have hlo := inBox_lo p3 p6
    have e0 : (checkFit f != 0) = false := by simp [hck]
    have Hck := Lib.hid hck; clear hck
    have Hv := Lib.hid hv; clear hv
    have P3 := Lib.hid p3; clear p3
    have P5 := Lib.hid p5; clear p5
    have P6 := Lib.hid p6; clear p6
    have P7 := Lib.hid p7; clear p7
    have Hne := Lib.hid hne; clear hne
    have Hlo := Lib.hid hlo; clear hlo
    go_enter Try.func14, Try.ntmps14
    go_wp2
    go_step3
    go_wp2_with fail
    rw [← HW0.out]
    go_wp2_with fail
    refine (fCheck_calls f A1 c1 A2 c2 A3 c3 A4 c4 W0 H0.out).mono ?_
    rintro e w1 ⟨rfl, hb1⟩
    have z1 := hb1.size
    have Hb1 := Lib.hid hb1; clear hb1
    obtain ⟨x0, x1, x2, x3⟩ := Cells.out w1 Hb1.out
    have h1 := H0.out.later Hb1.out
    obtain ⟨b0, o0, _, _, hA, _⟩ := h1.l.getI (i := 0) (List.length_pos_iff.2 Hne.out)
    subst hA
    obtain ⟨b2, o2, _, _, hA2, _⟩ := h1.h.getI (i := 0) (by rw [P3.out]; exact List.length_pos_iff.2 Hne.out)
    subst hA2
    have hwl : w.heap.size < w1.heap.size := by omega
    have cells1 : ∀ W : World, Below w1.heap.size w1 W → (W.cell? ⟨w.heap.size, 0, none⟩ = some (.slice (some ⟨b0, o0, none⟩) f.lo.length c1) ∧ W.cell? ⟨w.heap.size, 1, none⟩ = some (.slice (some ⟨b2, o2, none⟩) f.hi.length c2) ∧ W.cell? ⟨w.heap.size, 2, none⟩ = some (.slice A3 f.terms.length c3) ∧ W.cell? ⟨w.heap.size, 3, none⟩ = some (.slice A4 f.goals.length c4)) := fun W hW => Cells.out W (Hb1.out.trans (hW.mono z1))
    have hcl := clone_calls (some ⟨b0, o0, none⟩) c1 f.lo w1 h1.l Hne.out (by omega)
    have H1 := Lib.hid h1; clear h1
    have Cells1 := Lib.hid cells1; clear cells1
    have Hcl := Lib.hid hcl; clear hcl
    go_wp2_with fail
    refine Hcl.out.mono ?_
    rintro e w2 ⟨A5, c5, rfl, hown, hb2⟩
    obtain ⟨gt, rfl, hgt, _, hc1, hc2, hrow, hfit⟩ := hown.row Hne.out
    have hgs := hrow.lt
    have z2 := hb2.size
    clear x0 x1 x2 x3
    have hslo : SlAt (pI .i64) (Old w2) w2 (some ⟨gt, 0, none⟩) c5 f.lo := hrow.sl hc1 hc2 hfit hgs
    have sk : ∀ W : World, Below w2.heap.size w2 W → Below w2.heap.size w2 W ∧ (W.cell? ⟨w.heap.size, 0, none⟩ = some (.slice (some ⟨b0, o0, none⟩) f.lo.length c1) ∧ W.cell? ⟨w.heap.size, 1, none⟩ = some (.slice (some ⟨b2, o2, none⟩) f.hi.length c2) ∧ W.cell? ⟨w.heap.size, 2, none⟩ = some (.slice A3 f.terms.length c3) ∧ W.cell? ⟨w.heap.size, 3, none⟩ = some (.slice A4 f.goals.length c4)) := fun W hW => ⟨hW, Cells1.out W (hb2.trans (hW.mono z2))⟩
    have hclone : ∀ W : World, Below w2.heap.size w2 W → Calls Try.prog 17 #[.slice (some ⟨gt, 0, none⟩) f.lo.length c5] W (CopyPost f.lo f.lo.length w2 W) := fun W hW =>
      (clone_calls (some ⟨gt, 0, none⟩) c5 f.lo W (hslo.later hW) Hne.out (by omega)).mono fun e W' ⟨A, c, he, ho, hb⟩ => by
        obtain ⟨A', c', h3, h4⟩ := (ho.flat (pI_flat _) (G' := (W.heap.size ≤ ·))).fresh
        cases h3
        exact ⟨A, c, he, rfl, hW.trans (hb.mono hW.size), hb, h4.wide fun k hk => ⟨Nat.le_trans hW.size hk.1, hk.2⟩⟩
    have hlow : ∀ W : World, Below w2.heap.size w2 W → Calls Try.prog 16 #[.agg #[.slice (some ⟨b0, o0, none⟩) f.lo.length c1, .slice (some ⟨b2, o2, none⟩) f.hi.length c2, .slice A3 f.terms.length c3, .slice A4 f.goals.length c4], .agg #[.slice (some ⟨gt, 0, none⟩) f.lo.length c5, .slice (some ⟨gt, 0, none⟩) f.lo.length c5]] W (CostPost (costF f f.lo) w2 W) := fun W hW =>
      (lower_calls f (some ⟨b0, o0, none⟩) c1 (some ⟨b2, o2, none⟩) c2 A3 c3 A4 c4 f.lo f.lo (some ⟨gt, 0, none⟩) c5 (some ⟨gt, 0, none⟩) c5 W ((H1.out.later hb2).later hW) (hslo.later hW) (hslo.later hW) (cubOk_box Hv.out Hlo.out)).mono fun e W' ⟨he, hb⟩ => ⟨he, hW.trans (hb.mono hW.size), hb⟩
    have hbase : Below w2.heap.size w2 w2.drew := below_drew (Below.refl _ _)
    have Hb2 := Lib.hid hb2
    obtain ⟨x0, x1, x2, x3⟩ := Cells1.out w2 hb2
    have hrow2 := Lib.hid hrow
    have Sk := Lib.hid sk; clear sk
    have Hclone := Lib.hid hclone; clear hclone
    have Hlow := Lib.hid hlow; clear hlow
    have Hslo := Lib.hid hslo; clear hslo
    have Hfit := Lib.hid hfit; clear hfit
    clear hb2 hown hrow
    go_wp2_with fail
    go_region_held3 (fun w' => Below w2.heap.size w2 w' ∧ (w'.cell? ⟨w.heap.size, 0, none⟩ = some (.slice (some ⟨b0, o0, none⟩) f.lo.length c1) ∧ w'.cell? ⟨w.heap.size, 1, none⟩ = some (.slice (some ⟨b2, o2, none⟩) f.hi.length c2) ∧ w'.cell? ⟨w.heap.size, 2, none⟩ = some (.slice A3 f.terms.length c3) ∧ w'.cell? ⟨w.heap.size, 3, none⟩ = some (.slice A4 f.goals.length c4)))
      (first | exact Sk.out _ (by assumption))
      (first
        | (go_at_call 17; refine (Hclone.out _ ?_).mono ?_; (first | assumption | simp [*]); rintro e wv ⟨A6, c6, rfl, _, hB1, hC2, hsC⟩)
        | (go_at_call 16; refine (Hlow.out _ ?_).mono ?_; (first | assumption | simp [*]); rintro e wv ⟨rfl, hB1, hL2⟩))
    all_goals
      have hbs : SlAt (pI .i64) (fun k => w1.heap.size ≤ k ∧ k < wv.heap.size ∧ k ≠ gt) wv A6 c6 f.lo := by
        first
          | exact hsC.wide fun k hk => ⟨by omega, hk.2, by omega⟩
          | exact (sl_later hsC hL2).wide fun k hk => ⟨by omega, hk.2, by omega⟩
      have hrv : RowAt wv gt 3 f.lo := hrow2.out.same (hB1.block gt hgs)
      have hst : BestAt f w1 gt ((succs f.lo f.hi f.lo).length + 1) (.slice A6 f.lo.length c6) (.int .i64 (costF f f.lo)) wv := ⟨f.lo, f.lo, _, A6, c6, rfl, rfl, hrv, Hlo.out, hbs, rfl, rfl⟩
      have hbv : Below w1.heap.size w1 wv := Hb2.out.trans (hB1.mono z2)
      have zv := hbv.size
      have Hst := Lib.hid hst; clear hst
      have Hbv := Lib.hid hbv; clear hbv
      clear hB1 hC2 hsC hL2 hbs hrv x0 x1 x2 x3
      go_wp2
      go_step3
      go_wp2
      go_loopg [2, 3] ((succs f.lo f.hi f.lo).length + 1) (fun g s2 s3 wr => Hid (Below w1.heap.size w1 wr) ∧ w1.heap.size ≤ wr.heap.size ∧ Hid (BestAt f w1 gt g s2 s3 wr))
      case atStart => exact ⟨Hbv, zv, Hst⟩
      case round =>
        obtain ⟨hb, hsz, hst⟩ := hrel
        obtain ⟨wo, rfl⟩ : ∃ wo : World, wo = wr := ⟨_, rfl⟩
        obtain ⟨tr, best, least, A7, c7, rfl, rfl, hrw, hbox, hbs, hfold, hg⟩ := hst.out
        have hgo := hrw.lt
        have hxl : tr.length = f.lo.length := (inBox_len hbox).1
        have hl0 : 0 < f.lo.length := List.length_pos_iff.2 Hne.out
        obtain ⟨n0, hn0⟩ : ∃ n0 : Nat, f.lo.length = n0 + 1 := ⟨f.lo.length - 1, by omega⟩
        have hidx : (f.lo.length : Int) - 1 = (n0 : Int) := by omega
        have hbw := Hb0.out.trans ((Hb1.out.trans (hb.out.mono z1)).mono (by omega))
        have Hrw := Lib.hid hrw; clear hrw
        have Hbox := Lib.hid hbox; clear hbox
        have Hbs := Lib.hid hbs; clear hbs
        have Hfold := Lib.hid hfold; clear hfold
        have Hg := Lib.hid hg; clear hg
        have Hxl := Lib.hid hxl; clear hxl
        have Hn0 := Lib.hid hn0; clear hn0
        have Hidx := Lib.hid hidx; clear hidx
        have Hbw := Lib.hid hbw; clear hbw
        clear hst
        go_wp2
        go_loopg [7, 2, 3] f.lo.length (fun g2 i s2 s3 wr => ∃ j : Nat, g2 = j ∧ s2 = .slice A7 best.length c7 ∧ s3 = .int .i64 least ∧ j ≤ f.lo.length ∧ ((j = 0 ∧ i = .int .i64 (-1)) ∨ ∃ m : Nat, j = m + 1 ∧ i = .int .i64 m) ∧ Hid (Below gt wo wr) ∧ wo.heap.size ≤ wr.heap.size ∧ Hid (RowAt wr gt 3 (tr.take j ++ f.lo.drop j)) ∧ Hid (∀ k, k < wo.heap.size → k ≠ gt → wr.heap[k]? = wo.heap[k]?) ∧ Hid (nextF (f.lo.drop j) (f.hi.drop j) (tr.drop j) = none))
        case atStart =>
          refine ⟨f.lo.length, rfl, rfl, rfl, Nat.le_refl _, .inr ⟨n0, Hn0.out, congrArg (Value.int .i64) Hidx.out⟩, Below.refl _ _, Nat.le_refl _, ?_, fun _ _ _ => rfl, ?_⟩
          · unfold Hid; rw [← Hxl.out, List.take_length, List.drop_eq_nil_of_le (by rw [Hxl.out]; exact Nat.le_refl _), List.append_nil]; exact Hrw.out
          · unfold Hid; rw [List.drop_eq_nil_of_le (Nat.le_refl _)]; rfl
        case round =>
          obtain ⟨j, rfl, rfl, rfl, hj, hi', hb3, hsz3, hro, hkp, hnx⟩ := hrel
          obtain ⟨wp, rfl⟩ : ∃ wp : World, wp = wr := ⟨_, rfl⟩
          have hgo3 : gt < wp.heap.size := by omega
          have hb1p : Below w1.heap.size w1 wp := hb.out.trans (hb3.out.mono (by omega))
          rcases hi' with ⟨rfl, rfl⟩ | ⟨m, rfl, rfl⟩
          · have hn : nextF f.lo f.hi tr = none := by simpa using hnx.out
            have hfin : bestF f = (best, least) := by rw [Hfold.out, succs_none hn]; rfl
            have hbs2 := Hbs.out.keep (w' := wp) fun k hk => hkp.out k hk.2.1 hk.2.2
            have Hfin := Lib.hid hfin; clear hfin
            have Hbs2 := Lib.hid hbs2; clear hbs2
            have Hb1p := Lib.hid hb1p; clear hb1p
            clear hn
            go_wp2
            try rw [Exit.noGoto_ret]
            go_ret3
            refine ⟨Hb0.out.trans ((Hb1.out.trans (Hb1p.out.mono z1)).mono (by omega)), .inr ⟨Hck.out, A7, c7, by rw [Hfin.out]; rfl, ?_⟩⟩
            rw [Hfin.out]
            exact Hbs2.out.wide fun k hk => ⟨by omega, by omega⟩
          · have hml : m < f.lo.length := by omega
            have hmh : m < f.hi.length := by have := P3.out; omega
            have hmt : m < tr.length := by have := Hxl.out; omega
            have hf1 := H1.out.below hb1p
            obtain ⟨b1, o1, a, hd0, he1, hob1, hca, hfa⟩ := hf1.l.getI hml
            cases he1
            obtain ⟨b2', o2', b, hd1, he2, hob2, hcb, hfb⟩ := hf1.h.getI hmh
            cases he2
            obtain ⟨v, hd2⟩ : ∃ v, tr.drop m = v :: tr.drop (m + 1) := ⟨tr[m], drop_cons (List.getElem?_eq_getElem hmt)⟩
            have hvm : (tr.take (m + 1) ++ f.lo.drop (m + 1))[m]? = some v := by
              rw [List.getElem?_append_left (by simp; omega), List.getElem?_take, if_pos (Nat.lt_succ_self _)]
              exact get_of_drop hd2
            have hcv := hro.out.cell hvm
            have hfz := hro.out.free m
            obtain ⟨ka, kb⟩ := inBox_get Hbox.out m a b v (get_of_drop hd0.out) (get_of_drop hd1.out) (get_of_drop hd2)
            obtain ⟨k1, k2, k3⟩ := okB_iff.1 (allB_get P6.out m a b (get_of_drop hd0.out) (get_of_drop hd1.out))
            have step := nextF_step hd0.out hd1.out hd2 hnx.out
            have hm0 : (0 : Int) ≤ (m : Int) := Int.natCast_nonneg _
            have hm1 : (m : Int) < (f.lo.length : Int) := by omega
            have hm2 : (m : Int) < (f.hi.length : Int) := by omega
            have hlt1 : (tr.take m).length = m := by simp; omega
            have hr5 : RowAt (wp.setCell ⟨gt, m, none⟩ (.int .i64 (v + 1))) gt 3 (tr.take m ++ (v + 1) :: f.lo.drop (m + 1)) := by
              have h1 := hro.out.set m (v + 1)
              rwa [set_take tr (f.lo.drop (m + 1)) (v + 1) hmt] at h1
            have hb5 : Below gt wo (wp.setCell ⟨gt, m, none⟩ (.int .i64 (v + 1))) := hb3.out.setCell (Nat.le_refl _) _
            have hk5 : ∀ k, k < wo.heap.size → k ≠ gt → (wp.setCell ⟨gt, m, none⟩ (.int .i64 (v + 1))).heap[k]? = wo.heap[k]? := fun k hk hne => (Below.heap_setCell _ _ _ _ hne).trans (hkp.out k hk hne)
            have hz5 : (wp.setCell ⟨gt, m, none⟩ (.int .i64 (v + 1))).heap.size = wp.heap.size := by simp [World.setCell]
            obtain ⟨w5, hw5⟩ : ∃ w5, w5 = wp.setCell ⟨gt, m, none⟩ (.int .i64 (v + 1)) := ⟨_, rfl⟩
            rw [← hw5] at hr5 hb5 hk5 hz5
            have hz5' : wo.heap.size ≤ w5.heap.size := by omega
            have hz5'' : gt < w5.heap.size := by omega
            have hb15 : Below w1.heap.size w1 w5 := hb.out.trans (hb5.mono (by omega))
            obtain ⟨x0, x1, x2, x3⟩ := Cells1.out w5 hb15
            have hcv5 : w5.cell? ⟨gt, m, none⟩ = some (.int .i64 (v + 1)) := hr5.cell (by rw [List.getElem?_append_right (by omega), hlt1, Nat.sub_self]; rfl)
            have hfz5 := hr5.free m
            have hcb5 : w5.cell? ⟨b2, o2 + m, none⟩ = some (.int .i64 b) := ((H1.out.below hb15).h.getI hmh).elim fun b' h => by
              obtain ⟨o', x, hd', he', _, hc', _⟩ := h
              cases he'
              have := get_of_drop hd'.out
              rw [get_of_drop hd1.out] at this
              cases this
              exact hc'
            have hca5 : w5.cell? ⟨b0, o0 + m, none⟩ = some (.int .i64 a) := ((H1.out.below hb15).l.getI hml).elim fun b' h => by
              obtain ⟨o', x, hd', he', _, hc', _⟩ := h
              cases he'
              have := get_of_drop hd'.out
              rw [get_of_drop hd0.out] at this
              cases this
              exact hc'
            have Hz5 := Lib.hid hz5; clear hz5
            have Hw5 := Lib.hid hw5; clear hw5
            have Hr5 := Lib.hid hr5; clear hr5
            have Hb5 := Lib.hid hb5; clear hb5
            have Hk5 := Lib.hid hk5; clear hk5
            have Hb15 := Lib.hid hb15; clear hb15
            have Hd2 := Lib.hid hd2; clear hd2
            have Hvm := Lib.hid hvm; clear hvm
            have Step := Lib.hid step; clear step
            have Hlt1 := Lib.hid hlt1; clear hlt1
            have Hb1p := Lib.hid hb1p; clear hb1p
            have Hf1 := Lib.hid hf1; clear hf1
            clear hca hcb
            go_wp2
            rw [← Hw5.out]
            clear hcv hfz
            by_cases hlt : v < b
            · have hle : v + 1 ≤ b := by omega
              obtain ⟨y, hye⟩ : ∃ y, y = tr.take m ++ (v + 1) :: f.lo.drop (m + 1) := ⟨_, rfl⟩
              have hy : nextF f.lo f.hi tr = some y := by
                rw [hye]
                refine nextF_take m (by omega) (by omega) (by omega) ?_
                rw [Step.out, if_pos hlt]
              have hr5' : RowAt w5 gt 3 y := by rw [hye]; exact Hr5.out
              have hyb := inBox_next Hlo.out Hbox.out hy
              have hyl : y.length = f.lo.length := (inBox_len hyb).1
              have hyf : ∀ z ∈ y, Fits .i64 z := by
                intro z hz
                have := allB_args y (inBox_allB P6.out hyb) z hz
                have := argOk_iff.1 this
                exact fits_i64 (by omega)
              have hyne : y ≠ [] := by intro e; rw [e] at hyl; simp at hyl; omega
              have hsucc : (succs f.lo f.hi tr).length = (succs f.lo f.hi y).length + 1 := by rw [succs_some hy]; rfl
              have hfo : bestF f = (y :: succs f.lo f.hi y).foldl (bestStep f) (best, least) := by rw [Hfold.out, succs_some hy]
              have hlow5 : ∀ n, Calls Try.prog 16 #[.agg #[.slice (some ⟨b0, o0, none⟩) f.lo.length c1, .slice (some ⟨b2, o2, none⟩) f.hi.length c2, .slice A3 f.terms.length c3, .slice A4 f.goals.length c4], .agg #[.slice (some ⟨gt, 0, none⟩) f.lo.length c5, .slice (some ⟨gt, 0, none⟩) f.lo.length c5]] (w5.drewN n) (CostPost (costF f y) w5 w5) := fun n => by
                have hbn : Below w5.heap.size w5 (w5.drewN n) := below_drewN (Below.refl _ _) n
                have hys : SlAt (pI .i64) (Old w5) w5 (some ⟨gt, 0, none⟩) c5 y := hr5'.sl (by omega) hc2 hyf hz5''
                have := lower_calls f (some ⟨b0, o0, none⟩) c1 (some ⟨b2, o2, none⟩) c2 A3 c3 A4 c4 y y (some ⟨gt, 0, none⟩) c5 (some ⟨gt, 0, none⟩) c5 (w5.drewN n) ((H1.out.later Hb15.out).later hbn) (hys.later hbn) (hys.later hbn) (cubOk_box Hv.out hyb)
                rw [hyl] at this
                exact this.mono fun e W' ⟨he, hb⟩ => ⟨he, hbn.trans (hb.mono hbn.size), hbn.trans (hb.mono hbn.size)⟩
              have Hye := Lib.hid hye; clear hye
              have Hy := Lib.hid hy; clear hy
              have Hr5' := Lib.hid hr5'; clear hr5'
              have Hyb := Lib.hid hyb; clear hyb
              have Hyl := Lib.hid hyl; clear hyl
              have Hyf := Lib.hid hyf; clear hyf
              have Hyne := Lib.hid hyne; clear hyne
              have Hsucc := Lib.hid hsucc; clear hsucc
              have Hfo := Lib.hid hfo; clear hfo
              have Hlow5 := Lib.hid hlow5; clear hlow5
              go_wp2
              go_quiet (fail)
              go_wp2_with fail
              ((with_reducible refine (Hlow5.out _).mono ?_))
              rintro e w7 ⟨rfl, hb7, _⟩
              have hz7 := hb7.size
              have hr7 : RowAt w7 gt 3 y := Hr5'.out.same (hb7.block _ hz5'')
              have hk7 : ∀ k, k < wo.heap.size → k ≠ gt → w7.heap[k]? = wo.heap[k]? := fun k hk hne => (hb7.block k (by omega)).trans (Hk5.out k hk hne)
              have hb17 : Below w1.heap.size w1 w7 := Hb15.out.trans (hb7.mono (by omega))
              obtain ⟨cy, hcy⟩ : ∃ cy, costF f y = cy := ⟨_, rfl⟩
              rw [hcy]
              have Hb7 := Lib.hid hb7; clear hb7
              have Hr7 := Lib.hid hr7; clear hr7
              have Hk7 := Lib.hid hk7; clear hk7
              have Hb17 := Lib.hid hb17; clear hb17
              have Hcy := Lib.hid hcy; clear hcy
              clear x0 x1 x2 x3 hcv5 hfz5 hcb5 hca5
              by_cases hbt : cy < least
              · have hst8 : bestF f = (succs f.lo f.hi y).foldl (bestStep f) (y, cy) := by rw [Hfo.out, List.foldl_cons, bestStep_lt (by rw [Hcy.out]; exact hbt), Hcy.out]
                have hcl8 : Calls Try.prog 17 #[.slice (some ⟨gt, 0, none⟩) f.lo.length c5] w7 (CopyPost y f.lo.length w7 w7) := by
                  have hys : SlAt (pI .i64) (Old w7) w7 (some ⟨gt, 0, none⟩) c5 y := Hr7.out.sl (by have := Hyl.out; omega) hc2 Hyf.out (by show gt < _; omega)
                  have := clone_calls (some ⟨gt, 0, none⟩) c5 y w7 hys Hyne.out (by have := Hyl.out; omega)
                  rw [Hyl.out] at this
                  refine this.mono fun e W' ⟨A, c, he, ho, hb⟩ => ?_
                  obtain ⟨A', c', h3, h4⟩ := (ho.flat (pI_flat _) (G' := (w7.heap.size ≤ ·))).fresh
                  cases h3
                  exact ⟨A, c, by rw [he, Hyl.out], Hyl.out, hb, hb, h4⟩
                have Hst8 := Lib.hid hst8; clear hst8
                have Hcl8 := Lib.hid hcl8; clear hcl8
                go_wp2_with fail
                refine Hcl8.out.mono ?_
                rintro e w8 ⟨A8, c8, rfl, hl8, hb8, _, hs8⟩
                have hz8 := hb8.size
                have hb18 : Below w1.heap.size w1 w8 := Hb17.out.trans (hb8.mono (by omega))
                have hst : BestAt f w1 gt ((succs f.lo f.hi y).length + 1) (.slice A8 y.length c8) (.int .i64 cy) w8 :=
                  ⟨y, y, cy, A8, c8, rfl, rfl, Hr7.out.same (hb8.block _ (by omega)), Hyb.out, hs8.wide fun k hk => ⟨by omega, hk.2, by omega⟩, Hst8.out, rfl⟩
                rw [hl8] at hst
                have Hst := Lib.hid hst; clear hst
                have Hb18 := Lib.hid hb18; clear hb18
                have Hl8 := Lib.hid hl8; clear hl8
                clear hb8 hs8
                go_wp2
                go_roundg ((succs f.lo f.hi y).length + 1)
                case measure => have := Hg.out; have := Hsucc.out; omega
                case rel => exact ⟨Hb18, by omega, Hst⟩
              · have hst8 : bestF f = (succs f.lo f.hi y).foldl (bestStep f) (best, least) := by rw [Hfo.out, List.foldl_cons, bestStep_ge (by rw [Hcy.out]; omega)]
                have hst : BestAt f w1 gt ((succs f.lo f.hi y).length + 1) (.slice A7 best.length c7) (.int .i64 least) w7 :=
                  ⟨y, best, least, A7, c7, rfl, rfl, Hr7.out, Hyb.out, (Hbs.out.keep fun k hk => Hk7.out k hk.2.1 hk.2.2).wide fun k hk => ⟨hk.1, by omega, hk.2.2⟩, hst8, rfl⟩
                have Hst := Lib.hid hst; clear hst
                clear hst8
                go_wp2
                go_roundg ((succs f.lo f.hi y).length + 1)
                case measure => have := Hg.out; have := Hsucc.out; omega
                case rel => exact ⟨Hb17, by omega, Hst⟩
            · have hle : b < v + 1 := by omega
              have hn : nextF (f.lo.drop m) (f.hi.drop m) (tr.drop m) = none := by rw [Step.out, if_neg hlt]
              have hr6 : ∀ n, RowAt ((w5.drewN n).setCell ⟨gt, m, none⟩ (.int .i64 a)) gt 3 (tr.take m ++ f.lo.drop m) := fun n => by
                have h1 := (Hr5.out.same (w' := w5.drewN n) rfl).set m a
                rwa [set_mid _ _ _ _ Hlt1.out, ← hd0.out] at h1
              have hb6 : ∀ n, Below gt wo ((w5.drewN n).setCell ⟨gt, m, none⟩ (.int .i64 a)) := fun n => (below_drewN Hb5.out n).setCell (Nat.le_refl _) _
              have hk6 : ∀ n k, k < wo.heap.size → k ≠ gt → ((w5.drewN n).setCell ⟨gt, m, none⟩ (.int .i64 a)).heap[k]? = wo.heap[k]? := fun n k hk hne => (Below.heap_setCell _ _ _ _ hne).trans (Hk5.out k hk hne)
              have hz6 : ∀ n, wo.heap.size ≤ ((w5.drewN n).setCell ⟨gt, m, none⟩ (.int .i64 a)).heap.size := fun n => by simp [World.setCell]; exact hz5'
              have Hn := Lib.hid hn; clear hn
              have Hr6 := Lib.hid hr6; clear hr6
              have Hb6 := Lib.hid hb6; clear hb6
              have Hk6 := Lib.hid hk6; clear hk6
              have Hz6 := Lib.hid hz6; clear hz6
              go_wp2
              go_quiet (fail)
              go_wp2
              go_roundg m
              case measure => omega
              case rel =>
                refine ⟨m, rfl, rfl, rfl, by omega, ?_, Hb6.out _, Hz6.out _, Hr6.out _, Hk6.out _, Hn⟩
                cases m with
                | zero => exact .inl ⟨rfl, congrArg (Value.int .i64) (by omega)⟩
                | succ m' => exact .inr ⟨m', rfl, congrArg (Value.int .i64) (by omega)⟩
  · have e0 : (checkFit f != 0) = true := by simp [hck]
    have Hck := Lib.hid hck; clear hck
    go_enter Try.func14, Try.ntmps14
    go_wp2
    go_step3
    go_wp2_with fail
    rw [← HW0.out]
    go_wp2_with fail
    refine (fCheck_calls f A1 c1 A2 c2 A3 c3 A4 c4 W0 H0.out).mono ?_
    rintro e w1 ⟨rfl, hb1⟩
    have z1 := hb1.size
    have Hb1 := Lib.hid hb1; clear hb1
    obtain ⟨x0, x1, x2, x3⟩ := Cells.out w1 Hb1.out
    go_wp2
    go_ret3
    exact ⟨Hb0.out.trans (Hb1.out.mono (by omega)), .inl ⟨Hck.out, rfl⟩⟩
end Go.Proofs.Ytfeafembifdklaa
