/-
  Layer 43: the walk of the reference's Best.
-/
import Derived.Test.YtfeafembifdklaaZj
import Derived.Deep.LoopGhost
namespace Go.Proofs.Ytfeafembifdklaa
open Go.RowKit Go.Sort


def BestPost (f : Fit) (w : World) (e : Ending) (w' : World) : Prop :=
  Below w.heap.size w w' ∧ ((checkFit f ≠ 0 ∧ e = .returned (.tuple #[.slice none 0 0, .int .i64 0, .int .i64 (checkFit f)])) ∨
    (checkFit f = 0 ∧ ∃ A c, e = .returned (.tuple #[.slice A (bestF f).1.length c, .int .i64 (bestF f).2, .int .i64 0]) ∧ SlAt (pI .i64) (fun k => w.heap.size ≤ k ∧ k < w'.heap.size) w' A c (bestF f).1))
theorem bestStep_lt {f : Fit} {p : List Int × Int} {y : List Int} (h : costF f y < p.2) : bestStep f p y = (y, costF f y) := by unfold bestStep; rw [if_pos h]
theorem bestStep_ge {f : Fit} {p : List Int × Int} {y : List Int} (h : ¬ costF f y < p.2) : bestStep f p y = p := by unfold bestStep; rw [if_neg h]
theorem cost_range {f : Fit} {x : List Int} (hv : validF f = true) (h : InBox f.lo f.hi x) : 0 ≤ costF f x ∧ costF f x ≤ 100000000000000 := bound_range (cubOk_box hv h)

/-- the search's state: the best so far, and, if there is one, the list that comes next -/
def SrchAt (f : Fit) (W0 : World) (g : Nat) (s5 s6 s7 s8 : Value) (wr : World) : Prop :=
  ∃ (best : List Int) (least : Int) (A5 : Option Addr) (c5 : Nat), s5 = .slice A5 best.length c5 ∧ s6 = .int .i64 least ∧ SlAt (pI .i64) (fun k => W0.heap.size ≤ k ∧ k < wr.heap.size) wr A5 c5 best ∧
    ((s8 = .bool false ∧ bestF f = (best, least)) ∨
      (∃ (x : List Int) (A : Option Addr) (c : Nat), s8 = .bool true ∧ s7 = .slice A x.length c ∧ InBox f.lo f.hi x ∧ SlAt (pI .i64) (fun k => W0.heap.size ≤ k ∧ k < wr.heap.size) wr A c x ∧ bestF f = (x :: succs f.lo f.hi x).foldl (bestStep f) (best, least) ∧ g = (succs f.lo f.hi x).length + 1))
theorem sl_later {w w' : World} {A : Option Addr} {c : Nat} {xs : List Int} {B : Nat} (h : SlAt (pI .i64) (fun k => B ≤ k ∧ k < w.heap.size) w A c xs) (hb : Below w.heap.size w w') : SlAt (pI .i64) (fun k => B ≤ k ∧ k < w'.heap.size) w' A c xs :=
  (h.keep fun _ hk => hb.block _ hk.2).wide fun _ hk => ⟨hk.1, Nat.lt_of_lt_of_le hk.2 hb.size⟩
set_option maxRecDepth 100000 in
set_option maxHeartbeats 4000000 in
theorem refBest_calls (f : Fit) (A1 : Option Addr) (c1 : Nat) (A2 : Option Addr) (c2 : Nat) (A3 : Option Addr) (c3 : Nat) (A4 : Option Addr) (c4 : Nat) (w : World) (h : FitAt f (Old w) w A1 c1 A2 c2 A3 c3 A4 c4) : Calls Try.prog 19 #[.agg #[.slice A1 f.lo.length c1, .slice A2 f.hi.length c2, .slice A3 f.terms.length c3, .slice A4 f.goals.length c4]] w (BestPost f w) := by
  have m1 := h.l.lenle
  obtain ⟨W0, hW0⟩ : ∃ W0, W0 = w.alloc (.cells #[.slice A1 f.lo.length c1, .slice A2 f.hi.length c2, .slice A3 f.terms.length c3, .slice A4 f.goals.length c4] 25) := ⟨_, rfl⟩
  have hb0 : Below w.heap.size w W0 := by rw [hW0]; exact (Below.refl _ _).alloc (Nat.le_refl _) _
  have hz0 : w.heap.size + 1 ≤ W0.heap.size := by rw [hW0]; simp
  have hl0 : w.heap.size < W0.heap.size := by omega
  have hbl0 : Blk W0 w.heap.size 25 #[.slice A1 f.lo.length c1, .slice A2 f.hi.length c2, .slice A3 f.terms.length c3, .slice A4 f.goals.length c4] := by rw [hW0]; exact Blk.new _ _ _
  have h0 := h.later hb0
  have cells : ∀ W : World, Below W0.heap.size W0 W → (W.cell? ⟨w.heap.size, 0, none⟩ = some (.slice A1 f.lo.length c1) ∧ W.cell? ⟨w.heap.size, 1, none⟩ = some (.slice A2 f.hi.length c2) ∧ W.cell? ⟨w.heap.size, 2, none⟩ = some (.slice A3 f.terms.length c3) ∧ W.cell? ⟨w.heap.size, 3, none⟩ = some (.slice A4 f.goals.length c4)) := fun W hW => (hbl0.same (hW.block _ (by omega))).four
  have H0 := Lib.hid h0; clear h0
  have Hb0 := Lib.hid hb0; clear hb0
  have Hbl0 := Lib.hid hbl0; clear hbl0
  have HW0 := Lib.hid hW0; clear hW0
  have Cells := Lib.hid cells; clear cells
  clear h
  by_cases hck : checkFit f = 0
  · have hv := checkFit_valid hck
    obtain ⟨p1, p2, p3, p4, p5, p6, p7⟩ := valid_parts hv
    have hne : f.lo ≠ [] := by intro e; rw [e] at p1; simp at p1
    have hlo := inBox_lo p3 p6
    have e0 : (checkFit f != 0) = false := by simp [hck]
    have Hck := Lib.hid hck; clear hck
    have Hv := Lib.hid hv; clear hv
    have P3 := Lib.hid p3; clear p3
    have P5 := Lib.hid p5; clear p5
    have P6 := Lib.hid p6; clear p6
    have P7 := Lib.hid p7; clear p7
    have Hne := Lib.hid hne; clear hne
    have Hlo := Lib.hid hlo; clear hlo
    go_enter Try.func19, Try.ntmps19
    go_wp2_with fail
    rw [← HW0.out]
    go_wp2_with fail
    refine (refFCheck_calls f A1 c1 A2 c2 A3 c3 A4 c4 W0 H0.out).mono ?_
    rintro e w1 ⟨rfl, hb1⟩
    have z1 := hb1.size
    have Hb1 := Lib.hid hb1; clear hb1
    obtain ⟨x0, x1, x2, x3⟩ := Cells.out w1 Hb1.out
    have h1 := H0.out.later Hb1.out
    obtain ⟨b0, o0, _, _, hA, _⟩ := h1.l.getI (i := 0) (List.length_pos_iff.2 Hne.out)
    subst hA
    have hs : SlAt (pI .i64) (Old w1) (w1.alloc (.cells #[] 3)) (some ⟨b0, o0, none⟩) c1 f.lo := h1.l.keep fun q hq => Below.heap_alloc _ _ _ hq
    have hF : ∀ q, Old w1 q → True ∧ q < (w1.alloc (.cells #[] 3)).heap.size ∧ some q ≠ (Value.slice (some ⟨w1.heap.size, 0, none⟩) 0 0).ownBlock := fun q hq => by
      have : q < w1.heap.size := hq
      exact ⟨trivial, by simp; omega, fun he => by simp [Value.ownBlock] at he; omega⟩
    have hem := own_empty w1
    have hroom : Room f.lo.length := room_of (by omega)
    have hbase : w1.heap.size ≤ (w1.alloc (.cells #[] 3)).heap.size := by simp
    have hwl : w.heap.size < w1.heap.size := by omega
    have Hs := Lib.hid hs; clear hs
    have HF := Lib.hid hF; clear hF
    have Hem := Lib.hid hem; clear hem
    have Hroom := Lib.hid hroom; clear hroom
    have H1 := Lib.hid h1; clear h1
    go_wp2_with (at_builtin; refine wpList_catG (E := pI .i64) (xs := []) (v := .slice (some ⟨w1.heap.size, 0, none⟩) 0 0) (base := w1.heap.size) (G := fun _ => True) 22 3 (.int .i64 0) 8 (.tmp 15) (.tmp 17) rfl rfl Try.underlying22 info_intZ rfl (by decide) rfl Hem.out (some ⟨b0, o0, none⟩) c1 f.lo rfl (Old w1) Hs.out HF.out f.lo.length rfl Hroom.out (by decide) hbase ?_; intro A5 c5 w2 hown hg; have hb2 := Hb1.out.trans ((((Below.refl _ _).alloc (Nat.le_refl _) _).trans hg.out.bel).mono z1); obtain ⟨u0, u1, u2, u3⟩ := Cells.out w2 hb2; have Hb2 := Lib.hid hb2; clear hb2)
    have hown' : Own (pI .i64) 3 w1.heap.size (fun _ => True) w2 (.slice A5 f.lo.length c5) f.lo := hown.out
    obtain ⟨_, hbest⟩ := hown'.sl'
    have hbest2 : SlAt (pI .i64) (fun k => w1.heap.size ≤ k ∧ k < w2.heap.size) w2 A5 c5 f.lo := by
      obtain ⟨A6, c6, h3, h4⟩ := (hown'.flat (pI_flat _) (G' := (w1.heap.size ≤ ·))).fresh
      cases h3; exact h4
    have z2 := Hb2.out.size
    have Hbest2 := Lib.hid hbest2; clear hbest2
    clear x0 x1 x2 x3 hown hg hown' hbest
    have hsum := sum_calls f (some ⟨b0, o0, none⟩) c1 A2 c2 A3 c3 A4 c4 f.lo A5 c5 w2 (H0.out.later Hb2.out) (Hbest2.out.wide fun k hk => hk.2) (cubOk_box Hv.out Hlo.out)
    have Hsum := Lib.hid hsum; clear hsum
    go_wp2_with fail
    refine Hsum.out.mono ?_
    rintro e w3 ⟨rfl, hb3⟩
    have Hb3 := Lib.hid (Hb2.out.trans (hb3.mono z2))
    have z3 := Hb3.out.size
    have hb3' := hb3
    clear u0 u1 u2 u3
    obtain ⟨u0, u1, u2, u3⟩ := Cells.out w3 Hb3.out
    have hbe3 : SlAt (pI .i64) (fun k => W0.heap.size ≤ k ∧ k < w3.heap.size) w3 A5 c5 f.lo := (sl_later (Hbest2.out.wide fun k hk => ⟨by omega, hk.2⟩) (by exact hb3')).wide fun k hk => hk
    have hnx := next_calls f.lo f.hi f.lo (some ⟨b0, o0, none⟩) c1 A2 c2 A5 c5 w3 (H0.out.later Hb3.out).l (H0.out.later Hb3.out).h (hbe3.wide fun k hk => hk.2) P6.out Hlo.out Hne.out p2
    have Hbe3 := Lib.hid hbe3; clear hbe3
    have Hnx := Lib.hid hnx; clear hnx
    clear hb3 hb3'
    go_wp2_with fail
    refine Hnx.out.mono ?_
    rintro e w4 ⟨hb4, hcs⟩
    have Hb4 := Lib.hid (Hb3.out.trans (hb4.mono z3))
    have z4 := Hb4.out.size
    have hbe4 := sl_later Hbe3.out hb4
    have z34 := hb4.size
    have Hbe4 := Lib.hid hbe4; clear hbe4
    clear hb4
    have hst : ∃ g s7 s8, e = .returned (.tuple #[s7, s8]) ∧ SrchAt f W0 g (.slice A5 f.lo.length c5) (.int .i64 (boundF f.terms f.goals f.lo f.lo)) s7 s8 w4 := by
      rcases hcs with ⟨hn, rfl⟩ | ⟨y, A, c, hn, rfl, hsl⟩
      · refine ⟨0, _, _, rfl, f.lo, _, A5, c5, rfl, rfl, Hbe4.out, .inl ⟨rfl, ?_⟩⟩
        unfold bestF; rw [succs_none hn]; rfl
      · refine ⟨_, _, _, rfl, f.lo, _, A5, c5, rfl, rfl, Hbe4.out, .inr ⟨y, A, c, rfl, rfl, inBox_next Hlo.out Hlo.out hn, hsl.wide fun k hk => ⟨by omega, hk.2⟩, ?_, rfl⟩⟩
        unfold bestF; rw [succs_some hn]; rfl
    obtain ⟨gn, s7, s8, rfl, hst⟩ := hst
    have Hst := Lib.hid hst; clear hst
    clear hcs u0 u1 u2 u3
    go_wp2
    go_loopg [5, 6, 7, 8] gn (fun g s5 s6 s7 s8 wr => Hid (Below W0.heap.size W0 wr) ∧ W0.heap.size ≤ wr.heap.size ∧ Hid (SrchAt f W0 g s5 s6 s7 s8 wr))
    case atStart => exact ⟨Hb4, z4, Hst⟩
    case round =>
      obtain ⟨hb, hsz, hst⟩ := hrel
      obtain ⟨wo, rfl⟩ : ∃ wo : World, wo = wr := ⟨_, rfl⟩
      obtain ⟨best, least, A6, c6, rfl, rfl, hbs, ⟨rfl, hfin⟩ | ⟨x, A, c, rfl, rfl, hbox, hxs, hfold, hg⟩⟩ := hst.out
      · have Hfin := Lib.hid hfin; clear hfin
        have Hbs := Lib.hid hbs; clear hbs
        go_wp2
        go_ret3
        refine ⟨Hb0.out.trans (hb.out.mono (by omega)), .inr ⟨Hck.out, A6, c6, by rw [Hfin.out]; rfl, ?_⟩⟩
        rw [Hfin.out]
        exact Hbs.out.wide fun k hk => ⟨by omega, hk.2⟩
      · cases gk with
        | zero => omega
        | succ g =>
          obtain ⟨u0, u1, u2, u3⟩ := Cells.out wo hb.out
          have hok := cubOk_box Hv.out hbox
          have hsum := sum_calls f (some ⟨b0, o0, none⟩) c1 A2 c2 A3 c3 A4 c4 x A c wo (H0.out.later hb.out) (hxs.wide fun k hk => hk.2) hok
          have Hsum := Lib.hid hsum; clear hsum
          have Hbs := Lib.hid hbs; clear hbs
          have Hbox := Lib.hid hbox; clear hbox
          have Hxs := Lib.hid hxs; clear hxs
          have Hfold := Lib.hid hfold; clear hfold
          have Hg := Lib.hid hg; clear hg
          have Hok := Lib.hid hok; clear hok
          go_wp2_with fail
          refine Hsum.out.mono ?_
          rintro e w5 ⟨rfl, hb5⟩
          have Hb5 := Lib.hid (hb.out.trans (hb5.mono hsz))
          have z5 := Hb5.out.size
          have hxs5 := sl_later Hxs.out hb5
          have hbs5 := sl_later Hbs.out hb5
          clear u0 u1 u2 u3
          obtain ⟨u0, u1, u2, u3⟩ := Cells.out w5 Hb5.out
          have hnx := next_calls f.lo f.hi x (some ⟨b0, o0, none⟩) c1 A2 c2 A c w5 (H0.out.later Hb5.out).l (H0.out.later Hb5.out).h (hxs5.wide fun k hk => hk.2) P6.out Hbox.out Hne.out p2
          have Hxs5 := Lib.hid hxs5; clear hxs5
          have Hbs5 := Lib.hid hbs5; clear hbs5
          have Hnx := Lib.hid hnx; clear hnx
          clear hb5
          obtain ⟨cx, hcx⟩ : ∃ cx, boundF f.terms f.goals x x = cx := ⟨_, rfl⟩
          have hcc : costF f x = cx := hcx
          rw [hcx]
          have Hcx := Lib.hid hcx; clear hcx
          have Hcc := Lib.hid hcc; clear hcc
          by_cases hlt : cx < least
          all_goals
            go_wp2_with fail
            refine Hnx.out.mono ?_
            rintro e w6 ⟨hb6, hcs⟩
            have Hb6 := Lib.hid (Hb5.out.trans (hb6.mono z5))
            have z6 := Hb6.out.size
            have hxs6 := sl_later Hxs5.out hb6
            have hbs6 := sl_later Hbs5.out hb6
            have z56 := hb6.size
            have Hxs6 := Lib.hid hxs6; clear hxs6
            have Hbs6 := Lib.hid hbs6; clear hbs6
            clear hb6
          · have hfo : bestF f = (succs f.lo f.hi x).foldl (bestStep f) (x, cx) := by rw [Hfold.out, List.foldl_cons, bestStep_lt (by rw [Hcc.out]; exact hlt), Hcc.out]
            have hst2 : ∃ g' s7 s8, g' ≤ g ∧ e = .returned (.tuple #[s7, s8]) ∧ SrchAt f W0 g' (.slice A x.length c) (.int .i64 cx) s7 s8 w6 := by
              have hgl := Hg.out
              rcases hcs with ⟨hn, rfl⟩ | ⟨y, A', c', hn, rfl, hsl⟩
              · refine ⟨0, _, _, Nat.zero_le _, rfl, x, _, A, c, rfl, rfl, Hxs6.out, .inl ⟨rfl, ?_⟩⟩
                rw [hfo, succs_none hn]; rfl
              · rw [succs_some hn] at hgl
                refine ⟨_, _, _, ?_, rfl, x, _, A, c, rfl, rfl, Hxs6.out, .inr ⟨y, A', c', rfl, rfl, inBox_next Hlo.out Hbox.out hn, hsl.wide fun k hk => ⟨by omega, hk.2⟩, ?_, rfl⟩⟩
                · simp at hgl; omega
                · rw [hfo, succs_some hn]
            obtain ⟨g', s7, s8, hg', rfl, hst2⟩ := hst2
            have Hst2 := Lib.hid hst2; clear hst2
            clear hcs hfo
            go_wp2
            go_roundg g'
            case measure => omega
            case rel => exact ⟨Hb6, z6, Hst2⟩
          · have hfo : bestF f = (succs f.lo f.hi x).foldl (bestStep f) (best, least) := by rw [Hfold.out, List.foldl_cons, bestStep_ge (by rw [Hcc.out]; omega)]
            have hst2 : ∃ g' s7 s8, g' ≤ g ∧ e = .returned (.tuple #[s7, s8]) ∧ SrchAt f W0 g' (.slice A6 best.length c6) (.int .i64 least) s7 s8 w6 := by
              have hgl := Hg.out
              rcases hcs with ⟨hn, rfl⟩ | ⟨y, A', c', hn, rfl, hsl⟩
              · refine ⟨0, _, _, Nat.zero_le _, rfl, best, _, A6, c6, rfl, rfl, Hbs6.out, .inl ⟨rfl, ?_⟩⟩
                rw [hfo, succs_none hn]; rfl
              · rw [succs_some hn] at hgl
                refine ⟨_, _, _, ?_, rfl, best, _, A6, c6, rfl, rfl, Hbs6.out, .inr ⟨y, A', c', rfl, rfl, inBox_next Hlo.out Hbox.out hn, hsl.wide fun k hk => ⟨by omega, hk.2⟩, ?_, rfl⟩⟩
                · simp at hgl; omega
                · rw [hfo, succs_some hn]
            obtain ⟨g', s7, s8, hg', rfl, hst2⟩ := hst2
            have Hst2 := Lib.hid hst2; clear hst2
            clear hcs hfo
            go_wp2
            go_roundg g'
            case measure => omega
            case rel => exact ⟨Hb6, z6, Hst2⟩
  · have e0 : (checkFit f != 0) = true := by simp [hck]
    have Hck := Lib.hid hck; clear hck
    go_enter Try.func19, Try.ntmps19
    go_wp2_with fail
    rw [← HW0.out]
    go_wp2_with fail
    refine (refFCheck_calls f A1 c1 A2 c2 A3 c3 A4 c4 W0 H0.out).mono ?_
    rintro e w1 ⟨rfl, hb1⟩
    have z1 := hb1.size
    have Hb1 := Lib.hid hb1; clear hb1
    obtain ⟨x0, x1, x2, x3⟩ := Cells.out w1 Hb1.out
    go_wp2_with fail
    refine (refFCheck_calls f A1 c1 A2 c2 A3 c3 A4 c4 w1 (H0.out.later Hb1.out)).mono ?_
    rintro e w2 ⟨rfl, hb2⟩
    have Hb2 := Lib.hid (Hb1.out.trans (hb2.mono z1)); clear hb2
    have z2 := Hb2.out.size
    go_wp2
    go_ret3
    exact ⟨Hb0.out.trans (Hb2.out.mono (by omega)), .inl ⟨Hck.out, rfl⟩⟩
end Go.Proofs.Ytfeafembifdklaa
