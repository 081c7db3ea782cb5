/-
  Layer 43: the walk of the reference's search for a certificate.
-/
import Derived.Test.YtfeafembifdklaaYc
import Derived.Test.YtfeafembifdklaaZh
import Derived.StillTailTactics
namespace Go.Proofs.Ytfeafembifdklaa
open Go.RowKit Go.Sort
set_option linter.unusedVariables false

section
variable {B : Nat} {w w1 w2 w3 w' : World} {v v1 v2 v3 v' : Value}
theorem Grew.trans' (h : Grew B w1 w2 v1 v2) (k : Grew B w2 w3 v2 v3) : Grew B w1 w3 v1 v3 where
  bel := h.bel.trans k.bel
  oth q hq hn := (k.oth q (Nat.lt_of_lt_of_le hq h.bel.size) fun e => by
    rcases h.blk with e1 | ⟨j, e1, e2⟩
    · exact hn (e.trans e1)
    · rw [e1] at e; injection e with e; omega).trans (h.oth q hq hn)
  blk := by
    rcases k.blk with e1 | ⟨j, e1, e2⟩
    · rw [e1]; exact h.blk
    · exact .inr ⟨j, e1, Nat.le_trans h.bel.size e2⟩
theorem grew_below (hb : Below w.heap.size w w') (h : B ≤ w.heap.size) : Grew B w w' v v := ⟨hb.mono h, fun k hk _ => hb.block k hk, .inl rfl⟩
/-- all but the list's own row; G: where cubes' rows may lie -/
def Off (G : Nat → Prop) (v : Value) (w : World) (k : Nat) : Prop := (k < w.heap.size ∧ some k ≠ v.ownBlock) ∧ G k
def All (_ : Nat) : Prop := True
variable {G : Nat → Prop}
theorem off_grew (hg : Grew B w w' v v') : ∀ k, Off G v w k → w'.heap[k]? = w.heap[k]? ∧ Off G v' w' k := fun k ⟨⟨h1, h2⟩, h3⟩ =>
  ⟨hg.oth k h1 h2, ⟨Nat.lt_of_lt_of_le h1 hg.bel.size, fun e => by
    rcases hg.blk with e1 | ⟨j, e1, e2⟩
    · exact h2 (e.trans e1)
    · rw [e1] at e; injection e with e; omega⟩, h3⟩
theorem off_sl {A : Option Addr} {c : Nat} {xs : List Int} (h : SlAt (pI .i64) (Off G v w) w A c xs) (hg : Grew B w w' v v') : SlAt (pI .i64) (Off G v' w') w' A c xs :=
  (h.keep fun k hk => (off_grew hg k hk).1).wide fun k hk => (off_grew hg k hk).2
theorem off_old {A : Option Addr} {c : Nat} {xs : List Int} (h : SlAt (pI .i64) (Off G v w) w A c xs) : SlAt (pI .i64) (Old w) w A c xs := h.wide fun _ hk => hk.1.1
theorem off_fit {f : Fit} (A1 : Option Addr) (c1 : Nat) (A2 : Option Addr) (c2 : Nat) (A3 : Option Addr) (c3 : Nat) (A4 : Option Addr) (c4 : Nat) (h : FitAt f (Off G v w) w A1 c1 A2 c2 A3 c3 A4 c4) (hg : Grew B w w' v v') : FitAt f (Off G v' w') w' A1 c1 A2 c2 A3 c3 A4 c4 := h.keep (off_grew hg)
theorem off_fit_old {f : Fit} (A1 : Option Addr) (c1 : Nat) (A2 : Option Addr) (c2 : Nat) (A3 : Option Addr) (c3 : Nat) (A4 : Option Addr) (c4 : Nat) (h : FitAt f (Off G v w) w A1 c1 A2 c2 A3 c3 A4 c4) : FitAt f (Old w) w A1 c1 A2 c2 A3 c3 A4 c4 := h.keep fun k hk => ⟨rfl, hk.1.1⟩
/-- the list has grown, and its row lies in memory -/
def GrewIn (B : Nat) (w w' : World) (v v' : Value) : Prop := Grew B w w' v v' ∧ ∀ k, v'.ownBlock = some k → k < w'.heap.size
theorem grewIn_below (hb : Below w1.heap.size w1 w2) (h : GrewIn B w w1 v v') (hB : B ≤ w.heap.size) : GrewIn B w w2 v v' :=
  ⟨h.1.trans' (grew_below hb (Nat.le_trans hB h.1.bel.size)), fun k hk => Nat.lt_of_lt_of_le (h.2 k hk) hb.size⟩
/-- new rows stand apart from the list -/
theorem new_off {A : Option Addr} {c : Nat} {xs : List Int} (hs : SlAt (pI .i64) (New w1 w2) w2 A c xs) (h : GrewIn B w w1 v v') (hG : ∀ k, w1.heap.size ≤ k → G k) : SlAt (pI .i64) (Off G v' w2) w2 A c xs :=
  hs.wide fun k hk => ⟨⟨hk.2, fun e => by have := h.2 k e.symm; have := hk.1; omega⟩, hG k hk.1⟩
end
theorem below_thenW {w0 W W' : World} (k : Below W.heap.size W W') (h : Below w0.heap.size w0 W) : Below w0.heap.size w0 W' := h.trans (k.mono h.size)
def ProofPost (B : Nat) (G : Nat → Prop) (w : World) (v : Value) (out : List Cub) (e : Ending) (w' : World) : Prop :=
  ∃ A n c, e = .returned (.slice A n c) ∧ Own pCub 40 B G w' (.slice A n c) out ∧ Grew B w w' v (.slice A n c)

set_option maxRecDepth 100000 in
set_option maxHeartbeats 8000000 in
theorem proof_calls (f : Fit) (least : Int) (B : Nat) (G : Nat → Prop) (hG : ∀ k, B ≤ k → G k) (A1 : Option Addr) (c1 : Nat) (A2 : Option Addr) (c2 : Nat) (A3 : Option Addr) (c3 : Nat) (A4 : Option Addr) (c4 : Nat) : ∀ (N : Nat) (lo hi : List Int) (B1 : Option Addr) (d1 : Nat) (B2 : Option Addr) (d2 : Nat) (w : World) (A : Option Addr) (n c : Nat) (out : List Cub),
    B ≤ w.heap.size → FitAt f (Off All (.slice A n c) w) w A1 c1 A2 c2 A3 c3 A4 c4 → SlAt (pI .i64) (Off G (.slice A n c) w) w B1 d1 lo → SlAt (pI .i64) (Off G (.slice A n c) w) w B2 d2 hi → CubOk f lo hi → (∀ y, InBox lo hi y → least ≤ costF f y) → span lo hi < N → out.length ≤ 2001 →
    Own pCub 40 B G w (.slice A n c) out →
    Calls Try.prog 20 #[.agg #[.slice A1 f.lo.length c1, .slice A2 f.hi.length c2, .slice A3 f.terms.length c3, .slice A4 f.goals.length c4], .agg #[.slice B1 lo.length d1, .slice B2 hi.length d2], .int .i64 least, .slice A n c] w (ProofPost B G w (.slice A n c) (lookF f least N lo hi out)) := by
  intro N
  induction N with
  | zero => intro lo hi B1 d1 B2 d2 w A n c out _ _ _ _ _ _ hN; omega
  | succ N ih =>
  intro lo hi B1 d1 B2 d2 w A n c out hB hfit hl hh hok hmin hN ho hown
  have hlen : out.length = n := hown.sl'.1
  have m1 := hl.lenle
  have m2 := hh.lenle
  have m3 := hown.sl'.2.lenle
  rw [hlen] at m3
  obtain ⟨W0, hW0⟩ : ∃ W0, W0 = w.alloc (.cells #[.slice A1 f.lo.length c1, .slice A2 f.hi.length c2, .slice A3 f.terms.length c3, .slice A4 f.goals.length c4] 25) := ⟨_, rfl⟩
  have hb0 : Below w.heap.size w W0 := by rw [hW0]; exact (Below.refl _ _).alloc (Nat.le_refl _) _
  have hz0 : w.heap.size + 1 ≤ W0.heap.size := by rw [hW0]; simp
  have hl0 : w.heap.size < W0.heap.size := by omega
  have hbl0 : Blk W0 w.heap.size 25 #[.slice A1 f.lo.length c1, .slice A2 f.hi.length c2, .slice A3 f.terms.length c3, .slice A4 f.goals.length c4] := by rw [hW0]; exact Blk.new _ _ _
  obtain ⟨W1, hW1⟩ : ∃ W1, W1 = W0.alloc (.cells #[.slice B1 lo.length d1, .slice B2 hi.length d2] 40) := ⟨_, rfl⟩
  have e0 : W0.heap.size = w.heap.size + 1 := by rw [hW0]; simp
  have hb1 : Below W0.heap.size W0 W1 := by rw [hW1]; exact (Below.refl _ _).alloc (Nat.le_refl _) _
  have hbl1 : Blk W1 (w.heap.size + 1) 40 #[.slice B1 lo.length d1, .slice B2 hi.length d2] := by rw [hW1, ← e0]; exact Blk.new _ _ _
  have e1 : W1.heap.size = w.heap.size + 2 := by rw [hW1]; simp [e0]
  have hbw : Below w.heap.size w W1 := hb0.trans (hb1.mono (by omega))
  have hbf := hbl0.same (hb1.block _ hl0)
  have hg0 : Grew B w W1 (.slice A n c) (.slice A n c) := grew_below hbw hB
  have hf1 := off_fit A1 c1 A2 c2 A3 c3 A4 c4 hfit hg0
  have hl1 := off_sl hl hg0
  have hh1 := off_sl hh hg0
  have ho1 := hown.later hbw
  have hB1 : B ≤ W1.heap.size := by omega
  have hne0 : ∀ k, (Value.slice A n c).ownBlock = some k → k < w.heap.size := fun k hk => (hown.lt k hk).2
  have hcells : ∀ (W : World) (v' : Value), Grew B W1 W (.slice A n c) v' → W.cell? ⟨w.heap.size, 0, none⟩ = some (.slice A1 f.lo.length c1) ∧ W.cell? ⟨w.heap.size, 1, none⟩ = some (.slice A2 f.hi.length c2) ∧ W.cell? ⟨w.heap.size, 2, none⟩ = some (.slice A3 f.terms.length c3) ∧ W.cell? ⟨w.heap.size, 3, none⟩ = some (.slice A4 f.goals.length c4) ∧
      W.cell? ⟨w.heap.size + 1, 0, none⟩ = some (.slice B1 lo.length d1) ∧ W.cell? ⟨w.heap.size + 1, 1, none⟩ = some (.slice B2 hi.length d2) := fun W v' hg => by
    have h1 := (hbf.same (hg.oth w.heap.size (by omega) fun e => by have := hne0 _ e.symm; omega)).four
    have h2 := (hbl1.same (hg.oth (w.heap.size + 1) (by omega) fun e => by have := hne0 _ e.symm; omega)).two
    exact ⟨h1.1, h1.2.1, h1.2.2.1, h1.2.2.2, h2.1, h2.2⟩
  obtain ⟨y0, y1, y2, y3, y4, y5⟩ := hcells W1 _ (grew_below (Below.refl _ _) hB1)
  clear hfit hl hh hown hb1 hbl1 hbl0 hbf
  have HW0 := Lib.hid hW0; clear hW0
  have HW1 := Lib.hid hW1; clear hW1
  have Hb0 := Lib.hid hb0; clear hb0
  have Hbw := Lib.hid hbw; clear hbw
  have Hg0 := Lib.hid hg0; clear hg0
  have Hf1 := Lib.hid hf1; clear hf1
  have Hl1 := Lib.hid hl1; clear hl1
  have Hh1 := Lib.hid hh1; clear hh1
  have Ho1 := Lib.hid ho1; clear ho1
  have Hok := Lib.hid hok; clear hok
  have Hmin := Lib.hid hmin; clear hmin
  have HN := Lib.hid hN; clear hN
  have Ih := Lib.hid ih; clear ih
  have Hlen := Lib.hid hlen; clear hlen
  have Hcells := Lib.hid hcells; clear hcells
  have E0 := Lib.hid e0; clear e0
  have E1 := Lib.hid e1; clear e1
  go_enter Try.func20, Try.ntmps20
  go_upto_region 1 with fail
  (try rw [← HW0.out])
  (try rw [← HW1.out])
  by_cases h1 : 2000 < n
  · have hr : lookF f least (N + 1) lo hi out = out := by rw [lookF, if_pos (by rw [Hlen.out]; exact h1)]
    have Hr := Lib.hid hr; clear hr
    go_wp2
    go_ret
    exact ⟨A, n, c, rfl, by rw [Hr.out]; exact Ho1.out, Hg0.out⟩
  have bc := bound_calls f A1 c1 A2 c2 A3 c3 A4 c4 lo hi B1 d1 B2 d2 W1 (off_fit_old A1 c1 A2 c2 A3 c3 A4 c4 Hf1.out) (off_old Hl1.out) (off_old Hh1.out) Hok.out
  obtain ⟨bv, hbv⟩ : ∃ bv, boundF f.terms f.goals lo hi = bv := ⟨_, rfl⟩
  rw [hbv] at bc
  have Bc := Lib.hid bc; clear bc
  have Hbv := Lib.hid hbv; clear hbv
  go_wp2_with fail
  refine Bc.out.mono ?_
  rintro e w2 ⟨rfl, hb2⟩
  have hg2 : Grew B W1 w2 (.slice A n c) (.slice A n c) := grew_below hb2 hB1
  clear y0 y1 y2 y3 y4 y5
  obtain ⟨y0, y1, y2, y3, y4, y5⟩ := Hcells.out w2 _ hg2
  have hf2 := off_fit A1 c1 A2 c2 A3 c3 A4 c4 Hf1.out hg2
  have hl2 := off_sl Hl1.out hg2
  have hh2 := off_sl Hh1.out hg2
  have ho2 := Ho1.out.later hb2
  have hB2 : B ≤ w2.heap.size := Nat.le_trans hB1 hb2.size
  have hz2 := hb2.size
  have Hg2 := Lib.hid hg2; clear hg2
  have Hb2 := Lib.hid hb2; clear hb2
  have Hf2 := Lib.hid hf2; clear hf2
  have Hl2 := Lib.hid hl2; clear hl2
  have Hh2 := Lib.hid hh2; clear hh2
  have Ho2 := Lib.hid ho2; clear ho2
  by_cases h2 : least ≤ bv
  · have hr : lookF f least (N + 1) lo hi out = out ++ [⟨lo, hi⟩] := by rw [lookF, if_neg (by rw [Hlen.out]; exact h1), if_pos (by rw [Hbv.out]; exact h2)]
    have hln : out.length + 1 = n + 1 := by rw [Hlen.out]
    have hrm : Room out.length := room_of (by omega)
    have Hr := Lib.hid hr; clear hr
    have Hln := Lib.hid hln; clear hln
    have Hrm := Lib.hid hrm; clear hrm
    go_wp2_with ((with_reducible show wpList _ _ _ (Oper.mk (some 23) _ _ _ _ _ :: _) _ _); refine wpList_pushG (E := pCub) (xs := out) (v := .slice A n c) (base := B) (G := G) 26 40 (.agg #[.slice none 0 0, .slice none 0 0]) 48 23 (.tmp 21) (.tmp 22) rfl rfl rfl rfl rfl Try.underlying26 info_cub rfl (by decide) (fun _ => rfl) (fun _ => rfl) Ho2.out (.agg #[.slice B1 lo.length d1, .slice B2 hi.length d2]) rfl ⟨lo, hi⟩ (Off G (.slice A n c) w2) ⟨B1, d1, B2, d2, rfl, Hl2.out, Hh2.out⟩ (fun k hk => ⟨hk.2, hk.1.1, hk.1.2⟩) (n + 1) Hln.out Hrm.out ⟨by decide, by decide⟩ hB2 ?_; intro A3' c3' w3 hown3 hg3)
    go_ret
    exact ⟨_, _, _, rfl, by rw [Hr.out]; exact hown3.out, Hg0.out.trans' (Hg2.out.trans' hg3.out)⟩
  have hr : lookF f least (N + 1) lo hi out = lookF f least N (lo.set (widest lo hi) (midF lo hi (widest lo hi) + 1)) hi (lookF f least N lo (hi.set (widest lo hi) (midF lo hi (widest lo hi))) out) := by
    rw [lookF, if_neg (by rw [Hlen.out]; exact h1), if_neg (by rw [Hbv.out]; exact h2)]
  obtain ⟨a, b, hsp⟩ := split_of Hok.out Hmin.out (by rw [Hbv.out]; exact h2)
  have hhl : hi.length = lo.length := Hok.out.h.trans Hok.out.l.symm
  have h0l : 0 < lo.length := by rw [Hok.out.l]; exact (valid_parts Hok.out.v).1
  have h4l : lo.length ≤ 4 := by rw [Hok.out.l]; exact (valid_parts Hok.out.v).2.1
  obtain ⟨kw, hkw⟩ : ∃ kw, widest lo hi = kw := ⟨_, rfl⟩
  obtain ⟨mw, hmw⟩ : ∃ mw, midF lo hi (widest lo hi) = mw := ⟨_, rfl⟩
  rw [hmw] at hr hsp
  rw [hkw] at hr hsp
  have hw1 : wideGo 0 (wid lo hi 0) 1 (lo.drop 1) (hi.drop 1) = kw := by
    have d1 : lo.drop 0 = lo[0] :: lo.drop 1 := List.drop_eq_getElem_cons h0l
    have d2 : hi.drop 0 = (hi[0]'(by omega)) :: hi.drop 1 := List.drop_eq_getElem_cons (by omega)
    have hw0 : wid lo hi 0 = (hi[0]'(by omega)) - lo[0] := by unfold wid; rw [getD_drop d1, getD_drop d2]
    have hst := wideGo_step (k := 0) (m := wid lo hi 0) d1 d2
    rw [if_neg (by rw [hw0]; omega)] at hst
    rw [← hst]
    exact hkw
  have hge : ¬ (bv ≥ least) := h2
  have Hr := Lib.hid hr; clear hr
  have Hsp := Lib.hid hsp; clear hsp
  have Hhl := Lib.hid hhl; clear hhl
  have Hkw := Lib.hid hkw; clear hkw
  have Hmw := Lib.hid hmw; clear hmw
  have Hw1 := Lib.hid hw1; clear hw1
  go_wp2
  go_loopw [9, 10] (fun kk i wr => ∃ (k j : Nat), k < lo.length ∧ j ≤ lo.length ∧ kk = .int .i64 k ∧ i = .int .i64 j ∧ Hid (wideGo k (wid lo hi k) j (lo.drop j) (hi.drop j) = kw) ∧ Hid (∃ n, wr = w2.drewN n)) (fun _ i _ => lo.length - (intOf i).toNat)
  case atStart => exact ⟨0, 1, h0l, h0l, rfl, rfl, Hw1.out, 0, rfl⟩
  case round =>
    obtain ⟨k, j, hk, hj, rfl, rfl, hin, hdr⟩ := hrel
    obtain ⟨wo, rfl⟩ : ∃ wo : World, wo = wr := ⟨_, rfl⟩
    have hb : Below w2.heap.size w2 wo := by obtain ⟨n, rfl⟩ := hdr.out; exact below_drewN (Below.refl _ _) n
    have hgo : Grew B w2 wo (.slice A n c) (.slice A n c) := grew_below hb hB2
    have hgo1 := Hg2.out.trans' hgo
    clear y0 y1 y2 y3 y4 y5
    obtain ⟨y0, y1, y2, y3, y4, y5⟩ := Hcells.out wo _ hgo1
    have hlo := off_old (off_sl Hl2.out hgo)
    have hho := off_old (off_sl Hh2.out hgo)
    by_cases hlt : j < lo.length
    · have hjh : j < hi.length := by rw [Hhl.out]; exact hlt
      have hkh : k < hi.length := by rw [Hhl.out]; exact hk
      obtain ⟨b1, o1, x1, hd1, e1', _, hc1, hf1'⟩ := hlo.getI hlt
      obtain ⟨b2, o2, x2, hd2, e2', _, hc2, hf2'⟩ := hho.getI hjh
      obtain ⟨b3, o3, x3, hd3, e3', _, hc3, hf3'⟩ := hlo.getI hk
      obtain ⟨b4, o4, x4, hd4, e4', _, hc4, hf4'⟩ := hho.getI hkh
      subst e1' e2'
      injection e3' with e3'
      injection e3' with e3' e3'' _
      subst e3' e3''
      injection e4' with e4'
      injection e4' with e4' e4'' _
      subst e4' e4''
      have g1 := okB_iff.1 (allB_get Hok.out.b j x1 x2 (get_of_drop hd1.out) (get_of_drop hd2.out))
      have g2 := okB_iff.1 (allB_get Hok.out.b k x3 x4 (get_of_drop hd3.out) (get_of_drop hd4.out))
      have hwk : wid lo hi k = x4 - x3 := by unfold wid; rw [getD_drop hd3.out, getD_drop hd4.out]
      have hwj : wid lo hi j = x2 - x1 := by unfold wid; rw [getD_drop hd1.out, getD_drop hd2.out]
      have hst := hin.out
      rw [wideGo_step hd1.out hd2.out] at hst
      have e5 : IntKind.i64.wrap (x2 - x1) = x2 - x1 := IntWalk.i64_in _ (by omega)
      have e6 : IntKind.i64.wrap (x4 - x3) = x4 - x3 := IntWalk.i64_in _ (by omega)
      have hj0 : (0 : Int) ≤ (j : Int) := Int.natCast_nonneg _
      have hk0 : (0 : Int) ≤ (k : Int) := Int.natCast_nonneg _
      have hj1 : (j : Int) < (lo.length : Int) := by omega
      have hj2 : (j : Int) < (hi.length : Int) := by omega
      have hk1 : (k : Int) < (lo.length : Int) := by omega
      have hk2 : (k : Int) < (hi.length : Int) := by omega
      clear hd1 hd2 hd3 hd4
      have Hst := Lib.hid hst; clear hst
      have Hwk := Lib.hid hwk; clear hwk
      have Hwj := Lib.hid hwj; clear hwj
      have Hlo := Lib.hid hlo; clear hlo
      have Hho := Lib.hid hho; clear hho
      have Hgo := Lib.hid hgo; clear hgo
      have Hgo1 := Lib.hid hgo1; clear hgo1
      have Hb := Lib.hid hb; clear hb
      by_cases hgt : x4 - x3 < x2 - x1
      · go_wp2
        go_quiet (fail)
        go_wp2
        go_roundw
        case rel =>
          refine ⟨j, j + 1, hlt, by omega, rfl, by go_num, ?_, ?_⟩
          · have := Hst.out
            rw [Hwk.out, if_pos hgt] at this
            unfold Hid; rw [Hwj.out]; exact this
          · obtain ⟨n, hn⟩ := hdr.out
            exact ⟨_, by rw [hn]; exact World.drewN_drewN _ _ _⟩
        case measure => simp [intOf]; omega
      · go_wp2
        go_quiet (fail)
        go_wp2
        go_roundw
        case rel =>
          refine ⟨k, j + 1, hk, by omega, rfl, by go_num, ?_, ?_⟩
          · have := Hst.out
            rw [Hwk.out, if_neg (Int.not_lt.2 hgt)] at this
            unfold Hid; rw [Hwk.out]; exact this
          · obtain ⟨n, hn⟩ := hdr.out
            exact ⟨_, by rw [hn]; exact World.drewN_drewN _ _ _⟩
        case measure => simp [intOf]; omega
    · have hkk : k = kw := by
        have h1 := hin.out
        rw [List.drop_eq_nil_of_le (by omega : lo.length ≤ j)] at h1
        exact h1
      subst hkk
      clear hin hdr hj
      have hkh : k < hi.length := by rw [Hhl.out]; exact hk
      obtain ⟨b1, o1, x1', hd1, e1', _, hc1, hf1'⟩ := hlo.getI hk
      obtain ⟨b2, o2, x2', hd2, e2', _, hc2, hf2'⟩ := hho.getI hkh
      have e3' : x1' = a := by have h1 := get_of_drop hd1.out; rw [Hsp.out.ka] at h1; exact (Option.some.inj h1).symm
      have e4' : x2' = b := by have h1 := get_of_drop hd2.out; rw [Hsp.out.kb] at h1; exact (Option.some.inj h1).symm
      clear hd1 hd2
      subst e1' e2' e3' e4'
      have g1 := okB_iff.1 (allB_get Hok.out.b k _ _ Hsp.out.ka Hsp.out.kb)
      have hle := Hsp.out.le
      have hem := Hsp.out.em
      have hk0 : (0 : Int) ≤ (k : Int) := Int.natCast_nonneg _
      have hk1 : (k : Int) < (lo.length : Int) := by omega
      have hk2 : (k : Int) < (hi.length : Int) := by omega
      have e5 : IntKind.i64.wrap (x2' - x1') = x2' - x1' := IntWalk.i64_in _ (by omega)
      have e6 : (x2' - x1').tdiv 2 = (x2' - x1') / 2 := Int.tdiv_eq_ediv_of_nonneg (by omega)
      have e7 : IntKind.i64.wrap ((x2' - x1') / 2) = (x2' - x1') / 2 := IntWalk.i64_in _ (by omega)
      have e8 : IntKind.i64.wrap (x1' + (x2' - x1') / 2) = mw := by rw [← hem]; exact IntWalk.i64_in _ (by omega)
      have hmb : -9223372036854775808 ≤ mw ∧ mw < 9223372036854775807 := by omega
      have Hem := Lib.hid hem; clear hem
      have Hlo := Lib.hid hlo; clear hlo
      have Hho := Lib.hid hho; clear hho
      have Hgo := Lib.hid hgo; clear hgo
      have Hgo1 := Lib.hid hgo1; clear hgo1
      have Hb := Lib.hid hb; clear hb
      go_wp2
      go_quiet (fail)
      generalize hwd : wo.drewN nq = wd
      have hbd : Below wo.heap.size wo wd := by rw [← hwd]; exact below_drewN (Below.refl _ _) nq
      have hgd : Grew B w2 wd (.slice A n c) (.slice A n c) := Hgo.out.trans' (grew_below hbd (Nat.le_trans hB2 Hgo.out.bel.size))
      clear hwd y0 y1 y2 y3 y4 y5 hc1 hc2
      have hBd : B ≤ wd.heap.size := Nat.le_trans hB2 hgd.bel.size
      have hfd := off_fit A1 c1 A2 c2 A3 c3 A4 c4 Hf2.out hgd
      have hld := off_sl Hl2.out hgd
      have hhd := off_sl Hh2.out hgd
      have hod : Own pCub 40 B G wd (.slice A n c) out := (Ho2.out.later Hb.out).later hbd
      have hwd1 : Grew B W1 wd (.slice A n c) (.slice A n c) := Hg2.out.trans' hgd
      have sk : ∀ (W : World) (v' : Value), GrewIn B wd W (.slice A n c) v' → W.cell? ⟨w.heap.size, 0, none⟩ = some (.slice A1 f.lo.length c1) ∧ W.cell? ⟨w.heap.size, 1, none⟩ = some (.slice A2 f.hi.length c2) ∧ W.cell? ⟨w.heap.size, 2, none⟩ = some (.slice A3 f.terms.length c3) ∧ W.cell? ⟨w.heap.size, 3, none⟩ = some (.slice A4 f.goals.length c4) ∧
          W.cell? ⟨w.heap.size + 1, 0, none⟩ = some (.slice (some ⟨b1, o1, none⟩) lo.length d1) ∧ W.cell? ⟨w.heap.size + 1, 1, none⟩ = some (.slice (some ⟨b2, o2, none⟩) hi.length d2) := fun W v' hg => Hcells.out W v' (hwd1.trans' hg.1)
      have hsz : ∀ (W : World) (v' : Value), GrewIn B wd W (.slice A n c) v' → B ≤ W.heap.size := fun W v' hg => Nat.le_trans hBd hg.1.bel.size
      have hGn : ∀ (W : World) (v' : Value), GrewIn B wd W (.slice A n c) v' → ∀ q, W.heap.size ≤ q → G q := fun W v' hg q hq => hG q (Nat.le_trans (hsz W v' hg) hq)
      have hcT : ∀ (W : World) (v' : Value), GrewIn B wd W (.slice A n c) v' → Calls Try.prog 33 #[.agg #[.slice (some ⟨b1, o1, none⟩) lo.length d1, .slice (some ⟨b2, o2, none⟩) hi.length d2], .int .i64 k, .int .i64 mw, .bool true] W fun e W' =>
          ∃ At ct Au cu, e = .returned (.agg #[.slice At lo.length ct, .slice Au hi.length cu]) ∧ Below W.heap.size W W' ∧ SlAt (pI .i64) (Off G v' W') W' At ct (lo.set k (mw + 1)) ∧ SlAt (pI .i64) (Off G v' W') W' Au cu hi ∧ GrewIn B wd W' (.slice A n c) v' := fun W v' hg => by
        refine (cut_calls lo hi _ d1 _ d2 k mw true W (off_old (off_sl hld hg.1)) (off_old (off_sl hhd hg.1)) Hhl.out hk h4l hmb).mono fun e W' hh => ?_
        obtain ⟨At, ct, Au, cu, he, hb, hs, hu⟩ := hh
        refine ⟨At, ct, Au, cu, he.trans (by simp [cutLo, cutHi]), hb, new_off hs hg (hGn W v' hg), new_off hu hg (hGn W v' hg), grewIn_below hb hg hBd⟩
      have hcF : ∀ (W : World) (v' : Value), GrewIn B wd W (.slice A n c) v' → Calls Try.prog 33 #[.agg #[.slice (some ⟨b1, o1, none⟩) lo.length d1, .slice (some ⟨b2, o2, none⟩) hi.length d2], .int .i64 k, .int .i64 mw, .bool false] W fun e W' =>
          ∃ Av cv Aw cw, e = .returned (.agg #[.slice Av lo.length cv, .slice Aw hi.length cw]) ∧ Below W.heap.size W W' ∧ SlAt (pI .i64) (Off G v' W') W' Av cv lo ∧ SlAt (pI .i64) (Off G v' W') W' Aw cw (hi.set k mw) ∧ GrewIn B wd W' (.slice A n c) v' := fun W v' hg => by
        refine (cut_calls lo hi _ d1 _ d2 k mw false W (off_old (off_sl hld hg.1)) (off_old (off_sl hhd hg.1)) Hhl.out hk h4l hmb).mono fun e W' hh => ?_
        obtain ⟨At, ct, Au, cu, he, hb, hs, hu⟩ := hh
        refine ⟨At, ct, Au, cu, he.trans (by simp [cutLo, cutHi]), hb, new_off hs hg (hGn W v' hg), new_off hu hg (hGn W v' hg), grewIn_below hb hg hBd⟩
      obtain ⟨out1, ho1'⟩ : ∃ out1, lookF f least N lo (hi.set k mw) out = out1 := ⟨_, rfl⟩
      have hol : out1.length ≤ 2001 := by rw [← ho1']; exact lookF_len f least N _ _ _ ho
      have hp3 : ∀ (W : World) (Av : Option Addr) (cv : Nat) (Aw : Option Addr) (cw : Nat), Below wd.heap.size wd W → SlAt (pI .i64) (Off G (.slice A n c) W) W Av cv lo → SlAt (pI .i64) (Off G (.slice A n c) W) W Aw cw (hi.set k mw) →
          Calls Try.prog 20 #[.agg #[.slice A1 f.lo.length c1, .slice A2 f.hi.length c2, .slice A3 f.terms.length c3, .slice A4 f.goals.length c4], .agg #[.slice Av lo.length cv, .slice Aw hi.length cw], .int .i64 least, .slice A n c] W fun e W' => ∃ A' n' c', e = .returned (.slice A' n' c') ∧ Own pCub 40 B G W' (.slice A' n' c') out1 ∧ GrewIn B wd W' (.slice A n c) (.slice A' n' c') ∧ Grew B W W' (.slice A n c) (.slice A' n' c') := fun W Av cv Aw cw hb hs hu => by
        have hg : Grew B wd W (.slice A n c) (.slice A n c) := grew_below hb hBd
        have := Ih.out lo (hi.set k mw) Av cv Aw cw W A n c out (Nat.le_trans hBd hb.size) (off_fit A1 c1 A2 c2 A3 c3 A4 c4 hfd hg) hs hu Hsp.out.c1 Hsp.out.m1 (by have := Hsp.out.s1; have := HN.out; omega) ho (hod.later hb)
        rw [ho1', List.length_set] at this
        refine this.mono fun e W' hh => ?_
        obtain ⟨A', n', c', he, hon, hgr⟩ := hh
        exact ⟨A', n', c', he, hon, ⟨hg.trans' hgr, fun q hq => (hon.lt q hq).2⟩, hgr⟩
      have hp4 : ∀ (W : World) (A' : Option Addr) (n' c' : Nat) (At : Option Addr) (ct : Nat) (Au : Option Addr) (cu : Nat), Own pCub 40 B G W (.slice A' n' c') out1 → GrewIn B wd W (.slice A n c) (.slice A' n' c') → SlAt (pI .i64) (Off G (.slice A' n' c') W) W At ct (lo.set k (mw + 1)) → SlAt (pI .i64) (Off G (.slice A' n' c') W) W Au cu hi →
          Calls Try.prog 20 #[.agg #[.slice A1 f.lo.length c1, .slice A2 f.hi.length c2, .slice A3 f.terms.length c3, .slice A4 f.goals.length c4], .agg #[.slice At lo.length ct, .slice Au hi.length cu], .int .i64 least, .slice A' n' c'] W fun e W' => ∃ A'' n'' c'', e = .returned (.slice A'' n'' c'') ∧ Own pCub 40 B G W' (.slice A'' n'' c'') (lookF f least (N + 1) lo hi out) ∧ GrewIn B wd W' (.slice A n c) (.slice A'' n'' c'') := fun W A' n' c' At ct Au cu hon hg hs hu => by
        have := Ih.out (lo.set k (mw + 1)) hi At ct Au cu W A' n' c' out1 (hsz W _ hg) (off_fit A1 c1 A2 c2 A3 c3 A4 c4 hfd hg.1) hs hu Hsp.out.c2 Hsp.out.m2 (by have := Hsp.out.s2; have := HN.out; omega) hol hon
        rw [List.length_set] at this
        refine this.mono fun e W' hh => ?_
        obtain ⟨A'', n'', c'', he, hon2, hgr⟩ := hh
        exact ⟨A'', n'', c'', he, by rw [Hr.out, ho1']; exact hon2, hg.1.trans' hgr, fun q hq => (hon2.lt q hq).2⟩
      have hGI : GrewIn B wd wd.drew (.slice A n c) (.slice A n c) := ⟨grew_below (below_drew (Below.refl _ _)) hBd, fun q hq => (hod.lt q hq).2⟩
      have hBW : Below wd.heap.size wd wd.drew := below_drew (Below.refl _ _)
      have hs6 := sk wd.drew _ hGI
      have hlast : Grew B w wd (.slice A n c) (.slice A n c) := Hg0.out.trans' hwd1
      have Hgd := Lib.hid hgd; clear hgd
      have Hfd := Lib.hid hfd; clear hfd
      have Hld := Lib.hid hld; clear hld
      have Hhd := Lib.hid hhd; clear hhd
      have Hod := Lib.hid hod; clear hod
      have Hwd1 := Lib.hid hwd1; clear hwd1
      have Sk := Lib.hid sk; clear sk
      have Hsz := Lib.hid hsz; clear hsz
      have HGn := Lib.hid hGn; clear hGn
      have HcT := Lib.hid hcT; clear hcT
      have HcF := Lib.hid hcF; clear hcF
      have Ho1' := Lib.hid ho1'; clear ho1'
      have Hol := Lib.hid hol; clear hol
      have Hp3 := Lib.hid hp3; clear hp3
      have Hp4 := Lib.hid hp4; clear hp4
      have Hlast := Lib.hid hlast; clear hlast
      have Hbd := Lib.hid hbd; clear hbd
      go_upto_region 12 with fail
      go_region_held3 (fun w' => w'.cell? ⟨w.heap.size, 0, none⟩ = some (.slice A1 f.lo.length c1) ∧ w'.cell? ⟨w.heap.size, 1, none⟩ = some (.slice A2 f.hi.length c2) ∧ w'.cell? ⟨w.heap.size, 2, none⟩ = some (.slice A3 f.terms.length c3) ∧ w'.cell? ⟨w.heap.size, 3, none⟩ = some (.slice A4 f.goals.length c4) ∧
          w'.cell? ⟨w.heap.size + 1, 0, none⟩ = some (.slice (some ⟨b1, o1, none⟩) lo.length d1) ∧ w'.cell? ⟨w.heap.size + 1, 1, none⟩ = some (.slice (some ⟨b2, o2, none⟩) hi.length d2))
        (assumption)
        (first
          | (go_at_call 33; with_reducible refine (HcT.out _ _ (by assumption)).mono ?_; rintro e wv ⟨At, ct, Au, cu, rfl, hbT, hsT, hsU, hGI⟩; have hs6 := Sk.out _ _ hGI; (try have hBW := below_thenW (w0 := wd) hbT (by assumption)); (try have hsV := off_sl hsV (grew_below hbT (Hsz.out _ _ (by assumption)))); (try have hsW := off_sl hsW (grew_below hbT (Hsz.out _ _ (by assumption)))); (try have hon := hon.later hbT))
          | (go_at_call 33; with_reducible refine (HcF.out _ _ (by assumption)).mono ?_; rintro e wv ⟨Av, cv, Aw, cw, rfl, hbF, hsV, hsW, hGI⟩; have hs6 := Sk.out _ _ hGI; (try have hBW := below_thenW (w0 := wd) hbF (by assumption)); (try have hsT := off_sl hsT (grew_below hbF (Hsz.out _ _ (by assumption)))); (try have hsU := off_sl hsU (grew_below hbF (Hsz.out _ _ (by assumption)))))
          | (go_at_call 20; with_reducible refine (Hp3.out _ _ _ _ _ ?_ ?_ ?_).mono ?_; assumption; assumption; assumption; rintro e wv ⟨A', n', c', rfl, hon, hGI, hgr⟩; have hs6 := Sk.out _ _ hGI; (try have hsT := off_sl hsT hgr); (try have hsU := off_sl hsU hgr))
          | (go_at_call 20; with_reducible refine (Hp4.out _ _ _ _ _ _ _ _ ?_ ?_ ?_ ?_).mono ?_; assumption; assumption; assumption; assumption; rintro e wz ⟨A'', n'', c'', rfl, hon2, hgz⟩; have hs6 := Sk.out _ _ hgz))
      all_goals
        go_wp2
        go_ret
        exact ⟨_, _, _, rfl, hon2, Hlast.out.trans' hgz.1⟩
end Go.Proofs.Ytfeafembifdklaa
