/-
  Layer 43: the walks of apart and of Accept.
-/
import Derived.Test.YtfeafembifdklaaZl
namespace Go.Proofs.Ytfeafembifdklaa
open Go.RowKit Go.Sort


def apartF : List Int → List Int → List Int → List Int → Bool
  | al :: als, ah :: ahs, bl :: bls, bh :: bhs => decide (ah < bl) || decide (bh < al) || apartF als ahs bls bhs
  | _, _, _, _ => false
def apC (a b : Cub) : Bool := apartF a.lo a.hi b.lo b.hi
theorem apartF_step {p q r s : List Int} {x y z u : Int} {k : Nat} (h0 : p.drop k = x :: p.drop (k + 1)) (h1 : q.drop k = y :: q.drop (k + 1)) (h2 : r.drop k = z :: r.drop (k + 1)) (h3 : s.drop k = u :: s.drop (k + 1)) :
    apartF (p.drop k) (q.drop k) (r.drop k) (s.drop k) = (decide (y < z) || decide (u < x) || apartF (p.drop (k + 1)) (q.drop (k + 1)) (r.drop (k + 1)) (s.drop (k + 1))) := by rw [h0, h1, h2, h3]; rfl

set_option maxRecDepth 100000 in
set_option maxHeartbeats 4000000 in
theorem apart_calls (a b : Cub) (B1 : Option Addr) (d1 : Nat) (B2 : Option Addr) (d2 : Nat) (B3 : Option Addr) (d3 : Nat) (B4 : Option Addr) (d4 : Nat) (w : World) (h1 : SlAt (pI .i64) (Old w) w B1 d1 a.lo) (h2 : SlAt (pI .i64) (Old w) w B2 d2 a.hi) (h3 : SlAt (pI .i64) (Old w) w B3 d3 b.lo) (h4 : SlAt (pI .i64) (Old w) w B4 d4 b.hi)
    (n1 : a.hi.length = a.lo.length) (n2 : b.lo.length = a.lo.length) (n3 : b.hi.length = a.lo.length) :
    Calls Try.prog 24 #[.agg #[.slice B1 a.lo.length d1, .slice B2 a.hi.length d2], .agg #[.slice B3 b.lo.length d3, .slice B4 b.hi.length d4]] w (BoolPost (apC a b) w) := by
  have m1 := h1.lenle
  have m2 := h2.lenle
  have m3 := h3.lenle
  have m4 := h4.lenle
  obtain ⟨W0, hW0⟩ : ∃ W0, W0 = (w.alloc (.cells #[.slice B1 a.lo.length d1, .slice B2 a.hi.length d2] 40)).alloc (.cells #[.slice B3 b.lo.length d3, .slice B4 b.hi.length d4] 40) := ⟨_, rfl⟩
  have hb0 : Below w.heap.size w W0 := by rw [hW0]; exact ((Below.refl _ _).alloc (Nat.le_refl _) _).alloc (by simp) _
  have hz0 : W0.heap.size = w.heap.size + 2 := by rw [hW0]; simp
  have hbf : Blk W0 w.heap.size 40 #[.slice B1 a.lo.length d1, .slice B2 a.hi.length d2] := by rw [hW0]; exact (Blk.new _ _ _).alloc _
  have hbc : Blk W0 (w.heap.size + 1) 40 #[.slice B3 b.lo.length d3, .slice B4 b.hi.length d4] := by
    rw [hW0]
    have := Blk.new (w.alloc (.cells #[.slice B1 a.lo.length d1, .slice B2 a.hi.length d2] 40)) 40 #[.slice B3 b.lo.length d3, .slice B4 b.hi.length d4]
    rwa [show (w.alloc (.cells #[.slice B1 a.lo.length d1, .slice B2 a.hi.length d2] 40)).heap.size = w.heap.size + 1 from by simp] at this
  have g1 := h1.later hb0
  have g2 := h2.later hb0
  have g3 := h3.later hb0
  have g4 := h4.later hb0
  have hzl : w.heap.size + 1 < W0.heap.size := by omega
  have G1 := Lib.hid g1; clear g1
  have G2 := Lib.hid g2; clear g2
  have G3 := Lib.hid g3; clear g3
  have G4 := Lib.hid g4; clear g4
  have Hb0 := Lib.hid hb0; clear hb0
  have Hbf := Lib.hid hbf; clear hbf
  have Hbc := Lib.hid hbc; clear hbc
  have Hz0 := Lib.hid hz0; clear hz0
  have HW0 := Lib.hid hW0; clear hW0
  have N1 := Lib.hid n1; clear n1
  have N2 := Lib.hid n2; clear n2
  have N3 := Lib.hid n3; clear n3
  clear h1 h2 h3 h4
  go_enter Try.func24, Try.ntmps24
  go_wp2
  rw [← HW0.out]
  go_loopw [9] (fun i wr => ∃ k : Nat, k ≤ a.lo.length ∧ i = .int .i64 k ∧ Hid (∃ n, wr = W0.drewN n) ∧ Hid (apC a b = apartF (a.lo.drop k) (a.hi.drop k) (b.lo.drop k) (b.hi.drop k))) (fun i _ => a.lo.length - (intOf i).toNat)
  case atStart => exact ⟨0, Nat.zero_le _, rfl, ⟨0, rfl⟩, rfl⟩
  case round =>
    obtain ⟨k, hk, rfl, hdr, hall⟩ := hrel
    obtain ⟨wo, rfl⟩ : ∃ wo : World, wo = wr := ⟨_, rfl⟩
    have hb : Below W0.heap.size W0 wo := by obtain ⟨n, rfl⟩ := hdr.out; exact below_drewN (Below.refl _ _) n
    have hbw : ∀ n, Below w.heap.size w (wo.drewN n) := fun n => below_drewN (Hb0.out.trans (hb.mono (by omega))) n
    have l1 := N1.out
    have l2 := N2.out
    have l3 := N3.out
    obtain ⟨x0, x1⟩ := (Hbf.out.same (hb.block _ (by omega))).two
    obtain ⟨y0, y1⟩ := (Hbc.out.same (hb.block _ hzl)).two
    by_cases hlt : k < a.lo.length
    · obtain ⟨b1, o1, x, hd0, rfl, hob1, hc0, hf0⟩ := (G1.out.below hb).getI hlt
      obtain ⟨b2, o2, y, hd1, rfl, hob2, hc1, hf1⟩ := (G2.out.below hb).getI (i := k) (by omega)
      obtain ⟨b3, o3, z, hd2, rfl, hob3, hc2, hf3⟩ := (G3.out.below hb).getI (i := k) (by omega)
      obtain ⟨b4, o4, u, hd3, rfl, hob4, hc3, hf4⟩ := (G4.out.below hb).getI (i := k) (by omega)
      have step := apartF_step hd0.out hd1.out hd2.out hd3.out
      have k0 := hf0.i64
      have k1 := hf1.i64
      have k2 := hf3.i64
      have k3 := hf4.i64
      have hk0 : (0 : Int) ≤ (k : Int) := Int.natCast_nonneg _
      have hk1 : (k : Int) < (a.lo.length : Int) := by omega
      have hk2 : (k : Int) < (a.hi.length : Int) := by omega
      have hk3 : (k : Int) < (b.lo.length : Int) := by omega
      have hk4 : (k : Int) < (b.hi.length : Int) := by omega
      have Step := Lib.hid step; clear step
      have Hbw := Lib.hid hbw; clear hbw
      have Hb := Lib.hid hb; clear hb
      have L1 := Lib.hid l1; clear l1
      have L2 := Lib.hid l2; clear l2
      have L3 := Lib.hid l3; clear l3
      by_cases c1 : y < z
      · have hn : apC a b = true := by rw [hall.out, Step.out, decide_eq_true c1]; rfl
        have Hn := Lib.hid hn; clear hn
        go_wp2
        go_quiet (fail)
        go_wp2
        go_ret
        exact ⟨by rw [Hn.out]; rfl, Hbw.out _⟩
      have e1 : decide (y < z) = false := decide_eq_false c1
      have qa := Lib.hid c1
      clear c1
      by_cases c1 : u < x
      · have hn : apC a b = true := by rw [hall.out, Step.out, decide_eq_true c1, Bool.or_true]; rfl
        have Hn := Lib.hid hn; clear hn
        go_wp2
        go_quiet (fail)
        go_wp2
        go_ret
        exact ⟨by rw [Hn.out]; rfl, Hbw.out _⟩
      have e2 : decide (u < x) = false := decide_eq_false c1
      have qb := Lib.hid c1
      clear c1
      go_wp2
      go_quiet (fail)
      go_wp2
      go_roundw
      case rel =>
        refine ⟨k + 1, by omega, by go_num, ?_, ?_⟩
        · obtain ⟨n, rfl⟩ := hdr.out
          exact ⟨_, World.drewN_drewN _ _ _⟩
        · have pa := qa.out
          have pb := qb.out
          unfold Hid; rw [hall.out, Step.out, decide_eq_false (show ¬ y < z by omega), decide_eq_false (show ¬ u < x by omega)]; rfl
      case measure => simp [intOf]; omega
    · have hn : apC a b = false := by rw [hall.out, drop_end (xs := a.lo) hlt]; rfl
      have hbw0 := hbw 0
      have Hn := Lib.hid hn; clear hn
      have Hbw := Lib.hid hbw; clear hbw
      have L1 := Lib.hid l1; clear l1
      have L2 := Lib.hid l2; clear l2
      have L3 := Lib.hid l3; clear l3
      clear hb
      go_wp2
      go_ret
      exact ⟨by rw [Hn.out]; rfl, hbw0⟩

def okCub (f : Fit) (cost : Int) (c : Cub) : Bool := withinF f c.lo c.hi && decide (cost ≤ boundF f.terms f.goals c.lo c.hi)
/-- the certificate from its cube number i on; rest: the tries that are not covered yet -/
def accGo (f : Fit) (cost : Int) (l : List Cub) : Nat → Int → List Cub → Bool
  | _, rest, [] => rest == 0
  | i, rest, c :: cs => okCub f cost c && (l.take i).all (fun d => apC c d) && accGo f cost l (i + 1) (rest - manyF 1 c.lo c.hi) cs
def acceptF (f : Fit) (cost : Int) (l : List Cub) : Bool × Int :=
  if checkFit f = 0 then (if 2000 < l.length then (false, 4) else (accGo f cost l 0 (manyF 1 f.lo f.hi) l, 0)) else (false, checkFit f)
def AccPost (x : Bool × Int) (w : World) (e : Ending) (w' : World) : Prop := e = .returned (.tuple #[.bool x.1, .int .i64 x.2]) ∧ Below w.heap.size w w'
theorem manyF_range : ∀ (lo hi : List Int) (a : Int), allB lo hi = true → 0 ≤ a → a ≤ 20001 → 0 ≤ manyF a lo hi ∧ manyF a lo hi ≤ 20001
  | [], hi, a, _, h0, h1 => by cases hi <;> exact ⟨h0, h1⟩
  | x :: lo, [], a, _, h0, h1 => ⟨h0, h1⟩
  | x :: lo, y :: hi, a, h, h0, h1 => by
    unfold allB at h
    rw [Bool.and_eq_true] at h
    obtain ⟨k1, k2, k3⟩ := okB_iff.1 h.1
    have hm := mul_bd2 h0 h1 (show 1 ≤ y - x + 1 by omega) (by omega)
    have hc := min_cap hm.1
    unfold manyF
    exact manyF_range lo hi _ h.2 hc.1 hc.2
theorem sl_take {α : Type} {E : Rp α} {F : Nat → Prop} {w : World} {A : Option Addr} {cap : Nat} {xs : List α} (h : SlAt E F w A cap xs) (i : Nat) : SlAt E F w A cap (xs.take i) :=
  ⟨Nat.le_trans (List.length_take_le' i xs) h.le, h.mx, h.nil, fun j x hx => h.el j x (by
    rw [List.getElem?_take] at hx
    split at hx
    · exact hx
    · cases hx)⟩

set_option maxRecDepth 100000 in
set_option maxHeartbeats 8000000 in
theorem accept_calls (f : Fit) (A1 : Option Addr) (c1 : Nat) (A2 : Option Addr) (c2 : Nat) (A3 : Option Addr) (c3 : Nat) (A4 : Option Addr) (c4 : Nat) (cost : Int) (l : List Cub) (B : Option Addr) (d : Nat) (w : World) (h : FitAt f (Old w) w A1 c1 A2 c2 A3 c3 A4 c4) (hl : SlAt pCub (Old w) w B d l) :
    Calls Try.prog 8 #[.agg #[.slice A1 f.lo.length c1, .slice A2 f.hi.length c2, .slice A3 f.terms.length c3, .slice A4 f.goals.length c4], .int .i64 cost, .slice B l.length d] w (AccPost (acceptF f cost l) w) := by
  have ml := hl.lenle
  obtain ⟨W0, hW0⟩ : ∃ W0, W0 = w.alloc (.cells #[.slice A1 f.lo.length c1, .slice A2 f.hi.length c2, .slice A3 f.terms.length c3, .slice A4 f.goals.length c4] 25) := ⟨_, rfl⟩
  have hb0 : Below w.heap.size w W0 := by rw [hW0]; exact (Below.refl _ _).alloc (Nat.le_refl _) _
  have hz0 : w.heap.size + 1 ≤ W0.heap.size := by rw [hW0]; simp
  have hl0 : w.heap.size < W0.heap.size := by omega
  have hbl0 : Blk W0 w.heap.size 25 #[.slice A1 f.lo.length c1, .slice A2 f.hi.length c2, .slice A3 f.terms.length c3, .slice A4 f.goals.length c4] := by rw [hW0]; exact Blk.new _ _ _
  have h0 := h.later hb0
  have h1 := hl.later hb0
  have cells : ∀ W : World, Below W0.heap.size W0 W → (W.cell? ⟨w.heap.size, 0, none⟩ = some (.slice A1 f.lo.length c1) ∧ W.cell? ⟨w.heap.size, 1, none⟩ = some (.slice A2 f.hi.length c2) ∧ W.cell? ⟨w.heap.size, 2, none⟩ = some (.slice A3 f.terms.length c3) ∧ W.cell? ⟨w.heap.size, 3, none⟩ = some (.slice A4 f.goals.length c4)) := fun W hW => (hbl0.same (hW.block _ (by omega))).four
  have H0 := Lib.hid h0; clear h0
  have H1 := Lib.hid h1; clear h1
  have Hb0 := Lib.hid hb0; clear hb0
  have Hbl0 := Lib.hid hbl0; clear hbl0
  have HW0 := Lib.hid hW0; clear hW0
  have Cells := Lib.hid cells; clear cells
  clear h hl
  go_enter Try.func8, Try.ntmps8
  go_wp2_with fail
  rw [← HW0.out]
  go_wp2_with fail
  refine (fCheck_calls f A1 c1 A2 c2 A3 c3 A4 c4 W0 H0.out).mono ?_
  rintro e w1 ⟨rfl, hb1⟩
  have z1 := hb1.size
  have Hb1 := Lib.hid hb1; clear hb1
  obtain ⟨x0, x1, x2, x3⟩ := Cells.out w1 Hb1.out
  by_cases hck : checkFit f = 0
  · have e0 : (checkFit f != 0) = false := by simp [hck]
    have hv := checkFit_valid hck
    obtain ⟨p1, p2, p3, p4, p5, p6, p7⟩ := valid_parts hv
    by_cases hbig : 2000 < l.length
    · have hr : acceptF f cost l = (false, 4) := by unfold acceptF; rw [if_pos hck, if_pos hbig]
      have Hck := Lib.hid hck; clear hck
      have Hr := Lib.hid hr; clear hr
      have Hv := Lib.hid hv; clear hv
      go_wp2
      go_ret2
      exact ⟨by rw [Hr.out]; rfl, Hb0.out.trans (Hb1.out.mono (by omega))⟩
    have hr : acceptF f cost l = (accGo f cost l 0 (manyF 1 f.lo f.hi) l, 0) := by unfold acceptF; rw [if_pos hck, if_neg hbig]
    have hrg := manyF_range f.lo f.hi 1 p6 (by omega) (by omega)
    have Hck := Lib.hid hck; clear hck
    have Hr := Lib.hid hr; clear hr
    have Hv := Lib.hid hv; clear hv
    have P3 := Lib.hid p3; clear p3
    have P6 := Lib.hid p6; clear p6
    clear p4 p5 p7
    go_wp2_with fail
    refine (whole_calls f A1 c1 A2 c2 A3 c3 A4 c4 w1).mono ?_
    rintro e w2 ⟨rfl, hb2⟩
    have Hb2 := Lib.hid (Hb1.out.trans (hb2.mono z1))
    have z2 := Hb2.out.size
    clear hb2 x0 x1 x2 x3
    go_wp2_with fail
    refine (many_calls f.lo f.hi A1 c1 A2 c2 w2 (H0.out.later Hb2.out).l (H0.out.later Hb2.out).h P3.out P6.out).mono ?_
    rintro e w3 ⟨rfl, hb3⟩
    have Hb3 := Lib.hid (Hb2.out.trans (hb3.mono z2)); clear hb3
    have z3 := Hb3.out.size
    obtain ⟨mv, hmv⟩ : ∃ mv, manyF 1 f.lo f.hi = mv := ⟨_, rfl⟩
    rw [hmv] at hrg ⊢
    obtain ⟨r0, r1⟩ := hrg
    have Hmv := Lib.hid hmv; clear hmv
    go_wp2
    go_loopw [27, 9] (fun i r wr => ∃ k : Nat, k ≤ l.length ∧ i = .int .i64 k ∧ ∃ rest : Int, r = .int .i64 rest ∧ -(k * 20001 : Int) ≤ rest ∧ rest ≤ 20001 ∧ Hid (Below W0.heap.size W0 wr) ∧ W0.heap.size ≤ wr.heap.size ∧ Hid (∀ x ∈ l.take k, withinF f x.lo x.hi = true) ∧ Hid (acceptF f cost l = (accGo f cost l k rest (l.drop k), 0))) (fun i _ _ => l.length - (intOf i).toNat)
    case atStart => exact ⟨0, Nat.zero_le _, rfl, mv, rfl, by omega, by omega, Hb3, z3, (fun x hx => by simp at hx), by unfold Hid; rw [Hr.out, Hmv.out, List.drop_zero]⟩
    case round =>
      obtain ⟨k, hk, rfl, rest, rfl, hr0, hr1, hb, hsz, hwi, hall⟩ := hrel
      obtain ⟨wo, rfl⟩ : ∃ wo : World, wo = wr := ⟨_, rfl⟩
      obtain ⟨x0, x1, x2, x3⟩ := Cells.out wo hb.out
      have hwl : w.heap.size < wo.heap.size := by omega
      by_cases hlt : k < l.length
      · obtain ⟨b, o, B1, d1, B2, d2, cu, hd, rfl, hob, hs0, hs1, hsl, hsh, hll, hlh⟩ := (H1.out.later hb.out).getCub hlt
        have hob' : b < wo.heap.size := hob
        have hgo : accGo f cost l k rest (l.drop k) = (okCub f cost cu && (l.take k).all (fun d => apC cu d) && accGo f cost l (k + 1) (rest - manyF 1 cu.lo cu.hi) (l.drop (k + 1))) := by rw [hd.out]; rfl
        obtain ⟨W1, hW1⟩ : ∃ W1, W1 = wo.alloc (.cells #[.slice B1 cu.lo.length d1, .slice B2 cu.hi.length d2] 40) := ⟨_, rfl⟩
        have hbW : Below wo.heap.size wo W1 := by rw [hW1]; exact (Below.refl _ _).alloc (Nat.le_refl _) _
        have hzW : wo.heap.size < W1.heap.size := by rw [hW1]; simp
        have hblW : Blk W1 wo.heap.size 40 #[.slice B1 cu.lo.length d1, .slice B2 cu.hi.length d2] := by rw [hW1]; exact Blk.new _ _ _
        have hb1 := hb.out.trans (hbW.mono hsz)
        have hlo1 := hsl.out.later hbW
        have hhi1 := hsh.out.later hbW
        have cells2 : ∀ W : World, Below W1.heap.size W1 W → (W.cell? ⟨w.heap.size, 0, none⟩ = some (.slice A1 f.lo.length c1) ∧ W.cell? ⟨w.heap.size, 1, none⟩ = some (.slice A2 f.hi.length c2) ∧ W.cell? ⟨w.heap.size, 2, none⟩ = some (.slice A3 f.terms.length c3) ∧ W.cell? ⟨w.heap.size, 3, none⟩ = some (.slice A4 f.goals.length c4)) ∧
            W.cell? ⟨wo.heap.size, 0, none⟩ = some (.slice B1 cu.lo.length d1) ∧ W.cell? ⟨wo.heap.size, 1, none⟩ = some (.slice B2 cu.hi.length d2) := fun W hW => ⟨Cells.out W (hb1.trans (hW.mono (by omega))), (hblW.same (hW.block _ hzW)).two⟩
        have hcw := within_calls f A1 c1 A2 c2 A3 c3 A4 c4 cu.lo cu.hi B1 d1 B2 d2 W1 (H0.out.later hb1) hlo1 hhi1 P3.out p2
        have Hgo := Lib.hid hgo; clear hgo
        have HW1 := Lib.hid hW1; clear hW1
        have HbW := Lib.hid hbW; clear hbW
        have Hb1 := Lib.hid hb1; clear hb1
        have Hlo1 := Lib.hid hlo1; clear hlo1
        have Hhi1 := Lib.hid hhi1; clear hhi1
        have Cells2 := Lib.hid cells2; clear cells2
        have Hcw := Lib.hid hcw; clear hcw
        have HblW := Lib.hid hblW; clear hblW
        go_wp2_with fail
        rw [← HW1.out]
        refine Hcw.out.mono ?_
        rintro e w5 ⟨rfl, hb5⟩
        have z5 := hb5.size
        obtain ⟨⟨v0, v1, v2, v3⟩, y0, y1⟩ := Cells2.out w5 hb5
        have Hb5 := Lib.hid hb5
        have hb05 := Hb1.out.trans (hb5.mono (by omega))
        have Hb05 := Lib.hid hb05; clear hb05
        clear hb5 x0 x1 x2 x3 hs0 hs1
        cases hwc : withinF f cu.lo cu.hi
        · have hn : acceptF f cost l = (false, 0) := by rw [hall.out, Hgo.out]; unfold okCub; rw [hwc]; rfl
          have Hn := Lib.hid hn; clear hn
          have Hwc := Lib.hid hwc; clear hwc
          go_wp2
          go_ret2
          exact ⟨by rw [Hn.out]; rfl, Hb0.out.trans (Hb05.out.mono (by omega))⟩
        have hcok := within_ok Hv.out hwc
        have hcl := lower_calls f A1 c1 A2 c2 A3 c3 A4 c4 cu.lo cu.hi B1 d1 B2 d2 w5 (H0.out.later Hb05.out) (Hlo1.out.later Hb5.out) (Hhi1.out.later Hb5.out) hcok
        have hmr := manyF_range cu.lo cu.hi 1 hcok.b (by omega) (by omega)
        obtain ⟨bv, hbv⟩ : ∃ bv, boundF f.terms f.goals cu.lo cu.hi = bv := ⟨_, rfl⟩
        rw [hbv] at hcl
        have Hcl := Lib.hid hcl; clear hcl
        have Hbv := Lib.hid hbv; clear hbv
        have Hcok := Lib.hid hcok; clear hcok
        have Hwc := Lib.hid hwc; clear hwc
        go_wp2_with fail
        refine Hcl.out.mono ?_
        rintro e w6 ⟨rfl, hb6⟩
        have z6 := hb6.size
        have Hb6 := Lib.hid (Hb5.out.trans (hb6.mono z5))
        have z6' := Hb6.out.size
        clear hb6 v0 v1 v2 v3 y0 y1
        obtain ⟨⟨v0, v1, v2, v3⟩, y0, y1⟩ := Cells2.out w6 Hb6.out
        have hb06 := Hb1.out.trans (Hb6.out.mono (by omega))
        have Hb06 := Lib.hid hb06; clear hb06
        by_cases hlc : bv < cost
        · have hn : acceptF f cost l = (false, 0) := by rw [hall.out, Hgo.out]; unfold okCub; rw [Hbv.out, decide_eq_false (by omega), Bool.and_false]; rfl
          have Hn := Lib.hid hn; clear hn
          go_wp2
          go_ret2
          exact ⟨by rw [Hn.out]; rfl, Hb0.out.trans (Hb06.out.mono (by omega))⟩
        have hgo2 : acceptF f cost l = ((l.take k).all (fun d => apC cu d) && accGo f cost l (k + 1) (rest - manyF 1 cu.lo cu.hi) (l.drop (k + 1)), 0) := by
          rw [hall.out, Hgo.out]; unfold okCub; rw [Hbv.out, Hwc.out, decide_eq_true (by omega)]; rfl
        have htk : (l.take k).length = k := by simp; omega
        have hlen : cu.hi.length = cu.lo.length := Hcok.out.h.trans Hcok.out.l.symm
        have Hgo2 := Lib.hid hgo2; clear hgo2
        have Htk := Lib.hid htk; clear htk
        have Hlen := Lib.hid hlen; clear hlen
        have hkd : (k : Int) ≤ (l.length : Int) := by omega
        have hk0 : (0 : Int) ≤ (k : Int) := Int.natCast_nonneg _
        go_wp2
        clear hlc
        go_loopw [47] (fun i wr => ∃ j : Nat, j ≤ k ∧ i = .int .i64 j ∧ Hid (Below W1.heap.size W1 wr) ∧ W1.heap.size ≤ wr.heap.size ∧ Hid ((l.take k).all (fun d => apC cu d) = ((l.take k).drop j).all (fun d => apC cu d))) (fun i _ => k - (intOf i).toNat)
        case atStart => exact ⟨0, Nat.zero_le _, rfl, Hb6, z6', rfl⟩
        case round =>
          obtain ⟨j, hj, rfl, hb7, hsz7, hall7⟩ := hrel
          obtain ⟨wp, rfl⟩ : ∃ wp : World, wp = wr := ⟨_, rfl⟩
          clear v0 v1 v2 v3 y0 y1
          obtain ⟨⟨v0, v1, v2, v3⟩, y0, y1⟩ := Cells2.out wp hb7.out
          have hb07 := Hb1.out.trans (hb7.out.mono (by omega))
          have hwop : wo.heap.size < wp.heap.size := by omega
          by_cases hlt2 : j < k
          · obtain ⟨b', o', B3, d3, B4, d4, du, hdu, he, hobd, hd0, hd1, hdl, hdh, _, _⟩ := (sl_take (H1.out.later hb07) k).getCub (i := j) (by rw [Htk.out]; exact hlt2)
            cases he
            have hobd' : b < wp.heap.size := hobd
            have hdw := hwi.out du (mem_of_drop hdu.out)
            have hdok := within_ok Hv.out hdw
            have hcall : ∀ W : World, Below wp.heap.size wp W → Calls Try.prog 24 #[.agg #[.slice B1 cu.lo.length d1, .slice B2 cu.hi.length d2], .agg #[.slice B3 du.lo.length d3, .slice B4 du.hi.length d4]] W (BoolPost (apC cu du) W) := fun W hW =>
              apart_calls cu du B1 d1 B2 d2 B3 d3 B4 d4 W ((Hlo1.out.later hb7.out).later hW) ((Hhi1.out.later hb7.out).later hW) (hdl.out.later hW) (hdh.out.later hW) Hlen.out (hdok.l.trans Hcok.out.l.symm) (hdok.h.trans Hcok.out.l.symm)
            have hj0 : (0 : Int) ≤ (j : Int) := Int.natCast_nonneg _
            have hj1 : (j : Int) < (k : Int) := by omega
            have Hcall := Lib.hid hcall; clear hcall
            have Hdw := Lib.hid hdw; clear hdw
            have Hdok := Lib.hid hdok; clear hdok
            have Hb07 := Lib.hid hb07; clear hb07
            go_wp2_with fail
            refine (Hcall.out _ ((Below.refl _ _).alloc (Nat.le_refl _) _)).mono ?_
            rintro e w8 ⟨rfl, hb8⟩
            have hbp8 : Below wp.heap.size wp w8 := ((Below.refl _ _).alloc (Nat.le_refl _) _).trans (hb8.mono (by simp))
            have z8 := hbp8.size
            have Hbp8 := Lib.hid hbp8; clear hbp8
            clear hb8 hd0 hd1
            cases hap : apC cu du
            · have hn : acceptF f cost l = (false, 0) := by rw [Hgo2.out, hall7.out, hdu.out, List.all_cons, hap]; rfl
              have Hn := Lib.hid hn; clear hn
              have Hap := Lib.hid hap; clear hap
              go_wp2
              go_ret2
              exact ⟨by rw [Hn.out]; rfl, Hb0.out.trans ((Hb07.out.trans (Hbp8.out.mono (by omega))).mono (by omega))⟩
            · have Hap := Lib.hid hap; clear hap
              go_wp2
              go_roundw
              case rel =>
                refine ⟨j + 1, by omega, by go_num, hb7.out.trans (Hbp8.out.mono hsz7), by omega, ?_⟩
                unfold Hid; rw [hall7.out, hdu.out, List.all_cons, Hap.out]; rfl
              case measure => simp [intOf]; omega
          · have hgo3 : acceptF f cost l = (accGo f cost l (k + 1) (rest - manyF 1 cu.lo cu.hi) (l.drop (k + 1)), 0) := by
              rw [Hgo2.out, hall7.out, drop_end (by rw [Htk.out]; exact hlt2)]; rfl
            have hcm := many_calls cu.lo cu.hi B1 d1 B2 d2 wp (Hlo1.out.later hb7.out) (Hhi1.out.later hb7.out) Hlen.out Hcok.out.b
            obtain ⟨mc, hmc⟩ : ∃ mc, manyF 1 cu.lo cu.hi = mc := ⟨_, rfl⟩
            rw [hmc] at hcm hmr hgo3
            obtain ⟨mr0, mr1⟩ := hmr
            have hwi2 : ∀ x ∈ l.take (k + 1), withinF f x.lo x.hi = true := by
              intro x hx
              rw [take_of_drop hd.out] at hx
              rcases List.mem_append.1 hx with hx | hx
              · exact hwi.out x hx
              · simp at hx; rw [hx]; exact Hwc.out
            have Hcm := Lib.hid hcm; clear hcm
            have Hmc := Lib.hid hmc; clear hmc
            have Hgo3 := Lib.hid hgo3; clear hgo3
            have Hwi2 := Lib.hid hwi2; clear hwi2
            have Hb07 := Lib.hid hb07; clear hb07
            go_wp2_with fail
            refine Hcm.out.mono ?_
            rintro e w8 ⟨rfl, hb8⟩
            have hb08 := Hb07.out.trans (hb8.mono (by omega))
            have z8 := hb8.size
            have Hb08 := Lib.hid hb08; clear hb08
            clear hb8 v0 v1 v2 v3 y0 y1
            have w0' : -9223372036854775808 ≤ rest - mc ∧ rest - mc ≤ 9223372036854775807 := by omega
            go_wp2
            go_roundw
            case rel => exact ⟨k + 1, by omega, by go_num, rest - mc, rfl, by omega, by omega, Hb08, by omega, Hwi2, Hgo3⟩
            case measure => simp [intOf]; omega
      · have hn : acceptF f cost l = (rest == 0, 0) := by rw [hall.out, drop_end hlt]; rfl
        have Hn := Lib.hid hn; clear hn
        go_wp2
        go_ret2
        exact ⟨by rw [Hn.out]; rfl, Hb0.out.trans (hb.out.mono (by omega))⟩
  · have e0 : (checkFit f != 0) = true := by simp [hck]
    have hr : acceptF f cost l = (false, checkFit f) := by unfold acceptF; rw [if_neg hck]
    have Hr := Lib.hid hr; clear hr
    have Hck := Lib.hid hck; clear hck
    go_wp2
    go_ret2
    exact ⟨by rw [Hr.out]; rfl, Hb0.out.trans (Hb1.out.mono (by omega))⟩
end Go.Proofs.Ytfeafembifdklaa
