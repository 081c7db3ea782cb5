/-
  Layer 43: the walks of ranges and lower.
-/
import Derived.Test.YtfeafembifdklaaZc
namespace Go.Proofs.Ytfeafembifdklaa
open Go.RowKit Go.Sort


def minT : List Int → List Int → List Int → Int
  | c :: cs, x :: xs, y :: ys => min (c * x) (c * y) + minT cs xs ys
  | _, _, _ => 0
def maxT : List Int → List Int → List Int → Int
  | c :: cs, x :: xs, y :: ys => max (c * x) (c * y) + maxT cs xs ys
  | _, _, _ => 0
def lowT (t : Frm) (lo hi : List Int) : Int := t.const + minT t.coefs lo hi
def highT (t : Frm) (lo hi : List Int) : Int := t.const + maxT t.coefs lo hi
def boundT (t : Frm) (g : Int) (lo hi : List Int) : Int := max (max (g - highT t lo hi) (lowT t lo hi - g)) 0
def boundF : List Frm → List Int → List Int → List Int → Int
  | t :: ts, g :: gs, lo, hi => boundT t g lo hi + boundF ts gs lo hi
  | _, _, _, _ => 0
theorem minT_step {cs xs ys : List Int} {c x y : Int} {k : Nat} (h0 : cs.drop k = c :: cs.drop (k + 1)) (h1 : xs.drop k = x :: xs.drop (k + 1)) (h2 : ys.drop k = y :: ys.drop (k + 1)) :
    minT (cs.drop k) (xs.drop k) (ys.drop k) = min (c * x) (c * y) + minT (cs.drop (k + 1)) (xs.drop (k + 1)) (ys.drop (k + 1)) := by rw [h0, h1, h2]; rfl
theorem maxT_step {cs xs ys : List Int} {c x y : Int} {k : Nat} (h0 : cs.drop k = c :: cs.drop (k + 1)) (h1 : xs.drop k = x :: xs.drop (k + 1)) (h2 : ys.drop k = y :: ys.drop (k + 1)) :
    maxT (cs.drop k) (xs.drop k) (ys.drop k) = max (c * x) (c * y) + maxT (cs.drop (k + 1)) (xs.drop (k + 1)) (ys.drop (k + 1)) := by rw [h0, h1, h2]; rfl
theorem mul_bd6 {c x : Int} (hc : inC c = true) (h0 : -1000000 ≤ x) (h1 : x ≤ 1000000) : -1000000000000 ≤ c * x ∧ c * x ≤ 1000000000000 := by
  have h2 := inC_iff.1 hc
  have h3 : (c * x).natAbs ≤ 1000000 * 1000000 := by
    rw [Int.natAbs_mul]
    exact Nat.mul_le_mul (natAbs_le (n := 1000000) (by omega) (by omega)) (natAbs_le (n := 1000000) (by omega) (by omega))
  omega
theorem min_pos {c x y : Int} (hc : ¬ c < 0) (h : x ≤ y) : min (c * x) (c * y) = c * x ∧ max (c * x) (c * y) = c * y := by
  have h1 : c * x ≤ c * y := Int.mul_le_mul_of_nonneg_left h (by omega)
  omega
theorem min_neg {c x y : Int} (hc : c < 0) (h : x ≤ y) : min (c * x) (c * y) = c * y ∧ max (c * x) (c * y) = c * x := by
  have h1 : c * y ≤ c * x := Int.mul_le_mul_of_nonpos_left (by omega) h
  omega

/-- a term and a cube that fit -/
structure RangeOk (t : Frm) (lo hi : List Int) : Prop where
  c : -1000000 ≤ t.const ∧ t.const ≤ 1000000
  k : ∀ x ∈ t.coefs, inC x = true
  n : t.coefs.length = lo.length
  h : hi.length = lo.length
  b : allB lo hi = true
  l : lo.length ≤ 4
theorem rangeOk {t : Frm} {lo hi : List Int} (h1 : formF t lo.length = true) (h2 : hi.length = lo.length) (h3 : allB lo hi = true) (h4 : lo.length ≤ 4) : RangeOk t lo hi := by
  unfold formF at h1
  simp only [Bool.and_eq_true, List.all_eq_true, beq_iff_eq] at h1
  exact ⟨inC_iff.1 h1.1.1, h1.1.2, h1.2, h2, h3, h4⟩
theorem range_bd_aux : ∀ (cs xs ys : List Int), (∀ x ∈ cs, inC x = true) → allB xs ys = true → -(cs.length : Int) * 1000000000000 ≤ minT cs xs ys ∧ minT cs xs ys ≤ (cs.length : Int) * 1000000000000 ∧ -(cs.length : Int) * 1000000000000 ≤ maxT cs xs ys ∧ maxT cs xs ys ≤ (cs.length : Int) * 1000000000000
  | [], xs, ys, _, _ => by
    have h1 : minT [] xs ys = 0 := rfl
    have h2 : maxT [] xs ys = 0 := rfl
    rw [h1, h2]; simp
  | c :: cs, [], ys, _, _ => by
    have h1 : minT (c :: cs) [] ys = 0 := rfl
    have h2 : maxT (c :: cs) [] ys = 0 := rfl
    rw [h1, h2]; simp only [List.length_cons]; omega
  | c :: cs, x :: xs, [], _, _ => by
    have h1 : minT (c :: cs) (x :: xs) [] = 0 := rfl
    have h2 : maxT (c :: cs) (x :: xs) [] = 0 := rfl
    rw [h1, h2]; simp only [List.length_cons]; omega
  | c :: cs, x :: xs, y :: ys, h1, h2 => by
    unfold allB at h2
    rw [Bool.and_eq_true] at h2
    obtain ⟨k1, k2, k3⟩ := okB_iff.1 h2.1
    have h3 := range_bd_aux cs xs ys (fun z hz => h1 z (by simp [hz])) h2.2
    have h4 := mul_bd6 (h1 c (by simp)) k2 (show x ≤ 1000000 by omega)
    have h5 := mul_bd6 (h1 c (by simp)) (show -1000000 ≤ y by omega) k3
    unfold minT maxT; simp only [List.length_cons]; omega
theorem range_bd {t : Frm} {lo hi : List Int} (h : RangeOk t lo hi) : -4000001000000 ≤ lowT t lo hi ∧ lowT t lo hi ≤ 4000001000000 ∧ -4000001000000 ≤ highT t lo hi ∧ highT t lo hi ≤ 4000001000000 := by
  have h1 := range_bd_aux t.coefs lo hi h.k h.b
  have h2 := h.n
  have h3 := h.l
  have h4 := h.c
  unfold lowT highT; omega

def pairV (a b : Int) : Value := .agg #[.int .i64 a, .int .i64 b]
set_option maxRecDepth 100000 in
set_option maxHeartbeats 4000000 in
theorem ranges_calls (t : Frm) (lo hi : List Int) (A : Option Addr) (c : Nat) (B1 : Option Addr) (d1 : Nat) (B2 : Option Addr) (d2 : Nat) (w : World) (ht : SlAt (pI .i64) (Old w) w A c t.coefs) (hl : SlAt (pI .i64) (Old w) w B1 d1 lo) (hh : SlAt (pI .i64) (Old w) w B2 d2 hi) (hok : RangeOk t lo hi) :
    Calls Try.prog 30 #[.agg #[.int .i64 t.const, .slice A t.coefs.length c], .agg #[.slice B1 lo.length d1, .slice B2 hi.length d2]] w (ValPost (.agg #[.int .i64 (lowT t lo hi), .int .i64 (highT t lo hi)]) w) := by
  have m0 := ht.lenle
  have m1 := hl.lenle
  have m2 := hh.lenle
  obtain ⟨W0, hW0⟩ : ∃ W0, W0 = (((w.alloc (.cells #[.int .i64 t.const, .slice A t.coefs.length c] 44)).alloc (.cells #[.slice B1 lo.length d1, .slice B2 hi.length d2] 40)).alloc (.cells #[.int .i64 0, .int .i64 0] 61)).alloc (.cells #[.int .i64 t.const, .int .i64 t.const] 61) := ⟨_, rfl⟩
  have hb0 : Below w.heap.size w W0 := by rw [hW0]; exact ((((Below.refl _ _).alloc (Nat.le_refl _) _).alloc (by simp) _).alloc (by simp; omega) _).alloc (by simp; omega) _
  have hz0 : W0.heap.size = w.heap.size + 4 := by rw [hW0]; simp
  have hbt : Blk W0 w.heap.size 44 #[.int .i64 t.const, .slice A t.coefs.length c] := by rw [hW0]; exact (((Blk.new _ _ _).alloc _).alloc _).alloc _
  have hbc : Blk W0 (w.heap.size + 1) 40 #[.slice B1 lo.length d1, .slice B2 hi.length d2] := by
    rw [hW0]
    have := Blk.new (w.alloc (.cells #[.int .i64 t.const, .slice A t.coefs.length c] 44)) 40 #[.slice B1 lo.length d1, .slice B2 hi.length d2]
    rw [show (w.alloc (.cells #[.int .i64 t.const, .slice A t.coefs.length c] 44)).heap.size = w.heap.size + 1 from by simp] at this
    exact (this.alloc _).alloc _
  have hbr : Blk W0 (w.heap.size + 1 + 1) 61 #[.int .i64 0, .int .i64 0] := by
    rw [hW0]
    have := Blk.new ((w.alloc (.cells #[.int .i64 t.const, .slice A t.coefs.length c] 44)).alloc (.cells #[.slice B1 lo.length d1, .slice B2 hi.length d2] 40)) 61 #[.int .i64 0, .int .i64 0]
    rw [show ((w.alloc (.cells #[.int .i64 t.const, .slice A t.coefs.length c] 44)).alloc (.cells #[.slice B1 lo.length d1, .slice B2 hi.length d2] 40)).heap.size = w.heap.size + 1 + 1 from by simp] at this
    exact this.alloc _
  have hbo : Blk W0 (w.heap.size + 1 + 1 + 1) 61 #[.int .i64 t.const, .int .i64 t.const] := by
    rw [hW0]
    have := Blk.new (((w.alloc (.cells #[.int .i64 t.const, .slice A t.coefs.length c] 44)).alloc (.cells #[.slice B1 lo.length d1, .slice B2 hi.length d2] 40)).alloc (.cells #[.int .i64 0, .int .i64 0] 61)) 61 #[.int .i64 t.const, .int .i64 t.const]
    rwa [show (((w.alloc (.cells #[.int .i64 t.const, .slice A t.coefs.length c] 44)).alloc (.cells #[.slice B1 lo.length d1, .slice B2 hi.length d2] 40)).alloc (.cells #[.int .i64 0, .int .i64 0] 61)).heap.size = w.heap.size + 1 + 1 + 1 from by simp] at this
  have h0 := ht.below hb0
  have h1 := hl.below hb0
  have h2 := hh.below hb0
  obtain ⟨k1, k2⟩ := hok.c
  have hn := hok.n
  have hhn := hok.h
  have hbd := range_bd hok
  have hord : w.heap.size + 1 < w.heap.size + 1 + 1 ∧ w.heap.size + 1 + 1 < w.heap.size + 1 + 1 + 1 ∧ W0.heap.size = w.heap.size + 1 + 1 + 1 + 1 := ⟨by omega, by omega, by omega⟩
  have hkk := hok.k
  have hab := hok.b
  have H0 := Lib.hid h0; clear h0
  have H1 := Lib.hid h1; clear h1
  have H2 := Lib.hid h2; clear h2
  have Hb0 := Lib.hid hb0; clear hb0
  have Hbt := Lib.hid hbt; clear hbt
  have Hbc := Lib.hid hbc; clear hbc
  have Hbr := Lib.hid hbr; clear hbr
  have Hbo := Lib.hid hbo; clear hbo
  have Hz0 := Lib.hid hz0; clear hz0
  have HW0 := Lib.hid hW0; clear hW0
  have Hn := Lib.hid hn; clear hn
  have Hhn := Lib.hid hhn; clear hhn
  have Hbd := Lib.hid hbd; clear hbd
  have Hkk := Lib.hid hkk; clear hkk
  have Hab := Lib.hid hab; clear hab
  clear ht hl hh
  go_enter Try.func30, Try.ntmps30
  go_wp2
  rw [← HW0.out]
  generalize w.heap.size + 1 + 1 + 1 = go at Hbo hord ⊢
  generalize w.heap.size + 1 + 1 = gr at Hbr hord ⊢
  obtain ⟨ho0, ho1, ho2⟩ := hord
  have hz1 : go < W0.heap.size := by omega
  clear ho2
  have old : ∀ q, Old w q → q < go := fun q hq => by have : q < w.heap.size := hq; omega
  have Old := Lib.hid old; clear old
  go_loopw [18] (fun i wr => ∃ k : Nat, k ≤ t.coefs.length ∧ i = .int .i64 k ∧ ∃ a b : Int, Hid (Below go W0 wr) ∧ go < wr.heap.size ∧ Hid (Blk wr go 61 #[.int .i64 a, .int .i64 b]) ∧ -(1000000 + k * 1000000000000 : Int) ≤ a ∧ a ≤ 1000000 + k * 1000000000000 ∧ -(1000000 + k * 1000000000000 : Int) ≤ b ∧ b ≤ 1000000 + k * 1000000000000 ∧
    Hid (lowT t lo hi = a + minT (t.coefs.drop k) (lo.drop k) (hi.drop k)) ∧ Hid (highT t lo hi = b + maxT (t.coefs.drop k) (lo.drop k) (hi.drop k))) (fun i _ => t.coefs.length - (intOf i).toNat)
  case atStart => exact ⟨0, Nat.zero_le _, rfl, t.const, t.const, Below.refl _ _, hz1, Hbo, by omega, by omega, by omega, by omega, rfl, rfl⟩
  case round =>
    obtain ⟨k, hk, rfl, a, b, hb, hsz, hbl, a0, a1, b0, b1, hlow, hhigh⟩ := hrel
    obtain ⟨wo, rfl⟩ : ∃ wo : World, wo = wr := ⟨_, rfl⟩
    have hbw : Below w.heap.size w wo := Hb0.out.trans (hb.out.mono (by omega))
    by_cases hlt : k < t.coefs.length
    · have hl4 : k < 4 := by have := hok.l; have := Hn.out; omega
      have hlt1 : k < lo.length := by have := Hn.out; omega
      have hlt2 : k < hi.length := by have := Hn.out; have := Hhn.out; omega
      obtain ⟨b1', o1, q, hd0, rfl, hob1, hc0, _⟩ := (H0.out.keep fun q hq => hb.out.block q (Old.out q hq)).getI hlt
      obtain ⟨b2, o2, x, hd1, rfl, hob2, hc1, _⟩ := (H1.out.keep fun q hq => hb.out.block q (Old.out q hq)).getI hlt1
      obtain ⟨b3, o3, y, hd2, rfl, hob3, hc2, _⟩ := (H2.out.keep fun q hq => hb.out.block q (Old.out q hq)).getI hlt2
      obtain ⟨k1, k2, k3⟩ := okB_iff.1 (allB_get Hab.out k x y (get_of_drop hd1.out) (get_of_drop hd2.out))
      have hq := Hkk.out q (mem_of_drop hd0.out)
      have hm1 := mul_bd6 hq k2 (show x ≤ 1000000 by omega)
      have hm2 := mul_bd6 hq (show -1000000 ≤ y by omega) k3
      obtain ⟨u0, u1⟩ := hm1
      obtain ⟨v0, v1⟩ := hm2
      obtain ⟨x0, x1⟩ := (Hbc.out.same (hb.out.block _ (by omega))).two
      obtain ⟨y0, y1⟩ := hbl.out.two
      have f0 := hbl.out.free 0
      have f1 := hbl.out.free 1
      have e1 : IntKind.i64.wrap (q * x) = q * x := IntWalk.i64_in _ (by omega)
      have e2 : IntKind.i64.wrap (q * y) = q * y := IntWalk.i64_in _ (by omega)
      have hk0 : (0 : Int) ≤ (k : Int) := Int.natCast_nonneg _
      have hk1 : (k : Int) < (t.coefs.length : Int) := by omega
      have hk2 : (k : Int) < (lo.length : Int) := by omega
      have hk3 : (k : Int) < (hi.length : Int) := by omega
      have hs0 := minT_step hd0.out hd1.out hd2.out
      have hs1 := maxT_step hd0.out hd1.out hd2.out
      have Hs0 := Lib.hid hs0; clear hs0
      have Hs1 := Lib.hid hs1; clear hs1
      have Hq := Lib.hid hq; clear hq
      have fin : ∀ (n : Nat) (a' b' : Int), Hid (Below go W0 (((wo.drewN n).setCell ⟨go, 0, none⟩ (.int .i64 a')).setCell ⟨go, 1, none⟩ (.int .i64 b'))) ∧ Hid (Blk (((wo.drewN n).setCell ⟨go, 0, none⟩ (.int .i64 a')).setCell ⟨go, 1, none⟩ (.int .i64 b')) go 61 #[.int .i64 a', .int .i64 b']) := fun n a' b' => by
        refine ⟨((below_drewN hb.out n).setCell (Nat.le_refl _) _).setCell (Nat.le_refl _) _, ?_⟩
        have h1 : Blk (wo.drewN n) go 61 #[.int .i64 a, .int .i64 b] := hbl.out.same rfl
        exact (h1.set 0 _).set 1 _
      have Fin := Lib.hid fin; clear fin
      go_wp2
      go_quiet (fail)
      clear e1 e2
      by_cases hq0 : q < 0
      · obtain ⟨g1, g2⟩ := min_neg hq0 k1
        have w0 : -9223372036854775808 ≤ a + q * y ∧ a + q * y ≤ 9223372036854775807 := by omega
        have w1 : -9223372036854775808 ≤ b + q * x ∧ b + q * x ≤ 9223372036854775807 := by omega
        have G1 := Lib.hid g1; clear g1
        have G2 := Lib.hid g2; clear g2
        go_wp2
        go_roundw
        case rel =>
          refine ⟨k + 1, by omega, by go_num, a + q * y, b + q * x, (Fin.out _ _ _).1, by simp [World.setCell]; omega, (Fin.out _ _ _).2, by omega, by omega, by omega, by omega, ?_, ?_⟩
          · unfold Hid; rw [hlow.out, Hs0.out, G1.out]; omega
          · unfold Hid; rw [hhigh.out, Hs1.out, G2.out]; omega
        case measure => simp [intOf]; omega
      · obtain ⟨g1, g2⟩ := min_pos hq0 k1
        have w0 : -9223372036854775808 ≤ a + q * x ∧ a + q * x ≤ 9223372036854775807 := by omega
        have w1 : -9223372036854775808 ≤ b + q * y ∧ b + q * y ≤ 9223372036854775807 := by omega
        have G1 := Lib.hid g1; clear g1
        have G2 := Lib.hid g2; clear g2
        go_wp2
        go_roundw
        case rel =>
          refine ⟨k + 1, by omega, by go_num, a + q * x, b + q * y, (Fin.out _ _ _).1, by simp [World.setCell]; omega, (Fin.out _ _ _).2, by omega, by omega, by omega, by omega, ?_, ?_⟩
          · unfold Hid; rw [hlow.out, Hs0.out, G1.out]; omega
          · unfold Hid; rw [hhigh.out, Hs1.out, G2.out]; omega
        case measure => simp [intOf]; omega
    · have hle1 : ¬ k < lo.length := by have := Hn.out; omega
      have r1 : lowT t lo hi = a := by rw [hlow.out, drop_end hlt]; show a + minT [] _ _ = a; unfold minT; omega
      have r2 : highT t lo hi = b := by rw [hhigh.out, drop_end hlt]; show b + maxT [] _ _ = b; unfold maxT; omega
      obtain ⟨y0, y1⟩ := hbl.out.two
      have hbr := Hbr.out.same (hb.out.block _ ho1)
      have f0 := hbr.free 0
      have f1 := hbr.free 1
      obtain ⟨z0, z1⟩ := hbr.two
      have R1 := Lib.hid r1; clear r1
      have R2 := Lib.hid r2; clear r2
      have Hbw := Lib.hid hbw; clear hbw
      have Hbr := Lib.hid hbr; clear hbr
      have hgr : w.heap.size ≤ gr := by omega
      have hfin : Blk ((wo.setCell ⟨gr, 0, none⟩ (.int .i64 a)).setCell ⟨gr, 1, none⟩ (.int .i64 b)) gr 61 #[.int .i64 a, .int .i64 b] := (Hbr.out.set 0 _).set 1 _
      obtain ⟨q0, q1⟩ := hfin.two
      have hbf : Below w.heap.size w ((wo.setCell ⟨gr, 0, none⟩ (.int .i64 a)).setCell ⟨gr, 1, none⟩ (.int .i64 b)) := (Hbw.out.setCell hgr _).setCell hgr _
      have Hbf := Lib.hid hbf; clear hbf
      have Hfin := Lib.hid hfin; clear hfin
      go_wp2
      exact bodyPost_ret (v := .agg #[.int .i64 a, .int .i64 b]) (by simp [results, Try.results30, go_sem, q0, q1]) rfl ⟨by rw [R1.out, R2.out], Hbf.out⟩
end Go.Proofs.Ytfeafembifdklaa
