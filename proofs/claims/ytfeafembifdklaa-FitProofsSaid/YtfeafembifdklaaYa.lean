/-
  Layer 43: the walk of the reference's meet.
-/
import Derived.Test.YtfeafembifdklaaZt
namespace Go.Proofs.Ytfeafembifdklaa
open Go.RowKit Go.Sort


set_option maxRecDepth 100000 in
set_option maxHeartbeats 4000000 in
theorem meet_calls (a b : Cub) (B1 : Option Addr) (d1 : Nat) (B2 : Option Addr) (d2 : Nat) (B3 : Option Addr) (d3 : Nat) (B4 : Option Addr) (d4 : Nat) (w : World) (h1 : SlAt (pI .i64) (Old w) w B1 d1 a.lo) (h2 : SlAt (pI .i64) (Old w) w B2 d2 a.hi) (h3 : SlAt (pI .i64) (Old w) w B3 d3 b.lo) (h4 : SlAt (pI .i64) (Old w) w B4 d4 b.hi)
    (n1 : a.hi.length = a.lo.length) (n2 : b.lo.length = a.lo.length) (n3 : b.hi.length = a.lo.length) :
    Calls Try.prog 28 #[.agg #[.slice B1 a.lo.length d1, .slice B2 a.hi.length d2], .agg #[.slice B3 b.lo.length d3, .slice B4 b.hi.length d4]] w (BoolPost (!apC a b) w) := by
  have m1 := h1.lenle
  have m2 := h2.lenle
  have m3 := h3.lenle
  have m4 := h4.lenle
  obtain ⟨W0, hW0⟩ : ∃ W0, W0 = (w.alloc (.cells #[.slice B1 a.lo.length d1, .slice B2 a.hi.length d2] 40)).alloc (.cells #[.slice B3 b.lo.length d3, .slice B4 b.hi.length d4] 40) := ⟨_, rfl⟩
  have hb0 : Below w.heap.size w W0 := by rw [hW0]; exact ((Below.refl _ _).alloc (Nat.le_refl _) _).alloc (by simp) _
  have hz0 : W0.heap.size = w.heap.size + 2 := by rw [hW0]; simp
  have hbf : Blk W0 w.heap.size 40 #[.slice B1 a.lo.length d1, .slice B2 a.hi.length d2] := by rw [hW0]; exact (Blk.new _ _ _).alloc _
  have hbc : Blk W0 (w.heap.size + 1) 40 #[.slice B3 b.lo.length d3, .slice B4 b.hi.length d4] := by
    rw [hW0]
    have := Blk.new (w.alloc (.cells #[.slice B1 a.lo.length d1, .slice B2 a.hi.length d2] 40)) 40 #[.slice B3 b.lo.length d3, .slice B4 b.hi.length d4]
    rwa [show (w.alloc (.cells #[.slice B1 a.lo.length d1, .slice B2 a.hi.length d2] 40)).heap.size = w.heap.size + 1 from by simp] at this
  have g1 := h1.later hb0
  have g2 := h2.later hb0
  have g3 := h3.later hb0
  have g4 := h4.later hb0
  have hzl : w.heap.size + 1 < W0.heap.size := by omega
  have G1 := Lib.hid g1; clear g1
  have G2 := Lib.hid g2; clear g2
  have G3 := Lib.hid g3; clear g3
  have G4 := Lib.hid g4; clear g4
  have Hb0 := Lib.hid hb0; clear hb0
  have Hbf := Lib.hid hbf; clear hbf
  have Hbc := Lib.hid hbc; clear hbc
  have Hz0 := Lib.hid hz0; clear hz0
  have HW0 := Lib.hid hW0; clear hW0
  have N1 := Lib.hid n1; clear n1
  have N2 := Lib.hid n2; clear n2
  have N3 := Lib.hid n3; clear n3
  clear h1 h2 h3 h4
  go_enter Try.func28, Try.ntmps28
  go_wp2
  rw [← HW0.out]
  go_loopw [5] (fun i wr => ∃ k : Nat, k ≤ a.lo.length ∧ i = .int .i64 k ∧ Hid (∃ n, wr = W0.drewN n) ∧ Hid (apC a b = apartF (a.lo.drop k) (a.hi.drop k) (b.lo.drop k) (b.hi.drop k))) (fun i _ => a.lo.length - (intOf i).toNat)
  case atStart => exact ⟨0, Nat.zero_le _, rfl, ⟨0, rfl⟩, rfl⟩
  case round =>
    obtain ⟨k, hk, rfl, hdr, hall⟩ := hrel
    obtain ⟨wo, rfl⟩ : ∃ wo : World, wo = wr := ⟨_, rfl⟩
    have hb : Below W0.heap.size W0 wo := by obtain ⟨n, rfl⟩ := hdr.out; exact below_drewN (Below.refl _ _) n
    have hbw : ∀ n, Below w.heap.size w (wo.drewN n) := fun n => below_drewN (Hb0.out.trans (hb.mono (by omega))) n
    have l1 := N1.out
    have l2 := N2.out
    have l3 := N3.out
    obtain ⟨x0, x1⟩ := (Hbf.out.same (hb.block _ (by omega))).two
    obtain ⟨y0, y1⟩ := (Hbc.out.same (hb.block _ hzl)).two
    by_cases hlt : k < a.lo.length
    · obtain ⟨b1, o1, x, hd0, rfl, hob1, hc0, hf0⟩ := (G1.out.below hb).getI hlt
      obtain ⟨b2, o2, y, hd1, rfl, hob2, hc1, hf1⟩ := (G2.out.below hb).getI (i := k) (by omega)
      obtain ⟨b3, o3, z, hd2, rfl, hob3, hc2, hf3⟩ := (G3.out.below hb).getI (i := k) (by omega)
      obtain ⟨b4, o4, u, hd3, rfl, hob4, hc3, hf4⟩ := (G4.out.below hb).getI (i := k) (by omega)
      have step := apartF_step hd0.out hd1.out hd2.out hd3.out
      have k0 := hf0.i64
      have k1 := hf1.i64
      have k2 := hf3.i64
      have k3 := hf4.i64
      have hk0 : (0 : Int) ≤ (k : Int) := Int.natCast_nonneg _
      have hk1 : (k : Int) < (a.lo.length : Int) := by omega
      have hk2 : (k : Int) < (a.hi.length : Int) := by omega
      have hk3 : (k : Int) < (b.lo.length : Int) := by omega
      have hk4 : (k : Int) < (b.hi.length : Int) := by omega
      have Step := Lib.hid step; clear step
      have Hbw := Lib.hid hbw; clear hbw
      have Hb := Lib.hid hb; clear hb
      have L1 := Lib.hid l1; clear l1
      have L2 := Lib.hid l2; clear l2
      have L3 := Lib.hid l3; clear l3
      by_cases c1 : y < z
      · have hn : apC a b = true := by rw [hall.out, Step.out, decide_eq_true c1]; rfl
        have Hn := Lib.hid hn; clear hn
        go_wp2
        go_quiet (fail)
        go_wp2
        go_ret
        exact ⟨by rw [Hn.out]; rfl, Hbw.out _⟩
      have e1 : decide (y < z) = false := decide_eq_false c1
      have qa := Lib.hid c1
      clear c1
      by_cases c1 : u < x
      · have hn : apC a b = true := by rw [hall.out, Step.out, decide_eq_true c1, Bool.or_true]; rfl
        have Hn := Lib.hid hn; clear hn
        go_wp2
        go_quiet (fail)
        go_wp2
        go_ret
        exact ⟨by rw [Hn.out]; rfl, Hbw.out _⟩
      have e2 : decide (u < x) = false := decide_eq_false c1
      have qb := Lib.hid c1
      clear c1
      go_wp2
      go_quiet (fail)
      go_wp2
      go_roundw
      case rel =>
        refine ⟨k + 1, by omega, by go_num, ?_, ?_⟩
        · obtain ⟨n, rfl⟩ := hdr.out
          exact ⟨_, World.drewN_drewN _ _ _⟩
        · have pa := qa.out
          have pb := qb.out
          unfold Hid; rw [hall.out, Step.out, decide_eq_false (show ¬ y < z by omega), decide_eq_false (show ¬ u < x by omega)]; rfl
      case measure => simp [intOf]; omega
    · have hn : apC a b = false := by rw [hall.out, drop_end (xs := a.lo) hlt]; rfl
      have hbw0 := hbw 0
      have Hn := Lib.hid hn; clear hn
      have Hbw := Lib.hid hbw; clear hbw
      have L1 := Lib.hid l1; clear l1
      have L2 := Lib.hid l2; clear l2
      have L3 := Lib.hid l3; clear l3
      clear hb
      go_wp2
      go_ret
      exact ⟨by rw [Hn.out]; rfl, hbw0⟩

end Go.Proofs.Ytfeafembifdklaa
