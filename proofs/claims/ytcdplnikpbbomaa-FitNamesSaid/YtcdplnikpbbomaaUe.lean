/-
  Layer 43: the chapter's examples: the walk of alive.
-/
import Derived.Test.YtcdplnikpbbomaaUd
import Derived.Test.YtcdplnikpbbomaaZt
namespace Go.Proofs.Ytcdplnikpbbomaa
open Go.RowKit Go.Sort
set_option linter.unusedVariables false

def wantL : List Cub := [⟨[0], [2]⟩, ⟨[3], [4]⟩, ⟨[5], [5]⟩, ⟨[6], [10]⟩]
theorem given_facts : checkFit givenF = 0 ∧ bestF givenF = ([5], 1) ∧ proveF givenF = (wantL, 0) ∧ acceptF givenF 1 wantL = (true, 0) ∧ acceptF givenF 2 wantL = (false, 0) ∧ lowerF givenF [4] [4] = (2, 0) ∧ lowerF givenF [6] [6] = (4, 0) := by decide +kernel
theorem given_lows : lowerF givenF [0] [4] = (2, 0) ∧ lowerF givenF [6] [10] = (4, 0) ∧ lowerF givenF [0] [10] = (0, 0) ∧ lowerF givenF [0] [5] = (0, 0) ∧ lowerF givenF [0] [2] = (8, 0) ∧ lowerF givenF [3] [5] = (0, 0) ∧ lowerF givenF [3] [4] = (2, 0) ∧ lowerF givenF [5] [5] = (1, 0) := by decide +kernel
def BestC (w : World) (e : Ending) (w' : World) : Prop := Below w.heap.size w w' ∧ ∃ A c, e = .returned (.tuple #[.slice A 1 c, .int .i64 1, .int .i64 0]) ∧ SlAt (pI .i64) (Old w') w' A c [5]
theorem best_given (A1 : Option Addr) (c1 : Nat) (A2 : Option Addr) (c2 : Nat) (A3 : Option Addr) (c3 : Nat) (A4 : Option Addr) (c4 : Nat) (w : World) (h : FitAt givenF (Old w) w A1 c1 A2 c2 A3 c3 A4 c4) : Calls Try.prog 15 #[.agg #[.slice A1 givenF.lo.length c1, .slice A2 givenF.hi.length c2, .slice A3 givenF.terms.length c3, .slice A4 givenF.goals.length c4]] w (BestC w) := (best_calls givenF A1 c1 A2 c2 A3 c3 A4 c4 w h).mono fun e w' hp => by
  obtain ⟨hb, A, c, rfl, hs⟩ := best_uniform hp
  have hr : bestR givenF = ([5], 1) := by unfold bestR; rw [if_pos given_facts.1, given_facts.2.1]
  rw [hr] at hs ⊢
  rw [given_facts.1]
  exact ⟨hb, A, c, rfl, sl_new hs⟩
def ProveC (w : World) (e : Ending) (w' : World) : Prop := Below w.heap.size w w' ∧ ∃ A c, e = .returned (.tuple #[.slice A 4 c, .int .i64 0]) ∧ SlAt pCub (Old w') w' A c wantL
theorem prove_given (A1 : Option Addr) (c1 : Nat) (A2 : Option Addr) (c2 : Nat) (A3 : Option Addr) (c3 : Nat) (A4 : Option Addr) (c4 : Nat) (w : World) (h : FitAt givenF (Old w) w A1 c1 A2 c2 A3 c3 A4 c4) : Calls Try.prog 21 #[.agg #[.slice A1 givenF.lo.length c1, .slice A2 givenF.hi.length c2, .slice A3 givenF.terms.length c3, .slice A4 givenF.goals.length c4]] w (ProveC w) := (prove_calls givenF A1 c1 A2 c2 A3 c3 A4 c4 w h).mono fun e w' hp => by
  obtain ⟨hb, A, c, rfl, hs⟩ := hp
  rw [given_facts.2.2.1] at hs ⊢
  exact ⟨hb, A, c, rfl, sl_new hs⟩
def TwoPost (a b : Value) (w : World) (e : Ending) (w' : World) : Prop := e = .returned (.tuple #[a, b]) ∧ Below w.heap.size w w'
theorem cost_given (A1 : Option Addr) (c1 : Nat) (A2 : Option Addr) (c2 : Nat) (A3 : Option Addr) (c3 : Nat) (A4 : Option Addr) (c4 : Nat) (x v : Int) (B1 : Option Addr) (d1 : Nat) (w : World) (h : FitAt givenF (Old w) w A1 c1 A2 c2 A3 c3 A4 c4) (hx : SlAt (pI .i64) (Old w) w B1 d1 [x]) (hv : lowerF givenF [x] [x] = (v, 0)) : Calls Try.prog 11 #[.agg #[.slice A1 givenF.lo.length c1, .slice A2 givenF.hi.length c2, .slice A3 givenF.terms.length c3, .slice A4 givenF.goals.length c4], .slice B1 1 d1] w (TwoPost (.int .i64 v) (.int .i64 0) w) := by
  have := cost_calls givenF A1 c1 A2 c2 A3 c3 A4 c4 [x] B1 d1 w h hx
  rw [hv] at this
  exact this
theorem accept_given (A1 : Option Addr) (c1 : Nat) (A2 : Option Addr) (c2 : Nat) (A3 : Option Addr) (c3 : Nat) (A4 : Option Addr) (c4 : Nat) (cost : Int) (b : Bool) (B : Option Addr) (d : Nat) (w : World) (h : FitAt givenF (Old w) w A1 c1 A2 c2 A3 c3 A4 c4) (hl : SlAt pCub (Old w) w B d wantL) (hv : acceptF givenF cost wantL = (b, 0)) : Calls Try.prog 23 #[.agg #[.slice A1 givenF.lo.length c1, .slice A2 givenF.hi.length c2, .slice A3 givenF.terms.length c3, .slice A4 givenF.goals.length c4], .int .i64 cost, .slice B 4 d] w (TwoPost (.bool b) (.int .i64 0) w) := by
  have := accept_calls givenF A1 c1 A2 c2 A3 c3 A4 c4 cost wantL B d w h hl
  rw [hv] at this
  exact this

-- WALK
theorem lit1 (w : World) (x : Int) (hx : Fits .i64 x) : SlAt (pI .i64) (Old (w.alloc (.cells #[.int .i64 x] 3))) (w.alloc (.cells #[.int .i64 x] 3)) (some ⟨w.heap.size, 0, none⟩) 1 [x] :=
  sl_lit (Blk.new _ _ _) (cellsAre_ints (xs := [x]) (by simpa using hx)) (by show _ < _; simp) (by show 1 ≤ maxLen; decide) rfl
theorem al {w : World} (o : Obj) : Below w.heap.size w (w.alloc o) := (Below.refl _ _).alloc (Nat.le_refl _) _
set_option maxRecDepth 100000 in
set_option maxHeartbeats 8000000 in
theorem alive_calls (w : World) : Calls Try.prog 30 #[] w (BoolPost true w) := by
  have gf := Lib.hid given_facts
  have gl := Lib.hid given_lows
  go_enter Try.func30, Try.ntmps30
  go_wp2_with fail
  refine (given_calls w).mono ?_
  rintro e w1 ⟨hb, A1, c1, A2, c2, A3, c3, A4, c4, rfl, hf⟩
  have z1 := hb.size
  have Hb1 := Lib.hid hb
  have Hf := Lib.hid hf.new
  clear hb hf
  go_wp2_with fail
  refine (best_given A1 c1 A2 c2 A3 c3 A4 c4 w1 Hf.out).mono ?_
  rintro e w2 ⟨hb, Ax, cx, rfl, hx⟩
  have hbb := hb
  have Hb2 := Lib.hid (Hb1.out.trans (hbb.mono z1))
  have z2 := Hb2.out.size
  have Hx := Lib.hid hx
  clear hb hx hbb Hf
  go_wp2_with fail
  refine (given_calls w2).mono ?_
  rintro e w3 ⟨hb, A1, c1, A2, c2, A3, c3, A4, c4, rfl, hf⟩
  have hbb := hb
  have Hb3 := Lib.hid (Hb2.out.trans (hbb.mono z2))
  have z3 := Hb3.out.size
  have Hx_ := Lib.hid (Hx.out.later hbb)
  clear Hx
  have Hx := Hx_
  clear Hx_
  have Hf := Lib.hid hf.new
  clear hb hf hbb
  have hL := Lib.hid (lit1 w3 4 (fits_i64 (by decide)))
  have hG := Lib.hid (Hf.out.later (al (.cells #[.int .i64 4] 3)))
  go_wp2_with fail
  refine (cost_given A1 c1 A2 c2 A3 c3 A4 c4 4 2 _ _ _ hG.out hL.out gf.out.2.2.2.2.2.1).mono ?_
  rintro e w4 ⟨rfl, hb⟩
  have hbb := (al (.cells #[.int .i64 4] 3)).trans (hb.mono (by simp))
  have Hb4 := Lib.hid (Hb3.out.trans (hbb.mono z3))
  have z4 := Hb4.out.size
  have Hx_ := Lib.hid (Hx.out.later hbb)
  clear Hx
  have Hx := Hx_
  clear Hx_
  clear hb hbb Hf hL hG
  go_wp2_with fail
  refine (given_calls w4).mono ?_
  rintro e w5 ⟨hb, A1, c1, A2, c2, A3, c3, A4, c4, rfl, hf⟩
  have hbb := hb
  have Hb5 := Lib.hid (Hb4.out.trans (hbb.mono z4))
  have z5 := Hb5.out.size
  have Hx_ := Lib.hid (Hx.out.later hbb)
  clear Hx
  have Hx := Hx_
  clear Hx_
  have Hf := Lib.hid hf.new
  clear hb hf hbb
  have hL := Lib.hid (lit1 w5 6 (fits_i64 (by decide)))
  have hG := Lib.hid (Hf.out.later (al (.cells #[.int .i64 6] 3)))
  go_wp2_with fail
  refine (cost_given A1 c1 A2 c2 A3 c3 A4 c4 6 4 _ _ _ hG.out hL.out gf.out.2.2.2.2.2.2).mono ?_
  rintro e w6 ⟨rfl, hb⟩
  have hbb := (al (.cells #[.int .i64 6] 3)).trans (hb.mono (by simp))
  have Hb6 := Lib.hid (Hb5.out.trans (hbb.mono z5))
  have z6 := Hb6.out.size
  have Hx_ := Lib.hid (Hx.out.later hbb)
  clear Hx
  have Hx := Hx_
  clear Hx_
  clear hb hbb Hf hL hG
  go_wp2_with fail
  refine (given_calls w6).mono ?_
  rintro e w7 ⟨hb, A1, c1, A2, c2, A3, c3, A4, c4, rfl, hf⟩
  have hbb := hb
  have Hb7 := Lib.hid (Hb6.out.trans (hbb.mono z6))
  have z7 := Hb7.out.size
  have Hx_ := Lib.hid (Hx.out.later hbb)
  clear Hx
  have Hx := Hx_
  clear Hx_
  have Hf := Lib.hid hf.new
  clear hb hf hbb
  go_wp2_with fail
  refine (prove_given A1 c1 A2 c2 A3 c3 A4 c4 w7 Hf.out).mono ?_
  rintro e w8 ⟨hb, Ap, cp, rfl, hp⟩
  have hbb := hb
  have Hb8 := Lib.hid (Hb7.out.trans (hbb.mono z7))
  have z8 := Hb8.out.size
  have Hx_ := Lib.hid (Hx.out.later hbb)
  clear Hx
  have Hx := Hx_
  clear Hx_
  have Hp := Lib.hid hp
  clear hb hp hbb Hf
  go_wp2_with fail
  refine (cube_calls 0 2 w8 (fits_i64 (by decide)) (fits_i64 (by decide))).mono ?_
  rintro e w9 ⟨hb, L0, l0, U0, u0, rfl, hl, hu⟩
  have hbb := hb
  have Hb9 := Lib.hid (Hb8.out.trans (hbb.mono z8))
  have z9 := Hb9.out.size
  have Hx_ := Lib.hid (Hx.out.later hbb)
  clear Hx
  have Hx := Hx_
  clear Hx_
  have Hp_ := Lib.hid (Hp.out.later hbb)
  clear Hp
  have Hp := Hp_
  clear Hp_
  have Hl0 := Lib.hid (sl_new hl)
  have Hu0 := Lib.hid (sl_new hu)
  clear hb hl hu hbb
  go_wp2_with fail
  refine (cube_calls 3 4 w9 (fits_i64 (by decide)) (fits_i64 (by decide))).mono ?_
  rintro e w10 ⟨hb, L1, l1, U1, u1, rfl, hl, hu⟩
  have hbb := hb
  have Hb10 := Lib.hid (Hb9.out.trans (hbb.mono z9))
  have z10 := Hb10.out.size
  have Hx_ := Lib.hid (Hx.out.later hbb)
  clear Hx
  have Hx := Hx_
  clear Hx_
  have Hp_ := Lib.hid (Hp.out.later hbb)
  clear Hp
  have Hp := Hp_
  clear Hp_
  have Hl0_ := Lib.hid (Hl0.out.later hbb)
  clear Hl0
  have Hl0 := Hl0_
  clear Hl0_
  have Hu0_ := Lib.hid (Hu0.out.later hbb)
  clear Hu0
  have Hu0 := Hu0_
  clear Hu0_
  have Hl1 := Lib.hid (sl_new hl)
  have Hu1 := Lib.hid (sl_new hu)
  clear hb hl hu hbb
  go_wp2_with fail
  refine (cube_calls 5 5 w10 (fits_i64 (by decide)) (fits_i64 (by decide))).mono ?_
  rintro e w11 ⟨hb, L2, l2, U2, u2, rfl, hl, hu⟩
  have hbb := hb
  have Hb11 := Lib.hid (Hb10.out.trans (hbb.mono z10))
  have z11 := Hb11.out.size
  have Hx_ := Lib.hid (Hx.out.later hbb)
  clear Hx
  have Hx := Hx_
  clear Hx_
  have Hp_ := Lib.hid (Hp.out.later hbb)
  clear Hp
  have Hp := Hp_
  clear Hp_
  have Hl0_ := Lib.hid (Hl0.out.later hbb)
  clear Hl0
  have Hl0 := Hl0_
  clear Hl0_
  have Hu0_ := Lib.hid (Hu0.out.later hbb)
  clear Hu0
  have Hu0 := Hu0_
  clear Hu0_
  have Hl1_ := Lib.hid (Hl1.out.later hbb)
  clear Hl1
  have Hl1 := Hl1_
  clear Hl1_
  have Hu1_ := Lib.hid (Hu1.out.later hbb)
  clear Hu1
  have Hu1 := Hu1_
  clear Hu1_
  have Hl2 := Lib.hid (sl_new hl)
  have Hu2 := Lib.hid (sl_new hu)
  clear hb hl hu hbb
  go_wp2_with fail
  refine (cube_calls 6 10 w11 (fits_i64 (by decide)) (fits_i64 (by decide))).mono ?_
  rintro e w12 ⟨hb, L3, l3, U3, u3, rfl, hl, hu⟩
  have hbb := hb
  have Hb12 := Lib.hid (Hb11.out.trans (hbb.mono z11))
  have z12 := Hb12.out.size
  have Hx_ := Lib.hid (Hx.out.later hbb)
  clear Hx
  have Hx := Hx_
  clear Hx_
  have Hp_ := Lib.hid (Hp.out.later hbb)
  clear Hp
  have Hp := Hp_
  clear Hp_
  have Hl0_ := Lib.hid (Hl0.out.later hbb)
  clear Hl0
  have Hl0 := Hl0_
  clear Hl0_
  have Hu0_ := Lib.hid (Hu0.out.later hbb)
  clear Hu0
  have Hu0 := Hu0_
  clear Hu0_
  have Hl1_ := Lib.hid (Hl1.out.later hbb)
  clear Hl1
  have Hl1 := Hl1_
  clear Hl1_
  have Hu1_ := Lib.hid (Hu1.out.later hbb)
  clear Hu1
  have Hu1 := Hu1_
  clear Hu1_
  have Hl2_ := Lib.hid (Hl2.out.later hbb)
  clear Hl2
  have Hl2 := Hl2_
  clear Hl2_
  have Hu2_ := Lib.hid (Hu2.out.later hbb)
  clear Hu2
  have Hu2 := Hu2_
  clear Hu2_
  have Hl3 := Lib.hid (sl_new hl)
  have Hu3 := Lib.hid (sl_new hu)
  clear hb hl hu hbb
  have hbb := al (w := w12) (.cells #[.slice L0 1 l0, .slice U0 1 u0, .slice L1 1 l1, .slice U1 1 u1, .slice L2 1 l2, .slice U2 1 u2, .slice L3 1 l3, .slice U3 1 u3] 27)
  have hw := Lib.hid (show SlAt pCub (Old (w12.alloc (.cells #[.slice L0 1 l0, .slice U0 1 u0, .slice L1 1 l1, .slice U1 1 u1, .slice L2 1 l2, .slice U2 1 u2, .slice L3 1 l3, .slice U3 1 u3] 27))) (w12.alloc (.cells #[.slice L0 1 l0, .slice U0 1 u0, .slice L1 1 l1, .slice U1 1 u1, .slice L2 1 l2, .slice U2 1 u2, .slice L3 1 l3, .slice U3 1 u3] 27)) (some ⟨w12.heap.size, 0, none⟩) 4 wantL from
    by
      refine sl_lit (Blk.new _ _ _) ?_ (by show _ < _; simp) (by show 4 ≤ maxLen; decide) rfl
      show CellsAre pCub _ _ [.slice L0 1 l0, .slice U0 1 u0, .slice L1 1 l1, .slice U1 1 u1, .slice L2 1 l2, .slice U2 1 u2, .slice L3 1 l3, .slice U3 1 u3] [⟨[0], [2]⟩, ⟨[3], [4]⟩, ⟨[5], [5]⟩, ⟨[6], [10]⟩]
      exact ⟨_, _, rfl, ⟨L0, l0, U0, u0, rfl, Hl0.out.later hbb, Hu0.out.later hbb⟩, _, _, rfl, ⟨L1, l1, U1, u1, rfl, Hl1.out.later hbb, Hu1.out.later hbb⟩, _, _, rfl, ⟨L2, l2, U2, u2, rfl, Hl2.out.later hbb, Hu2.out.later hbb⟩, _, _, rfl, ⟨L3, l3, U3, u3, rfl, Hl3.out.later hbb, Hu3.out.later hbb⟩, rfl⟩)
  obtain ⟨Aw, hAw⟩ : ∃ Aw, Aw = (some ⟨w12.heap.size, 0, none⟩ : Option Addr) := ⟨_, rfl⟩
  rw [← hAw] at hw
  clear Hl0 Hu0 Hl1 Hu1 Hl2 Hu2 Hl3 Hu3
  go_wp2_with fail
  rw [← hAw]
  generalize hW : w12.alloc (.cells #[.slice L0 1 l0, .slice U0 1 u0, .slice L1 1 l1, .slice U1 1 u1, .slice L2 1 l2, .slice U2 1 u2, .slice L3 1 l3, .slice U3 1 u3] 27) = w13 at hbb hw ⊢
  have Hb13 := Lib.hid (Hb12.out.trans (hbb.mono z12))
  have z13 := Hb13.out.size
  have Hx_ := Lib.hid (Hx.out.later hbb)
  clear Hx
  have Hx := Hx_
  clear Hx_
  have Hp_ := Lib.hid (Hp.out.later hbb)
  clear Hp
  have Hp := Hp_
  clear Hp_
  have Hw := hw
  clear hw hbb hW hAw
  refine (given_calls w13).mono ?_
  rintro e w14 ⟨hb, A1, c1, A2, c2, A3, c3, A4, c4, rfl, hf⟩
  have hbb := hb
  have Hb14 := Lib.hid (Hb13.out.trans (hbb.mono z13))
  have z14 := Hb14.out.size
  have Hx_ := Lib.hid (Hx.out.later hbb)
  clear Hx
  have Hx := Hx_
  clear Hx_
  have Hp_ := Lib.hid (Hp.out.later hbb)
  clear Hp
  have Hp := Hp_
  clear Hp_
  have Hw_ := Lib.hid (Hw.out.later hbb)
  clear Hw
  have Hw := Hw_
  clear Hw_
  have Hf := Lib.hid hf.new
  clear hb hf hbb
  go_wp2_with fail
  refine (accept_given A1 c1 A2 c2 A3 c3 A4 c4 1 true Aw 4 w14 Hf.out Hw.out gf.out.2.2.2.1).mono ?_
  rintro e w15 ⟨rfl, hb⟩
  have hbb := hb
  have Hb15 := Lib.hid (Hb14.out.trans (hbb.mono z14))
  have z15 := Hb15.out.size
  have Hx_ := Lib.hid (Hx.out.later hbb)
  clear Hx
  have Hx := Hx_
  clear Hx_
  have Hp_ := Lib.hid (Hp.out.later hbb)
  clear Hp
  have Hp := Hp_
  clear Hp_
  have Hw_ := Lib.hid (Hw.out.later hbb)
  clear Hw
  have Hw := Hw_
  clear Hw_
  clear hb hbb Hf
  go_wp2_with fail
  refine (given_calls w15).mono ?_
  rintro e w16 ⟨hb, A1, c1, A2, c2, A3, c3, A4, c4, rfl, hf⟩
  have hbb := hb
  have Hb16 := Lib.hid (Hb15.out.trans (hbb.mono z15))
  have z16 := Hb16.out.size
  have Hx_ := Lib.hid (Hx.out.later hbb)
  clear Hx
  have Hx := Hx_
  clear Hx_
  have Hp_ := Lib.hid (Hp.out.later hbb)
  clear Hp
  have Hp := Hp_
  clear Hp_
  have Hw_ := Lib.hid (Hw.out.later hbb)
  clear Hw
  have Hw := Hw_
  clear Hw_
  have Hf := Lib.hid hf.new
  clear hb hf hbb
  go_wp2_with fail
  refine (accept_given A1 c1 A2 c2 A3 c3 A4 c4 2 false Aw 4 w16 Hf.out Hw.out gf.out.2.2.2.2.1).mono ?_
  rintro e w17 ⟨rfl, hb⟩
  have hbb := hb
  have Hb17 := Lib.hid (Hb16.out.trans (hbb.mono z16))
  have z17 := Hb17.out.size
  have Hx_ := Lib.hid (Hx.out.later hbb)
  clear Hx
  have Hx := Hx_
  clear Hx_
  have Hp_ := Lib.hid (Hp.out.later hbb)
  clear Hp
  have Hp := Hp_
  clear Hp_
  have Hw_ := Lib.hid (Hw.out.later hbb)
  clear Hw
  have Hw := Hw_
  clear Hw_
  clear hb hbb Hf
  go_wp2_with fail
  refine (costs_calls 0 4 2 w17 (fits_i64 (by decide)) (fits_i64 (by decide)) gl.out.1).mono ?_
  rintro e w18 ⟨rfl, hb⟩
  have hbb := hb
  have Hb18 := Lib.hid (Hb17.out.trans (hbb.mono z17))
  have z18 := Hb18.out.size
  have Hx_ := Lib.hid (Hx.out.later hbb)
  clear Hx
  have Hx := Hx_
  clear Hx_
  have Hp_ := Lib.hid (Hp.out.later hbb)
  clear Hp
  have Hp := Hp_
  clear Hp_
  have Hw_ := Lib.hid (Hw.out.later hbb)
  clear Hw
  have Hw := Hw_
  clear Hw_
  clear hb hbb
  go_wp2_with fail
  refine (costs_calls 6 10 4 w18 (fits_i64 (by decide)) (fits_i64 (by decide)) gl.out.2.1).mono ?_
  rintro e w19 ⟨rfl, hb⟩
  have hbb := hb
  have Hb19 := Lib.hid (Hb18.out.trans (hbb.mono z18))
  have z19 := Hb19.out.size
  have Hx_ := Lib.hid (Hx.out.later hbb)
  clear Hx
  have Hx := Hx_
  clear Hx_
  have Hp_ := Lib.hid (Hp.out.later hbb)
  clear Hp
  have Hp := Hp_
  clear Hp_
  have Hw_ := Lib.hid (Hw.out.later hbb)
  clear Hw
  have Hw := Hw_
  clear Hw_
  clear hb hbb
  go_wp2_with fail
  refine (costs_calls 0 10 0 w19 (fits_i64 (by decide)) (fits_i64 (by decide)) gl.out.2.2.1).mono ?_
  rintro e w20 ⟨rfl, hb⟩
  have hbb := hb
  have Hb20 := Lib.hid (Hb19.out.trans (hbb.mono z19))
  have z20 := Hb20.out.size
  have Hx_ := Lib.hid (Hx.out.later hbb)
  clear Hx
  have Hx := Hx_
  clear Hx_
  have Hp_ := Lib.hid (Hp.out.later hbb)
  clear Hp
  have Hp := Hp_
  clear Hp_
  have Hw_ := Lib.hid (Hw.out.later hbb)
  clear Hw
  have Hw := Hw_
  clear Hw_
  clear hb hbb
  go_wp2_with fail
  refine (costs_calls 0 5 0 w20 (fits_i64 (by decide)) (fits_i64 (by decide)) gl.out.2.2.2.1).mono ?_
  rintro e w21 ⟨rfl, hb⟩
  have hbb := hb
  have Hb21 := Lib.hid (Hb20.out.trans (hbb.mono z20))
  have z21 := Hb21.out.size
  have Hx_ := Lib.hid (Hx.out.later hbb)
  clear Hx
  have Hx := Hx_
  clear Hx_
  have Hp_ := Lib.hid (Hp.out.later hbb)
  clear Hp
  have Hp := Hp_
  clear Hp_
  have Hw_ := Lib.hid (Hw.out.later hbb)
  clear Hw
  have Hw := Hw_
  clear Hw_
  clear hb hbb
  go_wp2_with fail
  refine (costs_calls 0 2 8 w21 (fits_i64 (by decide)) (fits_i64 (by decide)) gl.out.2.2.2.2.1).mono ?_
  rintro e w22 ⟨rfl, hb⟩
  have hbb := hb
  have Hb22 := Lib.hid (Hb21.out.trans (hbb.mono z21))
  have z22 := Hb22.out.size
  have Hx_ := Lib.hid (Hx.out.later hbb)
  clear Hx
  have Hx := Hx_
  clear Hx_
  have Hp_ := Lib.hid (Hp.out.later hbb)
  clear Hp
  have Hp := Hp_
  clear Hp_
  have Hw_ := Lib.hid (Hw.out.later hbb)
  clear Hw
  have Hw := Hw_
  clear Hw_
  clear hb hbb
  go_wp2_with fail
  refine (costs_calls 3 5 0 w22 (fits_i64 (by decide)) (fits_i64 (by decide)) gl.out.2.2.2.2.2.1).mono ?_
  rintro e w23 ⟨rfl, hb⟩
  have hbb := hb
  have Hb23 := Lib.hid (Hb22.out.trans (hbb.mono z22))
  have z23 := Hb23.out.size
  have Hx_ := Lib.hid (Hx.out.later hbb)
  clear Hx
  have Hx := Hx_
  clear Hx_
  have Hp_ := Lib.hid (Hp.out.later hbb)
  clear Hp
  have Hp := Hp_
  clear Hp_
  have Hw_ := Lib.hid (Hw.out.later hbb)
  clear Hw
  have Hw := Hw_
  clear Hw_
  clear hb hbb
  go_wp2_with fail
  refine (costs_calls 3 4 2 w23 (fits_i64 (by decide)) (fits_i64 (by decide)) gl.out.2.2.2.2.2.2.1).mono ?_
  rintro e w24 ⟨rfl, hb⟩
  have hbb := hb
  have Hb24 := Lib.hid (Hb23.out.trans (hbb.mono z23))
  have z24 := Hb24.out.size
  have Hx_ := Lib.hid (Hx.out.later hbb)
  clear Hx
  have Hx := Hx_
  clear Hx_
  have Hp_ := Lib.hid (Hp.out.later hbb)
  clear Hp
  have Hp := Hp_
  clear Hp_
  have Hw_ := Lib.hid (Hw.out.later hbb)
  clear Hw
  have Hw := Hw_
  clear Hw_
  clear hb hbb
  go_wp2_with fail
  refine (costs_calls 5 5 1 w24 (fits_i64 (by decide)) (fits_i64 (by decide)) gl.out.2.2.2.2.2.2.2).mono ?_
  rintro e w25 ⟨rfl, hb⟩
  have hbb := hb
  have Hb25 := Lib.hid (Hb24.out.trans (hbb.mono z24))
  have z25 := Hb25.out.size
  have Hx_ := Lib.hid (Hx.out.later hbb)
  clear Hx
  have Hx := Hx_
  clear Hx_
  have Hp_ := Lib.hid (Hp.out.later hbb)
  clear Hp
  have Hp := Hp_
  clear Hp_
  have Hw_ := Lib.hid (Hw.out.later hbb)
  clear Hw
  have Hw := Hw_
  clear Hw_
  clear hb hbb
  have hL := Lib.hid (lit1 w25 5 (fits_i64 (by decide)))
  have hX := Lib.hid (Hx.out.later (al (.cells #[.int .i64 5] 3)))
  go_wp2_with fail
  refine (sameInts_calls Ax (some ⟨w25.heap.size, 0, none⟩) cx 1 [5] [5] _ hX.out hL.out).mono ?_
  rintro e w26 ⟨rfl, q, hq⟩
  have hbb := (show Below w25.heap.size w25 w26 by rw [hq]; exact below_drewN (al _) _)
  have Hb26 := Lib.hid (Hb25.out.trans (hbb.mono z25))
  have z26 := Hb26.out.size
  have Hx_ := Lib.hid (Hx.out.later hbb)
  clear Hx
  have Hx := Hx_
  clear Hx_
  have Hp_ := Lib.hid (Hp.out.later hbb)
  clear Hp
  have Hp := Hp_
  clear Hp_
  have Hw_ := Lib.hid (Hw.out.later hbb)
  clear Hw
  have Hw := Hw_
  clear Hw_
  clear hq hbb hL hX
  have hsm : ((([5] : List Int) == [5]) = true) := by decide
  rw [hsm]
  go_wp2_with fail
  refine (sameCubs_calls Ap Aw cp 4 wantL wantL w26 Hp.out Hw.out).mono ?_
  rintro e w27 ⟨rfl, hb⟩
  have hbb := hb
  have Hb27 := Lib.hid (Hb26.out.trans (hbb.mono z26))
  have z27 := Hb27.out.size
  have Hx_ := Lib.hid (Hx.out.later hbb)
  clear Hx
  have Hx := Hx_
  clear Hx_
  have Hp_ := Lib.hid (Hp.out.later hbb)
  clear Hp
  have Hp := Hp_
  clear Hp_
  have Hw_ := Lib.hid (Hw.out.later hbb)
  clear Hw
  have Hw := Hw_
  clear Hw_
  clear hb hbb
  have hsc : (wantL == wantL) = true := by decide
  rw [hsc]
  go_wp2
  go_ret
  exact ⟨rfl, Hb27.out⟩
end Go.Proofs.Ytcdplnikpbbomaa
