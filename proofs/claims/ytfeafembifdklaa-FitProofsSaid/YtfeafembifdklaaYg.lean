/-
  FitProofs, the walk of the law: it returns true.
-/
import Derived.Test.YtfeafembifdklaaYf
namespace Go.Proofs.Ytfeafembifdklaa
open Go.RowKit Go.Sort
set_option linter.unusedVariables false

theorem Kept.drew {F : Nat → Prop} {w w' : World} (h : Kept F w w') : Kept F w w'.drew := ⟨h.os, h.tape, h.output, h.size, h.block⟩
theorem softCubs_drew {F : Nat → Prop} {w : World} {A : Option Addr} {n : Nat} (h : SoftCubs F w A n) : SoftCubs F w.drew A n := h
theorem softInts_drew {F : Nat → Prop} {w : World} {A : Option Addr} {n : Nat} (h : SoftInts F w A n) : SoftInts F w.drew A n := h
/-- region 3: both rows copied -/
def L3 (W : World) (g3 : Nat) (f : Fit) (A1 : Option Addr) (c1 : Nat) (A2 : Option Addr) (c2 : Nat) (A3 : Option Addr) (c3 : Nat) (A4 : Option Addr) (c4 : Nat) : Nat → (Nat → Prop) → (Nat → Value) → World → Prop
  | 0, X, s, w => Own (pI .i64) 3 W.heap.size (Old W) w (s 0) [] ∧ ∀ k, (s 0).ownBlock = some k → X k
  | 1, X, s, w => s 1 = .pointer (some ⟨g3, 0, none⟩)
  | 2, X, s, w => s 2 = .slice A1 f.lo.length c1
  | 3, X, s, w => ∃ A' c', s 3 = .slice A' f.lo.length c' ∧ Own (pI .i64) 3 W.heap.size (Old W) w (s 3) ([] ++ f.lo) ∧ ∀ k, (s 3).ownBlock = some k → X k
  | 4, X, s, w => Own (pI .i64) 3 W.heap.size (Old W) w (s 4) [] ∧ ∀ k, (s 4).ownBlock = some k → X k
  | 5, X, s, w => s 5 = .pointer (some ⟨g3, 1, none⟩)
  | 6, X, s, w => s 6 = .slice A2 f.hi.length c2
  | 7, X, s, w => ∃ A' c', s 7 = .slice A' f.hi.length c' ∧ Own (pI .i64) 3 W.heap.size (Old W) w (s 7) ([] ++ f.hi) ∧ ∀ k, (s 7).ownBlock = some k → X k
  | 8, X, s, w => ∃ A' c', s 8 = .slice A' f.lo.length c' ∧ Own (pI .i64) 3 W.heap.size (Old W) w (s 8) ([] ++ f.lo) ∧ ∀ k, (s 8).ownBlock = some k → X k
  | 9, X, s, w => ∃ A' c', s 9 = .slice A' f.hi.length c' ∧ Own (pI .i64) 3 W.heap.size (Old W) w (s 9) ([] ++ f.hi) ∧ ∀ k, (s 9).ownBlock = some k → X k
  | _, _, _, _ => True
def l3c : List (Option Nat) := [some 3, none, none, some 8, some 7, none, none, some 9, none, none]
def l3D : List (List Nat) := [[], [], [1], [0, 2], [], [], [5], [4, 6], [3], [7]]
theorem L3_stab (W : World) (g3 : Nat) (f : Fit) (A1 : Option Addr) (c1 : Nat) (A2 : Option Addr) (c2 : Nat) (A3 : Option Addr) (c3 : Nat) (A4 : Option Addr) (c4 : Nat) (i : Nat) (X : Nat → Prop) (s s' : Nat → Value) (w w' : World) (h : L3 W g3 f A1 c1 A2 c2 A3 c3 A4 c4 i X s w) (hi' : s' i = s i) (hd : ∀ k, k ∈ l3D.getD i [] → s' k = s k) (hb : RowKit.Below W.heap.size W w) (hb' : RowKit.Below W.heap.size W w') (hs : w.heap.size ≤ w'.heap.size) (hX : ∀ k, X k → k < w.heap.size) (hk : ∀ k, X k → w'.heap[k]? = w.heap[k]?) : L3 W g3 f A1 c1 A2 c2 A3 c3 A4 c4 i X s' w' := by
  have hG : ∀ k, Old W k → w'.heap[k]? = w.heap[k]? := fun k hk => (hb'.block k hk).trans (hb.block k hk).symm
  match i, h, hi', hd with
  | 0, ⟨h1, h2⟩, hi, _ => exact ⟨by rw [hi]; exact own_keepL h1 h2 hs hG hk, by rw [hi]; exact h2⟩
  | 1, h, hi, _ => exact hi.trans h
  | 2, h, hi, _ => exact hi.trans h
  | 3, ⟨A', c', h1, h2, h3⟩, hi, _ => exact ⟨A', c', hi.trans h1, by rw [hi]; exact own_keepL h2 h3 hs hG hk, by rw [hi]; exact h3⟩
  | 4, ⟨h1, h2⟩, hi, _ => exact ⟨by rw [hi]; exact own_keepL h1 h2 hs hG hk, by rw [hi]; exact h2⟩
  | 5, h, hi, _ => exact hi.trans h
  | 6, h, hi, _ => exact hi.trans h
  | 7, ⟨A', c', h1, h2, h3⟩, hi, _ => exact ⟨A', c', hi.trans h1, by rw [hi]; exact own_keepL h2 h3 hs hG hk, by rw [hi]; exact h3⟩
  | 8, ⟨A', c', h1, h2, h3⟩, hi, _ => exact ⟨A', c', hi.trans h1, by rw [hi]; exact own_keepL h2 h3 hs hG hk, by rw [hi]; exact h3⟩
  | 9, ⟨A', c', h1, h2, h3⟩, hi, _ => exact ⟨A', c', hi.trans h1, by rw [hi]; exact own_keepL h2 h3 hs hG hk, by rw [hi]; exact h3⟩
  | n + 10, _, _, _ => exact trivial
set_option maxRecDepth 100000 in
set_option maxHeartbeats 8000000 in
theorem fitProofs_walk (f : Fit) (A1 : Option Addr) (c1 : Nat) (A2 : Option Addr) (c2 : Nat) (A3 : Option Addr) (c3 : Nat) (A4 : Option Addr) (c4 : Nat) (cost : Int) (l : List Cub) (B : Option Addr) (d : Nat) (w : World) (h : FitAt f (Old w) w A1 c1 A2 c2 A3 c3 A4 c4) (hl : SlAt pCub (Old w) w B d l) :
    Calls Try.prog 3 #[.agg #[.slice A1 f.lo.length c1, .slice A2 f.hi.length c2, .slice A3 f.terms.length c3, .slice A4 f.goals.length c4], .int .i64 cost, .slice B l.length d] w (OkPost w) := by
  have m1 := hl.lenle
  have m2 := h.l.lenle
  have m3 := h.h.lenle
  obtain ⟨W0, hW0⟩ : ∃ W0, W0 = w.alloc (.cells #[.slice A1 f.lo.length c1, .slice A2 f.hi.length c2, .slice A3 f.terms.length c3, .slice A4 f.goals.length c4] 25) := ⟨_, rfl⟩
  have hb0 : Below w.heap.size w W0 := by rw [hW0]; exact (Below.refl _ _).alloc (Nat.le_refl _) _
  have hz0 : w.heap.size + 1 ≤ W0.heap.size := by rw [hW0]; simp
  have hl0 : w.heap.size < W0.heap.size := by omega
  have hbl0 : Blk W0 w.heap.size 25 #[.slice A1 f.lo.length c1, .slice A2 f.hi.length c2, .slice A3 f.terms.length c3, .slice A4 f.goals.length c4] := by rw [hW0]; exact Blk.new _ _ _
  have h0 := h.later hb0
  have l0 := hl.later hb0
  have gr := greatFit3_calls f A1 c1 A2 c2 A3 c3 A4 c4 W0 h0
  have cells : ∀ W : World, Below W0.heap.size W0 W → W.cell? ⟨w.heap.size, 0, none⟩ = some (.slice A1 f.lo.length c1) ∧ W.cell? ⟨w.heap.size, 1, none⟩ = some (.slice A2 f.hi.length c2) ∧ W.cell? ⟨w.heap.size, 2, none⟩ = some (.slice A3 f.terms.length c3) ∧ W.cell? ⟨w.heap.size, 3, none⟩ = some (.slice A4 f.goals.length c4) := fun W hW => (hbl0.same (hW.block _ hl0)).four
  obtain ⟨y0, y1, y2, y3⟩ := cells W0 (Below.refl _ _)
  have H0 := Lib.hid h0; clear h0
  have L0 := Lib.hid l0; clear l0
  have Hb0 := Lib.hid hb0; clear hb0
  have Hbl0 := Lib.hid hbl0; clear hbl0
  have HW0 := Lib.hid hW0; clear hW0
  have Gr := Lib.hid gr; clear gr
  have Cells := Lib.hid cells; clear cells
  clear h hl
  go_enter Try.func3, Try.ntmps3
  go_wp2_with fail
  rw [← HW0.out]
  refine Gr.out.mono ?_
  rintro e w1 ⟨⟨b, rfl, hs⟩, hb1⟩
  have z1 := hb1.size
  clear y0 y1 y2 y3
  obtain ⟨y0, y1, y2, y3⟩ := Cells.out w1 hb1
  have hbw1 := Hb0.out.trans (hb1.mono (by omega))
  cases b
  case true =>
    have Hb1 := Lib.hid hb1; clear hb1
    have Hbw1 := Lib.hid hbw1; clear hbw1
    have Hs := Lib.hid hs; clear hs
    go_wp2
    go_ret
    exact ⟨rfl, Hbw1.out⟩
  obtain ⟨n1, n2⟩ := hs rfl
  clear hs
  have gp := greatProof_calls B d l w1 (L0.out.later hb1)
  have Hb1 := Lib.hid hb1; clear hb1
  have Hbw1 := Lib.hid hbw1; clear hbw1
  have Gp := Lib.hid gp; clear gp
  go_wp2_with fail
  refine Gp.out.mono ?_
  rintro e w2 ⟨⟨b, rfl⟩, hb2⟩
  have hb02 := Hb1.out.trans (hb2.mono z1)
  have z2 := hb02.size
  have hbw2 := Hb0.out.trans (hb02.mono (by omega))
  clear hb2 y0 y1 y2 y3
  obtain ⟨y0, y1, y2, y3⟩ := Cells.out w2 hb02
  cases b
  case true =>
    have Hb02 := Lib.hid hb02; clear hb02
    have Hbw2 := Lib.hid hbw2; clear hbw2
    go_wp2
    go_ret
    exact ⟨rfl, Hbw2.out⟩
  have nF := Hbl0.out.same (hb02.block _ hl0)
  have h2 := H0.out.later hb02
  have Hb02 := Lib.hid hb02; clear hb02
  have Hbw2 := Lib.hid hbw2; clear hbw2
  have NF := Lib.hid nF; clear nF
  have H2 := Lib.hid h2; clear h2
  go_upto_region 3 with fail
  refine wp_region_led (L3 w2 w.heap.size f A1 c1 A2 c2 A3 c3 A4 c4) l3c l3D (by kernel_rfl) (by kernel_rfl) (L3_stab w2 w.heap.size f A1 c1 A2 c2 A3 c3 A4 c4) ?step ?fin
  case step =>
    intro i o ho a w' X hA
    match i, ho with
    | 0, ho =>
      obtain rfl := Option.some.inj ho
      exact led_new hA _ _ (run_bsI rfl _ w') (fun e => by cases e) fun s hs _ => ⟨by rw [hs]; exact Own.empty hA.bel.size, fun k hk => by rw [hs] at hk; injection hk with hk; exact hk.symm⟩
    | 1, ho =>
      obtain rfl := Option.some.inj ho
      exact led_quiet hA (.pointer (some ⟨w.heap.size, 0, none⟩)) (run_fieldG _ (.tmp 3) 0 w.heap.size 0 rfl (hA.old (d := 3) (by kernel_rfl) rfl) (by kernel_rfl)) (fun e => by cases e) fun s hs _ => hs
    | 2, ho =>
      obtain rfl := Option.some.inj ho
      exact led_quiet hA (.slice A1 f.lo.length c1) (run_cellG _ 22 _ (.tmp 26) rfl _ 0 ((hA.val rfl).trans (hA.get 1 (by decide) (.inl rfl))) Try.underlying22 (((NF.out.same (hA.bel.block _ NF.out.lt)).cell 0))) (fun e => by cases e) fun s hs _ => hs
    | 3, ho =>
      obtain rfl := Option.some.inj ho
      obtain ⟨o1, x1⟩ := hA.get 0 (by decide) (.inr rfl)
      exact led_cat hA 0 rfl 22 3 (.int .i64 0) 8 (.tmp 25) (.tmp 27) rfl Try.underlying22 info_intL rfl (by decide) (hA.val rfl) o1 x1 A1 c1 f.lo ((hA.val rfl).trans (hA.get 2 (by decide) (.inl rfl))) (Old w2) (H2.out.l.below hA.bel) (own_neqI o1 hA.bel.size) f.lo.length rfl (room_of (by omega)) (by decide) (fun e => by cases e) (fun _ => False) (fun b hb => hb.elim)
        fun A' c' w'' h1 h2 s hs hk => ⟨A', c', hs, by rw [hs]; exact h1, fun k hk => .inl (by rw [hs] at hk; exact hk)⟩
    | 4, ho =>
      obtain rfl := Option.some.inj ho
      exact led_new hA _ _ (run_bsI rfl _ w') (fun e => by cases e) fun s hs _ => ⟨by rw [hs]; exact Own.empty hA.bel.size, fun k hk => by rw [hs] at hk; injection hk with hk; exact hk.symm⟩
    | 5, ho =>
      obtain rfl := Option.some.inj ho
      exact led_quiet hA (.pointer (some ⟨w.heap.size, 1, none⟩)) (run_fieldG _ (.tmp 3) 1 w.heap.size 1 rfl (hA.old (d := 3) (by kernel_rfl) rfl) (by kernel_rfl)) (fun e => by cases e) fun s hs _ => hs
    | 6, ho =>
      obtain rfl := Option.some.inj ho
      exact led_quiet hA (.slice A2 f.hi.length c2) (run_cellG _ 22 _ (.tmp 30) rfl _ 1 ((hA.val rfl).trans (hA.get 5 (by decide) (.inl rfl))) Try.underlying22 (((NF.out.same (hA.bel.block _ NF.out.lt)).cell 1))) (fun e => by cases e) fun s hs _ => hs
    | 7, ho =>
      obtain rfl := Option.some.inj ho
      obtain ⟨o1, x1⟩ := hA.get 4 (by decide) (.inr rfl)
      exact led_cat hA 4 rfl 22 3 (.int .i64 0) 8 (.tmp 29) (.tmp 31) rfl Try.underlying22 info_intL rfl (by decide) (hA.val rfl) o1 x1 A2 c2 f.hi ((hA.val rfl).trans (hA.get 6 (by decide) (.inl rfl))) (Old w2) (H2.out.h.below hA.bel) (own_neqI o1 hA.bel.size) f.hi.length rfl (room_of (by omega)) (by decide) (fun e => by cases e) (fun _ => False) (fun b hb => hb.elim)
        fun A' c' w'' h1 h2 s hs hk => ⟨A', c', hs, by rw [hs]; exact h1, fun k hk => .inl (by rw [hs] at hk; exact hk)⟩
    | 8, ho =>
      obtain rfl := Option.some.inj ho
      obtain ⟨A5, c5, e1, o1, x1⟩ := hA.get 3 (by decide) (.inr rfl)
      exact led_pass hA 3 rfl _ (run_moveL _ (.tmp 28) _ (.inr rfl) ((hA.val rfl).trans e1)) (fun e => by cases e) fun s hs _ => ⟨A5, c5, hs, by rw [hs, ← e1]; exact o1, fun k hk => x1 k (by rw [e1, ← hs]; exact hk)⟩
    | 9, ho =>
      obtain rfl := Option.some.inj ho
      obtain ⟨A5, c5, e1, o1, x1⟩ := hA.get 7 (by decide) (.inr rfl)
      exact led_pass hA 7 rfl _ (run_moveL _ (.tmp 32) _ (.inr rfl) ((hA.val rfl).trans e1)) (fun e => by cases e) fun s hs _ => ⟨A5, c5, hs, by rw [hs, ← e1]; exact o1, fun k hk => x1 k (by rw [e1, ← hs]; exact hk)⟩
    | n + 10, ho =>
      have : (none : Option Oper) = some o := ho
      cases this
  case fin =>
    intro v X w3 hb3 hv
    obtain ⟨⟨A5, c5, v8, o8, _⟩, _⟩ := hv 8 (by simp) rfl
    obtain ⟨⟨A6, c6, v9, o9, _⟩, _⟩ := hv 9 (by simp) rfl
    rw [v8, List.nil_append] at o8
    rw [v9, List.nil_append] at o9
    have s5 := o8.sl'.2.wide (F' := Old w3) fun k hk => hk.2
    have s6 := o9.sl'.2.wide (F' := Old w3) fun k hk => hk.2
    have hb03 := Hb02.out.trans (hb3.mono z2)
    have z3 := hb03.size
    have h3 := H0.out.later hb03
    have l3 := L0.out.later hb03
    simp only [putsV]
    rw [v8, v9]
    clear hv v8 v9 o8 o9 hb3 y0 y1 y2 y3
    obtain ⟨y0, y1, y2, y3⟩ := Cells.out w3 hb03
    obtain ⟨pl, hpl⟩ : ∃ pl, (proveF f).1 = pl := ⟨_, rfl⟩
    obtain ⟨pe, hpe⟩ : ∃ pe, (proveF f).2 = pe := ⟨_, rfl⟩
    have cp := prove_callsF f A1 c1 A2 c2 A3 c3 A4 c4 w3 h3
    have plen : pl.length ≤ 2000 := by rw [← hpl]; exact proveF_len f
    have psid : ∀ c ∈ pl, c.hi.length = c.lo.length := by rw [← hpl]; exact proveF_sides f
    unfold ProvePostF at cp
    rw [hpl, hpe] at cp
    have S5 := Lib.hid s5; clear s5
    have S6 := Lib.hid s6; clear s6
    have Hb03 := Lib.hid hb03; clear hb03
    have H3 := Lib.hid h3; clear h3
    have L3 := Lib.hid l3; clear l3
    have Cp := Lib.hid cp; clear cp
    have Psid := Lib.hid psid; clear psid
    go_wp2_with fail
    refine Cp.out.mono ?_
    rintro e w4 ⟨hb4, A7, c7, rfl, s7⟩
    have hb04 := Hb03.out.trans (hb4.mono z3)
    have z4 := hb04.size
    have s5 := S5.out
    have s6 := S6.out
    have h4 := H0.out.later hb04
    have rp := refProve_calls f A1 c1 A2 c2 A3 c3 A4 c4 w4 h4
    unfold ProvePost at rp
    rw [hpl, hpe] at rp
    clear y0 y1 y2 y3
    obtain ⟨y0, y1, y2, y3⟩ := Cells.out w4 hb04
    have z34 : w3.heap.size ≤ w4.heap.size := hb4.size
    have hc4 := hb4
    have S5 := Lib.hid s5; clear s5
    have S6 := Lib.hid s6; clear s6
    have S7 := Lib.hid s7; clear s7
    have Hb04 := Lib.hid hb04; clear hb04
    have H4 := Lib.hid h4; clear h4
    have Rp := Lib.hid rp; clear rp
    have Hb4 := Lib.hid hb4; clear hb4
    have Hc4 := Lib.hid hc4; clear hc4
    go_wp2_with fail
    refine Rp.out.mono ?_
    rintro e w5 ⟨hb5, A8, c8, rfl, s8⟩
    have hb05 := Hb04.out.trans (hb5.mono z4)
    have hc5 := Hc4.out.trans (hb5.mono (by omega))
    have z5 := hb05.size
    have s7 : SlAt pCubF (fun k => w3.heap.size ≤ k ∧ k < w4.heap.size) w5 A7 c7 pl := S7.out.keep fun k hk => hb5.block k hk.2
    have s8 := s8.wide (F' := Old w5) fun k hk => hk.2
    have h5 := H0.out.later hb05
    have l5 := L0.out.later hb05
    have ca := accept_calls f A1 c1 A2 c2 A3 c3 A4 c4 cost l B d w5 h5 l5
    obtain ⟨av, hav⟩ : ∃ av, acceptF f cost l = av := ⟨_, rfl⟩
    rw [hav] at ca
    clear y0 y1 y2 y3
    obtain ⟨y0, y1, y2, y3⟩ := Cells.out w5 hb05
    have z45 : w4.heap.size ≤ w5.heap.size := hb5.size
    clear hb5
    have Hc5 := Lib.hid hc5; clear hc5
    have S7 := Lib.hid s7; clear s7
    have S8 := Lib.hid s8; clear s8
    have Hb05 := Lib.hid hb05; clear hb05
    have H5 := Lib.hid h5; clear h5
    have L5 := Lib.hid l5; clear l5
    have Ca := Lib.hid ca; clear ca
    go_wp2_with fail
    refine Ca.out.mono ?_
    rintro e w6 ⟨rfl, hb6⟩
    have hb06 := Hb05.out.trans (hb6.mono z5)
    have hc6 := Hc5.out.trans (hb6.mono (by omega))
    have z6 := hb06.size
    have s7 : SlAt pCubF (fun k => w3.heap.size ≤ k ∧ k < w4.heap.size) w6 A7 c7 pl := S7.out.keep fun k hk => hb6.block k (by omega)
    have s8 := S8.out.later hb6
    have h6 := H0.out.later hb06
    have l6 := L0.out.later hb06
    have ra := refAccept_calls f A1 c1 A2 c2 A3 c3 A4 c4 cost l B d w6 h6 l6
    rw [hav] at ra
    clear y0 y1 y2 y3
    obtain ⟨y0, y1, y2, y3⟩ := Cells.out w6 hb06
    have z56 : w5.heap.size ≤ w6.heap.size := hb6.size
    clear hb6
    have Hc6 := Lib.hid hc6; clear hc6
    have S7 := Lib.hid s7; clear s7
    have S8 := Lib.hid s8; clear s8
    have Hb06 := Lib.hid hb06; clear hb06
    have H6 := Lib.hid h6; clear h6
    have L6 := Lib.hid l6; clear l6
    have Ra := Lib.hid ra; clear ra
    go_wp2_with fail
    refine Ra.out.mono ?_
    rintro e w7 ⟨rfl, hb7⟩
    have hb07 := Hb06.out.trans (hb7.mono z6)
    have hc7 := Hc6.out.trans (hb7.mono (by omega))
    have z7 := hb07.size
    have s7 : SlAt pCubF (fun k => w3.heap.size ≤ k ∧ k < w4.heap.size) w7 A7 c7 pl := S7.out.keep fun k hk => hb7.block k (by omega)
    have s8 := S8.out.later hb7
    have z67 : w6.heap.size ≤ w7.heap.size := hb7.size
    have cs := sameCubs_calls A7 A8 c7 c8 pl pl w7 (slAt_cubF (s7.wide fun k hk => by show k < w7.heap.size; omega)) s8
    rw [show (pl == pl) = true from by simp] at cs
    clear y0 y1 y2 y3 hb7
    obtain ⟨y0, y1, y2, y3⟩ := Cells.out w7 hb07
    have Hc7 := Lib.hid hc7; clear hc7
    have S7 := Lib.hid s7; clear s7
    have S8 := Lib.hid s8; clear s8
    have Hb07 := Lib.hid hb07; clear hb07
    have Cs := Lib.hid cs; clear cs
    go_wp2_with fail
    refine Cs.out.mono ?_
    rintro e w8 ⟨rfl, hb8⟩
    have hb08 := Hb07.out.trans (hb8.mono z7)
    have hc8 := Hc7.out.trans (hb8.mono (by omega))
    have z8 := hb08.size
    have s7 : SlAt pCubF (fun k => w3.heap.size ≤ k ∧ k < w4.heap.size) w8 A7 c7 pl := S7.out.keep fun k hk => hb8.block k (by omega)
    have z78 : w7.heap.size ≤ w8.heap.size := hb8.size
    have sc := softCubs_of s7 Psid.out
    clear hb8 y0 y1 y2 y3
    have Hc8 := Lib.hid hc8; clear hc8
    have S7 := Lib.hid s7; clear s7
    have Hb08 := Lib.hid hb08; clear hb08
    have Sc := Lib.hid sc; clear sc
    go_wp2
    go_loopw [17] (fun i wr => ∃ k : Nat, k ≤ pl.length ∧ i = .int .i64 k ∧ Hid (Kept (fun q => w3.heap.size ≤ q ∧ q < w4.heap.size) w8 wr) ∧ Hid (SoftCubs (fun q => w3.heap.size ≤ q ∧ q < w4.heap.size) wr A7 pl.length)) (fun i _ => pl.length - (intOf i).toNat)
    case atStart => exact ⟨0, Nat.zero_le _, rfl, Kept.refl _ _, Sc.out⟩
    case round =>
      obtain ⟨k, hk, rfl, hkp, hs⟩ := hrel
      obtain ⟨wo, rfl⟩ : ∃ wo : World, wo = wr := ⟨_, rfl⟩
      by_cases hlt : k < pl.length
      · obtain ⟨b, o, A9, A10, q, c9, c10, rfl, hF, hc1, hc2, hq, hs1, hs2⟩ := hs.out k hlt
        have Hs1 := Lib.hid hs1; clear hs1
        have Hs2 := Lib.hid hs2; clear hs2
        have HF := Lib.hid hF; clear hF
        have Hc1 := Lib.hid hc1; clear hc1
        have Hc2 := Lib.hid hc2; clear hc2
        go_wp2
        go_loopw [18] (fun j wr => ∃ t : Nat, t ≤ q ∧ j = .int .i64 t ∧ Hid (Kept (fun q => w3.heap.size ≤ q ∧ q < w4.heap.size) w8 wr) ∧ Hid (SoftCubs (fun q => w3.heap.size ≤ q ∧ q < w4.heap.size) wr (some ⟨b, o, none⟩) pl.length) ∧ Hid (SoftInts (fun q => w3.heap.size ≤ q ∧ q < w4.heap.size) wr A9 q) ∧ Hid (SoftInts (fun q => w3.heap.size ≤ q ∧ q < w4.heap.size) wr A10 q) ∧ wr.cell? ⟨b, o + k * 2, none⟩ = some (.slice A9 q c9) ∧ wr.cell? ⟨b, o + k * 2 + 1, none⟩ = some (.slice A10 q c10)) (fun j _ => q - (intOf j).toNat)
        case atStart => exact ⟨0, Nat.zero_le _, rfl, hkp, hs, Hs1, Hs2, Hc1.out, Hc2.out⟩
        case round =>
          obtain ⟨t, ht, rfl, hkp2, hs2, hi1, hi2, hc3, hc4⟩ := hrel
          obtain ⟨wi, rfl⟩ : ∃ wi : World, wi = wr := ⟨_, rfl⟩
          have hk0 : (0 : Int) ≤ (k : Int) := Int.natCast_nonneg _
          have hk1 : (k : Int) < (pl.length : Int) := by omega
          by_cases hlt2 : t < q
          · obtain ⟨b1, o1, x1, rfl, hF1, hu1, hx1⟩ := hi1.out t hlt2
            obtain ⟨b2, o2, x2, rfl, hF2, hu2, hx2⟩ := hi2.out t hlt2
            have hz1 : wi.frozen? ⟨b1, o1 + t, none⟩ = false := hu1 _
            obtain ⟨x2', hx2'⟩ := int_set (z := 77) hx1 hx2
            have hz2 : (wi.setCell ⟨b1, o1 + t, none⟩ (.int .i64 77)).frozen? ⟨b2, o2 + t, none⟩ = false := unf_set hu2 _ _ _
            have hc3' := sl_set (z := 77) hx1 hc3
            have hc4' := sl_set (z := 77) hx1 hc4
            have ht0 : (0 : Int) ≤ (t : Int) := Int.natCast_nonneg _
            have ht1 : (t : Int) < (q : Int) := by omega
            go_wp2
            go_region
            go_wp2
            go_roundw
            case rel =>
              have Hx1 := Lib.hid hx1
              have Hx2 := Lib.hid hx2'
              exact ⟨t + 1, by omega, by go_num, ((hkp2.out.set (p := ⟨b1, o1 + t, none⟩) hF1 _).set (p := ⟨b2, o2 + t, none⟩) hF2 _).drew, softCubs_drew ((hs2.out.set hx1 _).set hx2' _), softInts_drew ((hi1.out.set hx1 _).set hx2' _), softInts_drew ((hi2.out.set hx1 _).set hx2' _), sl_set hx2' hc3', sl_set hx2' hc4'⟩
            case measure => simp [intOf]; omega
          · obtain rfl : t = q := by omega
            go_wp2
            go_roundw
            case rel => exact ⟨k + 1, by omega, by go_num, hkp2, hs2⟩
            case measure => simp [intOf]; omega
      · obtain rfl : k = pl.length := by omega
        have hkw : Below w3.heap.size w8 wo := hkp.out.below fun q hq => hq.1
        have hb0o : Below W0.heap.size W0 wo := Hb08.out.trans (hkw.mono (by have := Hb03.out.size; omega))
        obtain ⟨y0, y1, y2, y3⟩ := Cells.out wo hb0o
        have h3o : Below w3.heap.size w3 wo := Hc8.out.trans hkw
        have s5 := S5.out.later h3o
        have s6 := S6.out.later h3o
        have ho := H0.out.later hb0o
        have i1 := sameInts_calls A1 A5 c1 c5 f.lo f.lo wo ho.l s5
        rw [show (f.lo == f.lo) = true from by simp] at i1
        have tot : Below w.heap.size w wo := Hb0.out.trans (hb0o.mono (by omega))
        have zo := hb0o.size
        have zow := h3o.size
        have S5 := Lib.hid s5; clear s5
        have S6 := Lib.hid s6; clear s6
        have Ho := Lib.hid ho; clear ho
        have I1 := Lib.hid i1; clear i1
        have Tot := Lib.hid tot; clear tot
        have Hb0o := Lib.hid hb0o; clear hb0o
        have H3o := Lib.hid h3o; clear h3o
        have Hkw := Lib.hid hkw; clear hkw
        go_wp2_with fail
        refine I1.out.mono ?_
        rintro e w9' ⟨rfl, n9, rfl⟩
        have hb9 : Below wo.heap.size wo (wo.drewN n9) := below_drewN (Below.refl _ _) n9
        obtain ⟨w9, hw9⟩ : ∃ w9, wo.drewN n9 = w9 := ⟨_, rfl⟩
        rw [hw9] at hb9 ⊢
        clear hw9
        have hb09 := Hb0o.out.trans (hb9.mono zo)
        clear y0 y1 y2 y3
        obtain ⟨y0, y1, y2, y3⟩ := Cells.out w9 hb09
        have z9 := hb9.size
        have h39 := H3o.out.trans (hb9.mono zow)
        have tot9 := Tot.out.trans (hb9.mono (by omega))
        have i2 := sameInts_calls A2 A6 c2 c6 f.hi f.hi w9 (H0.out.later hb09).h (S6.out.later hb9)
        rw [show (f.hi == f.hi) = true from by simp] at i2
        have I2 := Lib.hid i2; clear i2
        have Tot9 := Lib.hid tot9; clear tot9
        have Hb9 := Lib.hid hb9; clear hb9
        have H39 := Lib.hid h39; clear h39
        have Hb09 := Lib.hid hb09; clear hb09
        go_wp2_with fail
        refine I2.out.mono ?_
        rintro e w10' ⟨rfl, n10, rfl⟩
        go_wp2
        go_ret
        exact ⟨rfl, below_drewN Tot9.out n10⟩
end Go.Proofs.Ytfeafembifdklaa
