/-
  FitProofs, the walk of the law: it returns true.
-/
import Derived.Test.YtfeafembifdklaaYe
import Derived.Test.YtfeafembifdklaaYb
import Derived.Test.YtfeafembifdklaaZm
import Derived.Test.YtfeafembifdklaaZu
namespace Go.Proofs.Ytfeafembifdklaa
open Go.RowKit Go.Sort
set_option linter.unusedVariables false

def Great3 (f : Fit) (w : World) (e : Ending) (w' : World) : Prop := (∃ b : Bool, e = .returned (.bool b) ∧ (b = false → f.lo.length ≤ 10 ∧ f.hi.length ≤ 10)) ∧ Below w.heap.size w w'
set_option maxRecDepth 100000 in
set_option maxHeartbeats 4000000 in
theorem greatFit3_calls (f : Fit) (A1 : Option Addr) (c1 : Nat) (A2 : Option Addr) (c2 : Nat) (A3 : Option Addr) (c3 : Nat) (A4 : Option Addr) (c4 : Nat) (w : World) (h : FitAt f (Old w) w A1 c1 A2 c2 A3 c3 A4 c4) : Calls Try.prog 4 #[.agg #[.slice A1 f.lo.length c1, .slice A2 f.hi.length c2, .slice A3 f.terms.length c3, .slice A4 f.goals.length c4]] w (Great3 f w) := by
  have m1 := h.l.lenle
  have m2 := h.h.lenle
  have m3 := h.t.lenle
  have m4 := h.g.lenle
  obtain ⟨W0, hW0⟩ : ∃ W0, W0 = w.alloc (.cells #[.slice A1 f.lo.length c1, .slice A2 f.hi.length c2, .slice A3 f.terms.length c3, .slice A4 f.goals.length c4] 25) := ⟨_, rfl⟩
  have hb0 : Below w.heap.size w W0 := by rw [hW0]; exact (Below.refl _ _).alloc (Nat.le_refl _) _
  have hz0 : w.heap.size + 1 ≤ W0.heap.size := by rw [hW0]; simp
  have hl0 : w.heap.size < W0.heap.size := by omega
  have hbl0 : Blk W0 w.heap.size 25 #[.slice A1 f.lo.length c1, .slice A2 f.hi.length c2, .slice A3 f.terms.length c3, .slice A4 f.goals.length c4] := by rw [hW0]; exact Blk.new _ _ _
  have h0 := h.later hb0
  have cells : ∀ W : World, Below W0.heap.size W0 W → (W.cell? ⟨w.heap.size, 0, none⟩ = some (.slice A1 f.lo.length c1) ∧ W.cell? ⟨w.heap.size, 1, none⟩ = some (.slice A2 f.hi.length c2) ∧ W.cell? ⟨w.heap.size, 2, none⟩ = some (.slice A3 f.terms.length c3) ∧ W.cell? ⟨w.heap.size, 3, none⟩ = some (.slice A4 f.goals.length c4)) := fun W hW => (hbl0.same (hW.block _ (by omega))).four
  have H0 := Lib.hid h0; clear h0
  have Hb0 := Lib.hid hb0; clear hb0
  have Hbl0 := Lib.hid hbl0; clear hbl0
  have HW0 := Lib.hid hW0; clear hW0
  have Cells := Lib.hid cells; clear cells
  clear h
  by_cases t1 : 10 < f.lo.length
  · go_enter Try.func4, Try.ntmps4
    go_wp2
    go_ret
    exact ⟨⟨_, rfl, fun h => by cases h⟩, by rw [← HW0.out]; exact Hb0.out⟩
  by_cases t2 : 10 < f.hi.length
  · go_enter Try.func4, Try.ntmps4
    go_wp2
    go_ret
    exact ⟨⟨_, rfl, fun h => by cases h⟩, by rw [← HW0.out]; exact Hb0.out⟩
  by_cases t3 : 30 < f.terms.length
  · go_enter Try.func4, Try.ntmps4
    go_wp2
    go_ret
    exact ⟨⟨_, rfl, fun h => by cases h⟩, by rw [← HW0.out]; exact Hb0.out⟩
  by_cases t4 : 30 < f.goals.length
  · go_enter Try.func4, Try.ntmps4
    go_wp2
    go_ret
    exact ⟨⟨_, rfl, fun h => by cases h⟩, by rw [← HW0.out]; exact Hb0.out⟩
  go_enter Try.func4, Try.ntmps4
  go_wp2
  rw [← HW0.out]
  go_loop [3] (fun i => ∃ k : Nat, k ≤ f.terms.length ∧ i = .int .i64 k) (fun i => f.terms.length - (intOf i).toNat)
  case atStart => exact ⟨0, Nat.zero_le _, rfl⟩
  case round =>
    obtain ⟨k, hk, rfl⟩ := hrel
    obtain ⟨x0, x1, x2, x3⟩ := Cells.out W0 (Below.refl _ _)
    by_cases hlt : k < f.terms.length
    · obtain ⟨b, o, A, c, t, hd, rfl, hob, hs0, hs1, hsc, hsa, hsl⟩ := H0.out.t.getFrm hlt
      by_cases hc : 10 < t.coefs.length
      · go_wp2
        go_ret
        exact ⟨⟨_, rfl, fun _ => ⟨Nat.not_lt.1 t1, Nat.not_lt.1 t2⟩⟩, Hb0.out⟩
      · go_wp2
        go_round
        case rel => exact ⟨k + 1, by omega, by go_num⟩
        case measure => simp [intOf]; omega
    · have hvc := refValid_calls f A1 c1 A2 c2 A3 c3 A4 c4 W0 H0.out
      cases hv : validF f
      · rw [hv] at hvc
        have Hvc := Lib.hid hvc; clear hvc
        clear hv
        go_wp2_with fail
        refine Hvc.out.mono ?_
        rintro e w1 ⟨rfl, hb1⟩
        have hbw := Hb0.out.trans (hb1.mono (by omega))
        have Hbw := Lib.hid hbw; clear hbw
        clear hb1
        go_wp2
        go_ret
        exact ⟨⟨_, rfl, fun _ => ⟨Nat.not_lt.1 t1, Nat.not_lt.1 t2⟩⟩, Hbw.out⟩
      · obtain ⟨p1, p2, p3, p4, p5, p6, p7⟩ := valid_parts hv
        rw [hv] at hvc
        have Hvc := Lib.hid hvc; clear hvc
        have P3 := Lib.hid p3; clear p3
        have P6 := Lib.hid p6; clear p6
        clear hv p4 p5 p7
        go_wp2_with fail
        refine Hvc.out.mono ?_
        rintro e w1 ⟨rfl, hb1⟩
        have z1 := hb1.size
        clear x0 x1 x2 x3
        obtain ⟨x0, x1, x2, x3⟩ := Cells.out w1 hb1
        have Hb1 := Lib.hid hb1
        clear hb1
        go_wp2_with fail
        refine (refMany_calls f.lo f.hi A1 c1 A2 c2 w1 (H0.out.later Hb1.out).l (H0.out.later Hb1.out).h P3.out P6.out).mono ?_
        rintro e w2 ⟨rfl, hb2⟩
        have Hb2 := Lib.hid (Hb1.out.trans (hb2.mono z1)); clear hb2
        have z2 := Hb2.out.size
        obtain ⟨mv, hmv⟩ : ∃ mv, manyF 1 f.lo f.hi = mv := ⟨_, rfl⟩
        rw [hmv]
        have Hmv := Lib.hid hmv; clear hmv
        clear x0 x1 x2 x3
        obtain ⟨x0, x1, x2, x3⟩ := Cells.out w2 Hb2.out
        by_cases h400 : 400 < mv
        · go_wp2_with fail
          refine (refMany_calls f.lo f.hi A1 c1 A2 c2 w2 (H0.out.later Hb2.out).l (H0.out.later Hb2.out).h P3.out P6.out).mono ?_
          rintro e w3 ⟨rfl, hb3⟩
          have Hb3 := Lib.hid (Hb2.out.trans (hb3.mono z2)); clear hb3
          have z3 := Hb3.out.size
          go_wp2
          go_ret
          exact ⟨⟨_, rfl, fun _ => ⟨Nat.not_lt.1 t1, Nat.not_lt.1 t2⟩⟩, Hb0.out.trans (Hb3.out.mono (by omega))⟩
        · go_wp2
          go_ret
          exact ⟨⟨_, rfl, fun _ => ⟨Nat.not_lt.1 t1, Nat.not_lt.1 t2⟩⟩, Hb0.out.trans (Hb2.out.mono (by omega))⟩

/-! ### the certificate, written over -/
def SoftInts (F : Nat → Prop) (w : World) (A : Option Addr) (n : Nat) : Prop :=
  ∀ i, i < n → ∃ b o x, A = some ⟨b, o, none⟩ ∧ F b ∧ Unf w b ∧ w.cell? ⟨b, o + i, none⟩ = some (.int .i64 x)
/-- cubes that may be written over -/
def SoftCubs (F : Nat → Prop) (w : World) (A : Option Addr) (n : Nat) : Prop :=
  ∀ i, i < n → ∃ b o A1 A2 k c1 c2, A = some ⟨b, o, none⟩ ∧ F b ∧ w.cell? ⟨b, o + i * 2, none⟩ = some (.slice A1 k c1) ∧ w.cell? ⟨b, o + i * 2 + 1, none⟩ = some (.slice A2 k c2) ∧ k ≤ 9223372036854775807 ∧ SoftInts F w A1 k ∧ SoftInts F w A2 k
theorem unf_set {w : World} {b : Nat} (h : Unf w b) (q : Addr) (v : Value) : Unf (w.setCell q v) b := fun o => by rw [World.frozen?_setCell]; exact h o
theorem int_set {w : World} {q a : Addr} {k kk : IntKind} {x y z : Int} (hq : w.cell? q = some (.int kk y)) (h : w.cell? a = some (.int k x)) : ∃ x', (w.setCell q (.int kk z)).cell? a = some (.int k x') := by
  by_cases e : q = a
  · subst e
    rw [hq] at h
    cases h
    exact ⟨z, World.cell?_setCell_same _ _ _ hq⟩
  · exact ⟨x, (World.cell?_setCell_other _ _ _ _ e).trans h⟩
theorem sl_set {w : World} {q a : Addr} {kk : IntKind} {y z : Int} {A : Option Addr} {n c : Nat} (hq : w.cell? q = some (.int kk y)) (h : w.cell? a = some (.slice A n c)) : (w.setCell q (.int kk z)).cell? a = some (.slice A n c) := by
  have e : q ≠ a := fun e => by subst e; rw [hq] at h; cases h
  exact (World.cell?_setCell_other _ _ _ _ e).trans h
theorem SoftInts.set {F : Nat → Prop} {w : World} {A : Option Addr} {n : Nat} (h : SoftInts F w A n) {q : Addr} {kk : IntKind} {y : Int} (hq : w.cell? q = some (.int kk y)) (z : Int) : SoftInts F (w.setCell q (.int kk z)) A n := fun i hi => by
  obtain ⟨b, o, x, h1, h2, h3, h4⟩ := h i hi
  obtain ⟨x', h5⟩ := int_set (z := z) hq h4
  exact ⟨b, o, x', h1, h2, unf_set h3 _ _, h5⟩
theorem SoftCubs.set {F : Nat → Prop} {w : World} {A : Option Addr} {n : Nat} (h : SoftCubs F w A n) {q : Addr} {kk : IntKind} {y : Int} (hq : w.cell? q = some (.int kk y)) (z : Int) : SoftCubs F (w.setCell q (.int kk z)) A n := fun i hi => by
  obtain ⟨b, o, A1, A2, k, c1, c2, h1, h2, h3, h4, h5, h6, h7⟩ := h i hi
  exact ⟨b, o, A1, A2, k, c1, c2, h1, h2, sl_set hq h3, sl_set hq h4, h5, h6.set hq z, h7.set hq z⟩
theorem softInts_of {F : Nat → Prop} {w : World} {A : Option Addr} {c : Nat} {xs : List Int} (h : SlU F w A c xs) : SoftInts F w A xs.length := fun j hj => by
  obtain ⟨b', o', x, _, g1, g2, g3, _⟩ := h.1.getI hj
  exact ⟨b', o', x, g1, g2, h.2 (by intro e; rw [e] at hj; simp at hj) _ _ g1, g3⟩
theorem softCubs_of {F : Nat → Prop} {w : World} {A : Option Addr} {c : Nat} {xs : List Cub} (h : SlAt pCubF F w A c xs) (hs : ∀ x ∈ xs, x.hi.length = x.lo.length) : SoftCubs F w A xs.length := fun i hi => by
  obtain ⟨b, o, cs, m, hm, h1, h2, ⟨A', c', A'', c'', rfl, h4, h5⟩, h6⟩ := h.get hi
  have hk := hs m (List.mem_of_getElem? (get_of_drop hm))
  refine ⟨b, o, A', A'', m.lo.length, c', c'', h1, h2, by simpa [pCubF] using h6 0 _ rfl, by rw [← hk]; simpa [pCubF] using h6 1 _ rfl, h4.1.lenle.1, softInts_of h4, by rw [← hk]; exact softInts_of h5⟩
/-- what is not in F is as it was -/
structure Kept (F : Nat → Prop) (w w' : World) : Prop where
  os : w'.os = w.os
  tape : w'.tape = w.tape
  output : w'.output = w.output
  size : w'.heap.size = w.heap.size
  block : ∀ k, ¬ F k → w'.heap[k]? = w.heap[k]?
theorem Kept.refl (F : Nat → Prop) (w : World) : Kept F w w := ⟨rfl, rfl, rfl, rfl, fun _ _ => rfl⟩
theorem Kept.set {F : Nat → Prop} {w w' : World} (h : Kept F w w') {p : Addr} (hp : F p.block) (v : Value) : Kept F w (w'.setCell p v) :=
  ⟨h.os, h.tape, h.output, by simp [World.setCell, h.size], fun k hk => (Below.heap_setCell _ _ _ _ (fun e => hk (by rw [e]; exact hp))).trans (h.block k hk)⟩
theorem Kept.below {F : Nat → Prop} {w w' : World} (h : Kept F w w') {B : Nat} (hF : ∀ k, F k → B ≤ k) : Below B w w' :=
  ⟨h.os, h.tape, h.output, Nat.le_of_eq h.size.symm, fun k hk => h.block k fun hf => absurd (hF k hf) (by omega)⟩

theorem lookF_sides (f : Fit) (least : Int) : ∀ (N : Nat) (lo hi : List Int) (out : List Cub), hi.length = lo.length → (∀ c ∈ out, c.hi.length = c.lo.length) → ∀ c ∈ lookF f least N lo hi out, c.hi.length = c.lo.length
  | 0, _, _, _, _, h => h
  | N + 1, lo, hi, out, hl, h => by
    unfold lookF
    split
    · exact h
    · split
      · intro c hc
        rcases List.mem_append.1 hc with hc | hc
        · exact h c hc
        · obtain rfl := List.mem_singleton.1 hc
          exact hl
      · exact lookF_sides f least N _ _ _ (by rw [List.length_set]; exact hl) (lookF_sides f least N _ _ _ (by rw [List.length_set]; exact hl) h)
theorem proveF_sides (f : Fit) : ∀ c ∈ (proveF f).1, c.hi.length = c.lo.length := by
  unfold proveF
  split
  · rename_i hck
    split
    · intro c hc; simp at hc
    · exact lookF_sides f _ _ _ _ _ (valid_parts (checkFit_valid hck)).2.2.1 (fun c hc => by simp at hc)
  · intro c hc; simp at hc
theorem proveF_len (f : Fit) : (proveF f).1.length ≤ 2000 := by
  unfold proveF
  split
  · split
    · simp
    · rename_i h; simpa using h
  · simp
end Go.Proofs.Ytfeafembifdklaa
