/-
  Layer 7: the walks of the two Values.
-/
import Derived.Test.YtlipmagkplbkdaaDoorFb
namespace Go.Proofs.YtlipmagkplbkdaaDoor
open Go.RowKit Go.Sort

theorem check_F (args : List Int) : checkF [⟨70, args⟩] = 0 ↔ args.all argOk = true ∧ args.length ≤ 4 := by
  have h1 : fineF ⟨70, args⟩ = (args.all argOk && decide (args.length ≤ 4)) := by
    unfold fineF shapeOk
    rw [show letterB 70 = true from by decide]
    cases args with
    | nil => rfl
    | cons x l => simp
  unfold checkF
  rw [if_neg (by simp), List.all_cons, List.all_nil, Bool.and_true, h1]
  cases args.all argOk
  · simp
  · by_cases h : args.length ≤ 4
    · simp [h, scan]
    · simp [h]
theorem fine_F (args : List Int) : fineF ⟨70, args⟩ = true ↔ args.all argOk = true ∧ args.length ≤ 4 := by
  unfold fineF shapeOk
  rw [show letterB 70 = true from by decide]
  cases args with
  | nil => simp
  | cons x l => simp
/-- the check of one module, boxed at the heap's end -/
theorem modCheck {F : Nat → Prop} (W : World) (m : Mod) (h8 : Fits .u8 m.name) (A : Option Addr) (c : Nat) (h : SlAt (pI .i64) F W A c m.args) (hF : ∀ k, F k → k < W.heap.size) (n : Nat) (hn : W.heap.size = n) :
    Calls Tryd.prog 42 #[.slice (some ⟨n, 0, none⟩) 1 1] (W.alloc (.cells #[.int .u8 m.name, .slice A m.args.length c] 49)) (CheckPost [m] (W.alloc (.cells #[.int .u8 m.name, .slice A m.args.length c] 49))) := by
  subst hn
  refine wordCheck_calls (some ⟨W.heap.size, 0, none⟩) 1 [m] _ ?_
  refine (sl_boxed (E := pMod) (F := F) (u := .agg #[.int .u8 m.name, .slice A m.args.length c]) ⟨A, c, by simp [Value.cells], h8, h⟩ hF).wide ?_
  intro k hk
  rcases hk with hk | rfl
  · have := hF k hk; unfold Old; simp; omega
  · unfold Old; simp

theorem valueF_bad {f : Frm} {args : List Int} (h : formF f args.length = false ∨ ¬ (args.all argOk = true ∧ args.length ≤ 4)) : valueF f args = (0, 8) := by
  unfold valueF
  rw [if_neg]
  rintro ⟨h1, h2, h3⟩
  rcases h with h | h
  · rw [h] at h1; cases h1
  · exact h ⟨h2, h3⟩
theorem valueF_ok {f : Frm} {args : List Int} (h : SumOk f args) (hf : formF f args.length = true) : valueF f args = if worthF f args < -1000000000 ∨ 1000000000 < worthF f args then (0, 16) else (worthF f args, 0) := by
  unfold valueF
  rw [if_pos ⟨hf, List.all_eq_true.2 h.a, h.l⟩]

set_option maxRecDepth 100000 in
set_option maxHeartbeats 2000000 in
theorem value_calls (A : Option Addr) (c : Nat) (f : Frm) (A' : Option Addr) (c' : Nat) (args : List Int) (w : World) (h : SlAt (pI .i64) (Old w) w A c f.coefs) (h' : SlAt (pI .i64) (Old w) w A' c' args) (hc : Fits .i64 f.const) :
    Calls Tryd.prog 70 #[.agg #[.int .i64 f.const, .slice A f.coefs.length c], .slice A' args.length c'] w (PairPost (valueF f args) w) := by
  have hmx := h.lenle
  have hmx' := h'.lenle
  obtain ⟨W0, hW0⟩ : ∃ W0, W0 = w.alloc (.cells #[.int .i64 f.const, .slice A f.coefs.length c] 70) := ⟨_, rfl⟩
  have hb0 : Below w.heap.size w W0 := by rw [hW0]; exact (Below.refl _ _).alloc (Nat.le_refl _) _
  have hz0 : W0.heap.size = w.heap.size + 1 := by rw [hW0]; simp
  have hbl0 : Blk W0 w.heap.size 70 #[.int .i64 f.const, .slice A f.coefs.length c] := by rw [hW0]; exact Blk.new _ _ _
  have hF : ∀ k, Old w k → k < W0.heap.size := fun k hk => by have : k < w.heap.size := hk; omega
  have h2 : SlAt (pI .i64) (Old w) W0 A c f.coefs := h.below hb0
  have h3 : SlAt (pI .i64) (Old w) W0 A' c' args := h'.below hb0
  have hz0' : w.heap.size < W0.heap.size := by omega
  have y0 := hbl0.cell 0
  have y1 := hbl0.cell 1
  have H2 := Lib.hid h2; clear h2
  have H3 := Lib.hid h3; clear h3
  have HF := Lib.hid hF; clear hF
  have Hb0 := Lib.hid hb0; clear hb0
  have Hz0 := Lib.hid hz0; clear hz0
  have Hbl0 := Lib.hid hbl0; clear hbl0
  clear h h'
  cases hf : formF f args.length
  · have hv := valueF_bad (args := args) (.inl hf)
    have Hv := Lib.hid hv; clear hv
    have HW0 := Lib.hid hW0; clear hW0
    go_enter Tryd.func70, Tryd.ntmps70
    go_wp2_with fail
    rw [← HW0.out]
    refine (form_calls A c f args.length W0 H2.out HF.out hc (by omega)).mono ?_
    rintro e w1 ⟨rfl, hb1⟩
    have hbw : Below w.heap.size w w1 := Hb0.out.trans (hb1.mono (by omega))
    rw [hf]
    have Hbw := Lib.hid hbw; clear hbw
    go_wp2
    go_ret2
    exact ⟨by rw [Hv.out]; rfl, Hbw.out⟩
  · have Hf := Lib.hid hf; clear hf
    have HW0 := Lib.hid hW0; clear hW0
    go_enter Tryd.func70, Tryd.ntmps70
    go_wp2_with fail
    rw [← HW0.out]
    refine (form_calls A c f args.length W0 H2.out HF.out hc (by omega)).mono ?_
    rintro e w1 ⟨rfl, hb1⟩
    have hz1 := hb1.size
    have hbw1 : Below w.heap.size w w1 := Hb0.out.trans (hb1.mono (by omega))
    have hbl1 := Hbl0.out.same (hb1.block _ hz0')
    have hk2 : SlAt (pI .i64) (Old w) w1 A c f.coefs := H2.out.keep fun q hq => hb1.block q (HF.out q hq)
    have hk3 : SlAt (pI .i64) (Old w) w1 A' c' args := H3.out.keep fun q hq => hb1.block q (HF.out q hq)
    rw [Hf.out]
    have Hbw1 := Lib.hid hbw1; clear hbw1
    have Hbl1 := Lib.hid hbl1; clear hbl1
    have Hk2 := Lib.hid hk2; clear hk2
    have Hk3 := Lib.hid hk3; clear hk3
    clear hb1 y0 y1
    go_wp2_with fail
    ((with_reducible refine (modCheck w1 ⟨70, args⟩ (by exact fits_u8 (n := 70) (by decide)) A' c' Hk3.out (by exact fun k hk => Nat.lt_of_lt_of_le (HF.out k hk) hz1) _ rfl).mono ?_))
    rintro e w2 ⟨rfl, hb2⟩
    have hz2 : w1.heap.size + 1 ≤ w2.heap.size := by have := hb2.size; simpa using this
    have hbw2 : Below w.heap.size w w2 := (Hbw1.out.alloc (by omega) _).trans (hb2.mono (by simp; omega))
    have hbo2 : ∀ q, q < w1.heap.size → w2.heap[q]? = w1.heap[q]? := fun q hq => (hb2.block q (by simp; omega)).trans (Below.heap_alloc _ _ _ hq)
    have hbl2 := Hbl1.out.same (hbo2 _ (by omega))
    have hj2 : SlAt (pI .i64) (Old w) w2 A c f.coefs := Hk2.out.keep fun q hq => hbo2 q (Nat.lt_of_lt_of_le (HF.out q hq) hz1)
    have hj3 : SlAt (pI .i64) (Old w) w2 A' c' args := Hk3.out.keep fun q hq => hbo2 q (Nat.lt_of_lt_of_le (HF.out q hq) hz1)
    have y0 := hbl2.cell 0
    have y1 := hbl2.cell 1
    have Hbw2 := Lib.hid hbw2; clear hbw2
    have Hj2 := Lib.hid hj2; clear hj2
    have Hj3 := Lib.hid hj3; clear hj3
    clear hb2 hbo2 hbl2
    have hcf := check_F args
    by_cases hck : checkF [⟨70, args⟩] = 0
    · have hok : SumOk f args := sumOk Hf.out (hcf.1 hck).1 (hcf.1 hck).2
      have hbd := worth_bd hok
      have hv := valueF_ok hok Hf.out
      have e0 : (checkF [⟨70, args⟩] != 0) = false := by simp [hck]
      have Hck := Lib.hid hck; clear hck
      have Hok := Lib.hid hok; clear hok
      have Hv := Lib.hid hv; clear hv
      clear hcf
      go_wp2_with fail
      refine (worth_calls A c f A' c' args w2 Hj2.out Hj3.out (by exact fun k hk => by have := HF.out k hk; omega) Hok.out).mono ?_
      rintro e w3 ⟨rfl, hb3⟩
      have hbw3 : Below w.heap.size w w3 := Hbw2.out.trans (hb3.mono (by omega))
      have Hbw3 := Lib.hid hbw3; clear hbw3
      clear hb3
      obtain ⟨v, hvv⟩ : ∃ v, worthF f args = v := ⟨_, rfl⟩
      have Hvv := Lib.hid hvv
      rw [hvv] at hbd ⊢
      clear hvv
      by_cases h0 : v < -1000000000
      · go_wp2
        go_ret2
        exact ⟨by rw [Hv.out, Hvv.out, if_pos (.inl (by omega))]; rfl, Hbw3.out⟩
      · by_cases h1 : 1000000000 < v
        · go_wp2
          go_ret2
          exact ⟨by rw [Hv.out, Hvv.out, if_pos (.inr (by omega))]; rfl, Hbw3.out⟩
        · go_wp2
          go_ret2
          exact ⟨by rw [Hv.out, Hvv.out, if_neg (by omega)]; rfl, Hbw3.out⟩
    · have hv := valueF_bad (f := f) (args := args) (.inr fun h => hck (hcf.2 h))
      have e0 : (checkF [⟨70, args⟩] != 0) = true := by simp [hck]
      have Hv := Lib.hid hv; clear hv
      clear hcf hck
      go_wp2
      go_ret2
      exact ⟨by rw [Hv.out]; rfl, Hbw2.out⟩
end Go.Proofs.YtlipmagkplbkdaaDoor
