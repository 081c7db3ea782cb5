/-
  Layer 7: the walks of First, of the two Finds and of Great.
-/
import Derived.Test.YtipdppkoodlkcaaDoorM1
namespace Go.Proofs.YtipdppkoodlkcaaDoor
open Go.RowKit Go.Sort

theorem checkR_ok {rs : List Rul} (h : checkR rs = 0) : rs.all coreR = true ∧ rs.all fineR = true ∧ manyR rs = false := by
  unfold checkR at h
  by_cases hm : manyR rs = true
  · rw [if_pos hm] at h; cases h
  · rw [if_neg hm] at h
    by_cases hf : rs.all fineR = true
    · refine ⟨?_, hf, by simpa using hm⟩
      rw [List.all_eq_true] at hf ⊢
      intro r hr
      have := hf r hr
      unfold fineR at this
      simp only [Bool.and_eq_true] at this
      exact this.1
    · rw [if_neg hf] at h; cases h
theorem checkR_vals (rs : List Rul) : checkR rs = 0 ∨ checkR rs = 4 ∨ checkR rs = 8 := by
  unfold checkR
  split
  · exact .inr (.inl rfl)
  · split
    · exact .inl rfl
    · exact .inr (.inr rfl)
theorem checkF_vals (ms : List Mod) : checkF ms = 0 ∨ checkF ms = 4 ∨ checkF ms = 8 ∨ checkF ms = 28 := by
  unfold checkF
  split
  · exact .inr (.inl rfl)
  · split
    · exact .inr (.inr (.inl rfl))
    · split
      · exact .inr (.inr (.inr rfl))
      · split
        · exact .inr (.inr (.inr rfl))
        · exact .inl rfl

set_option maxRecDepth 100000 in
set_option maxHeartbeats 2000000 in
theorem rFind_calls (A : Option Addr) (c : Nat) (rs : List Rul) (A' : Option Addr) (c' : Nat) (m : Mod) (w : World) (h : SlAt pRul (Old w) w A c rs) (h' : SlAt (pI .i64) (Old w) w A' c' m.args) (h8 : Fits .u8 m.name) (hs : Small rs) :
    Calls Tryd.prog 8 #[.slice A rs.length c, .agg #[.int .u8 m.name, .slice A' m.args.length c']] w (PairPost (findF rs m) w) := by
  have hmx' := h'.lenle
  obtain ⟨W0, hW0⟩ : ∃ W0, W0 = w.alloc (.cells #[.int .u8 m.name, .slice A' m.args.length c'] 38) := ⟨_, rfl⟩
  have hb0 : Below w.heap.size w W0 := by rw [hW0]; exact (Below.refl _ _).alloc (Nat.le_refl _) _
  have hz0 : w.heap.size + 1 ≤ W0.heap.size := by rw [hW0]; simp
  have hbl0 : Blk W0 w.heap.size 38 #[.int .u8 m.name, .slice A' m.args.length c'] := by rw [hW0]; exact Blk.new _ _ _
  have h0 : SlAt pRul (Old W0) W0 A c rs := h.later hb0
  have H := Lib.hid h; clear h
  have H' := Lib.hid h'; clear h'
  have Hb0 := Lib.hid hb0; clear hb0
  have Hbl0 := Lib.hid hbl0; clear hbl0
  have H0 := Lib.hid h0; clear h0
  go_enter Tryd.func8, Tryd.ntmps8
  go_wp2_with fail
  rw [← hW0]
  have HW0 := Lib.hid hW0; clear hW0
  refine (rCheck_calls A c rs W0 H0.out hs).mono ?_
  rintro e w1 ⟨rfl, hb1⟩
  have hz1 := hb1.size
  have hbw1 : Below w.heap.size w w1 := Hb0.out.trans (hb1.mono (by omega))
  have hbl1 := Hbl0.out.same (hb1.block _ (by omega))
  have hr1 : SlAt pRul (Old w) w1 A c rs := H.out.below hbw1
  have ha1 : SlAt (pI .i64) (Old w) w1 A' c' m.args := H'.out.below hbw1
  have y0 := hbl1.cell 0
  have y1 := hbl1.cell 1
  have hcv := checkR_vals rs
  have Hbw1 := Lib.hid hbw1; clear hbw1
  have Hbl1 := Lib.hid hbl1; clear hbl1
  have Hr1 := Lib.hid hr1; clear hr1
  have Ha1 := Lib.hid ha1; clear ha1
  clear hb1
  by_cases hck : checkR rs = 0
  · have e0 : (checkR rs != 0) = false := by simp [hck]
    have hco := (checkR_ok hck).1
    have hff : findF rs m = if fineF m = true then (firstF rs m, 0) else (0, 8) := by unfold findF; rw [if_pos hck]
    have Hck := Lib.hid hck; clear hck
    have Hco := Lib.hid hco; clear hco
    have Hff := Lib.hid hff; clear hff
    clear hcv
    have hF1 : ∀ k, Old w k → k < w1.heap.size := fun k hk => by have : k < w.heap.size := hk; omega
    have HF1 := Lib.hid hF1; clear hF1
    go_wp2_with fail
    ((with_reducible refine (modCheck w1 m h8 A' c' Ha1.out HF1.out _ rfl).mono ?_))
    rintro e w2 ⟨rfl, hb2⟩
    have hz2 : w1.heap.size + 1 ≤ w2.heap.size := by have := hb2.size; simpa using this
    have hbw2 : Below w.heap.size w w2 := (Hbw1.out.alloc (by omega) _).trans (hb2.mono (by simp; omega))
    have hbl2 := Hbl1.out.same ((hb2.block _ (by simp; omega)).trans (Below.heap_alloc _ _ _ (by omega)))
    have z0 := hbl2.cell 0
    have z1 := hbl2.cell 1
    have hm := check_mod m
    have Hbw2 := Lib.hid hbw2; clear hbw2
    clear hb2 hbl2 y0 y1
    cases hfm : fineF m
    · have hno : checkF [m] ≠ 0 ∧ checkF [m] ≠ 28 := ⟨fun h => (by rw [hm.1 (.inl h)] at hfm; cases hfm), fun h => (by rw [hm.1 (.inr h)] at hfm; cases hfm)⟩
      have e1 : (checkF [m] != 0) = true := by simpa using hno.1
      have e2 : (checkF [m] != 28) = true := by simpa using hno.2
      have Hfm := Lib.hid hfm; clear hfm
      clear hm hno
      go_wp2
      go_ret2
      exact ⟨by rw [Hff.out, Hfm.out]; rfl, Hbw2.out⟩
    · have hfd : (checkF [m] != 0) = false ∨ ((checkF [m] != 0) = true ∧ (checkF [m] != 28) = false) := by
        rcases hm.2 hfm with h | h
        · exact .inl (by rw [h]; rfl)
        · exact .inr ⟨by rw [h]; rfl, by rw [h]; rfl⟩
      have hargs := fine_args hfm
      have hcall := find_calls A c rs A' c' m w2 (H.out.later Hbw2.out) ((H'.out.later Hbw2.out)) Hco.out hargs
      have Hfm := Lib.hid hfm; clear hfm
      have Hcall := Lib.hid hcall; clear hcall
      have Hargs := Lib.hid hargs; clear hargs
      clear hm
      rcases hfd with e1 | ⟨e1, e2⟩
      all_goals
        go_wp2_with fail
        refine Hcall.out.mono ?_
        rintro e w3 ⟨rfl, hb3⟩
        have hbw3 : Below w.heap.size w w3 := Hbw2.out.trans (hb3.mono (by omega))
        have Hbw3 := Lib.hid hbw3; clear hbw3
        clear hb3
        go_wp2
        go_ret2
        exact ⟨by rw [Hff.out, Hfm.out]; rfl, Hbw3.out⟩
  · have e0 : (checkR rs != 0) = true := by simp [hck]
    have hff : findF rs m = (0, checkR rs) := by unfold findF; rw [if_neg hck]
    have Hff := Lib.hid hff; clear hff
    have Hck := Lib.hid hck; clear hck
    go_wp2
    go_ret2
    exact ⟨by rw [Hff.out]; rfl, Hbw1.out⟩
end Go.Proofs.YtipdppkoodlkcaaDoor
