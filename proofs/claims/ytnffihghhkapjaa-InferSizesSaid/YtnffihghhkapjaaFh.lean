/-
  Layer 7: the walks of First, of the two Finds and of Great.
-/
import Derived.Test.YtnffihghhkapjaaFg
namespace Go.Proofs.Ytnffihghhkapjaa
open Go.RowKit Go.Sort

set_option maxRecDepth 100000 in
set_option maxHeartbeats 2000000 in
theorem first_calls (A : Option Addr) (c : Nat) (rs : List Rul) (A' : Option Addr) (c' : Nat) (m : Mod) (w : World) (h : SlAt pRul (Old w) w A c rs) (h' : SlAt (pI .i64) (Old w) w A' c' m.args) (hs : rs.all coreR = true) (hm : m.args.all argOk = true ∧ m.args.length ≤ 4) :
    Calls Try.prog 57 #[.slice A rs.length c, .agg #[.int .u8 m.name, .slice A' m.args.length c']] w (IntPost (firstF rs m) w) := by
  have hmx := h.lenle
  have hmx' := h'.lenle
  obtain ⟨W0, hW0⟩ : ∃ W0, W0 = w.alloc (.cells #[.int .u8 m.name, .slice A' m.args.length c'] 52) := ⟨_, rfl⟩
  have hb0 : Below w.heap.size w W0 := by rw [hW0]; exact (Below.refl _ _).alloc (Nat.le_refl _) _
  have hz0 : w.heap.size + 1 ≤ W0.heap.size := by rw [hW0]; simp
  have hbl0 : Blk W0 w.heap.size 52 #[.int .u8 m.name, .slice A' m.args.length c'] := by rw [hW0]; exact Blk.new _ _ _
  have H := Lib.hid h; clear h
  have H' := Lib.hid h'; clear h'
  have Hb0 := Lib.hid hb0; clear hb0
  have Hbl0 := Lib.hid hbl0; clear hbl0
  have Hm := Lib.hid hm; clear hm
  have Hs := Lib.hid hs; clear hs
  go_enter Try.func57, Try.ntmps57
  go_wp2
  rw [← hW0]
  have HW0 := Lib.hid hW0; clear hW0
  go_loopw [5] (fun i wr => ∃ k : Nat, k ≤ rs.length ∧ i = .int .i64 k ∧ Hid (Below (w.heap.size + 1) W0 wr) ∧ w.heap.size + 1 ≤ wr.heap.size ∧ Hid (firstF rs m = firstFrom m (rs.drop k) k)) (fun i _ => rs.length - (intOf i).toNat)
  case atStart => exact ⟨0, Nat.zero_le _, rfl, Below.refl _ _, hz0, rfl⟩
  case round =>
    obtain ⟨k, hk, rfl, hb, hsz, hall⟩ := hrel
    obtain ⟨wo, rfl⟩ : ∃ wo : World, wo = wr := ⟨_, rfl⟩
    have hbwo : Below w.heap.size w wo := Hb0.out.trans (hb.out.mono (Nat.le_succ _))
    have Hbwo := Lib.hid hbwo; clear hbwo
    by_cases hlt : k < rs.length
    · obtain ⟨b, o, A1, c1, A2, c2, r, hd, rfl, hob, k0, k1, k2, k3, k4, k5, k6, hat, hl1, hl2⟩ := (H.out.below Hbwo.out).getRulAt hlt
      have hco : coreR r = true := List.all_eq_true.1 Hs.out r (mem_of_drop hd.out)
      have hblo := Hbl0.out.same (hb.out.block _ (Nat.lt_succ_self _))
      have y0 := hblo.cell 0
      have y1 := hblo.cell 1
      simp only [List.getElem?_toArray, List.getElem?_cons_succ, List.getElem?_cons_zero] at y0 y1
      have q0 := cell_regrown k0
      have q1 := cell_regrown k1
      have q2 := cell_regrown k2
      have q3 := cell_regrown k3
      have q4 := cell_regrown k4
      have q5 := cell_regrown k5
      have q6 := cell_regrown k6
      have p0 := cell_regrown y0
      have p1 := cell_regrown y1
      have hk0 : (0 : Int) ≤ (k : Int) := Int.natCast_nonneg _
      have hk1 : (k : Int) < (rs.length : Int) := by omega
      have hcall : ∀ (q : Nat) (os : Array Obj), Calls Try.prog 63 #[.agg #[.int .u8 r.name, .int .i64 r.arity, .int .u8 r.left, .int .u8 r.right, .slice A1 r.guards.length c1, .int .i64 r.weight, .slice A2 r.out.length c2], .agg #[.int .u8 m.name, .slice A' m.args.length c']] (grow (redrawn wo q) os) fun e w'' => e = .returned (.bool (fitsF r m)) ∧ ∃ p : Regrown, w'' = grow (redrawn wo p.d) p.os := fun q os =>
        have hg := below_regrown wo q os
        Calls.regrown_of (fits_calls r A1 c1 A2 c2 A' c' m _ (hat.out.to (by omega) hg) (((H'.out.below Hbwo.out).keep fun q hq => hg.block q (by have : q < w.heap.size := hq; omega)).wide fun q hq => by have : q < w.heap.size := hq; have := hg.size; show q < _; omega) hco Hm.out)
      generalize hmn : fitsF r m = t at hcall
      have Hcall := Lib.hid hcall; clear hcall
      have Hmn := Lib.hid hmn; clear hmn
      have Hblo := Lib.hid hblo; clear hblo
      clear k0 k1 k2 k3 k4 k5 k6 y0 y1
      go_wp2
      refine wp_region_quiet_below (by kernel_rfl) (by kernel_rfl) ?_
      repeat (quiet_step (exact Hcall.out _ _))
      refine wpQuiet_nil ?_
      intro _ hw'
      obtain ⟨⟨dq, osq⟩, hw''⟩ := hw'
      subst hw''
      have hbr := below_regrown wo dq osq
      have hzr := hbr.size
      have hbw : Below w.heap.size w (grow (redrawn wo dq) osq) := Hbwo.out.trans (hbr.mono (by omega))
      have hb1 : Below (w.heap.size + 1) W0 (grow (redrawn wo dq) osq) := hb.out.trans (hbr.mono hsz)
      have Hbw := Lib.hid hbw; clear hbw
      have Hb1 := Lib.hid hb1; clear hb1
      clear hbr q0 q1 q2 q3 q4 q5 q6 p0 p1
      cases t
      · go_wp2
        go_roundw
        case rel => exact ⟨k + 1, by omega, by go_num, Hb1, by omega, by unfold Hid; rw [hall.out, hd.out, firstFrom_no Hmn.out]⟩
        case measure => simp [intOf]; omega
      · have hf : firstF rs m = (k : Int) := by rw [hall.out, hd.out, firstFrom_yes Hmn.out]
        have Hf := Lib.hid hf; clear hf
        go_wp2
        go_ret
        exact ⟨by rw [Hf.out]; rfl, Hbw.out⟩
    · have hf : firstF rs m = -1 := by rw [hall.out, drop_end hlt]; rfl
      have Hf := Lib.hid hf; clear hf
      go_wp2
      go_ret
      exact ⟨by rw [Hf.out]; rfl, Hbwo.out⟩
theorem checkR_ok {rs : List Rul} (h : checkR rs = 0) : rs.all coreR = true ∧ rs.all fineR = true ∧ manyR rs = false := by
  unfold checkR at h
  by_cases hm : manyR rs = true
  · rw [if_pos hm] at h; cases h
  · rw [if_neg hm] at h
    by_cases hf : rs.all fineR = true
    · refine ⟨?_, hf, by simpa using hm⟩
      rw [List.all_eq_true] at hf ⊢
      intro r hr
      have := hf r hr
      unfold fineR at this
      simp only [Bool.and_eq_true] at this
      exact this.1
    · rw [if_neg hf] at h; cases h
theorem checkR_vals (rs : List Rul) : checkR rs = 0 ∨ checkR rs = 4 ∨ checkR rs = 8 := by
  unfold checkR
  split
  · exact .inr (.inl rfl)
  · split
    · exact .inl rfl
    · exact .inr (.inr rfl)
theorem checkF_vals (ms : List Mod) : checkF ms = 0 ∨ checkF ms = 4 ∨ checkF ms = 8 ∨ checkF ms = 28 := by
  unfold checkF
  split
  · exact .inr (.inl rfl)
  · split
    · exact .inr (.inr (.inl rfl))
    · split
      · exact .inr (.inr (.inr rfl))
      · split
        · exact .inr (.inr (.inr rfl))
        · exact .inl rfl

end Go.Proofs.Ytnffihghhkapjaa
