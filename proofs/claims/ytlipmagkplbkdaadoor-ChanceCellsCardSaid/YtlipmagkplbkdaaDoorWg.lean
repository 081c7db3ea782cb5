/-
  Layer 6: the walks of the reference's SameModules and Same.
-/
import Derived.Test.YtlipmagkplbkdaaDoorWd
import Derived.Lib.QuietBelow
namespace Go.Proofs.YtlipmagkplbkdaaDoor
open Go.RowKit Go.Sort

theorem beq_mod (m n : Mod) : (m == n) = (m.name == n.name && m.args == n.args) := by
  rw [Bool.eq_iff_iff, beq_iff_eq, Bool.and_eq_true, beq_iff_eq, beq_iff_eq]
  obtain ⟨a, b⟩ := m
  obtain ⟨c, d⟩ := n
  simp


set_option maxRecDepth 100000 in
set_option maxHeartbeats 1000000 in
theorem sameMods_calls {F : Nat → Prop} (A B : Option Addr) (c c' : Nat) (m n : Mod) (w : World) (h : SlAt (pI .i64) F w A c m.args) (h' : SlAt (pI .i64) F w B c' n.args) (hF : ∀ k, F k → k < w.heap.size) :
    Calls Tryd.prog 41 #[.agg #[.int .u8 m.name, .slice A m.args.length c], .agg #[.int .u8 n.name, .slice B n.args.length c']] w (BoolPost (m == n) w) := by
  rw [beq_mod]
  obtain ⟨nm, xs⟩ := m
  obtain ⟨nn, ys⟩ := n
  simp only at h h' ⊢
  have hmx := h.lenle
  have hmy := h'.lenle
  have H := Lib.hid h; clear h
  have H' := Lib.hid h'; clear h'
  have HF := Lib.hid hF; clear hF
  have hbW : Below w.heap.size w ((w.alloc (.cells #[.int .u8 nm, .slice A xs.length c] 49)).alloc (.cells #[.int .u8 nn, .slice B ys.length c'] 49)) := ((Below.refl _ _).alloc (Nat.le_refl _) _).alloc (by simp) _
  have HbW := Lib.hid hbW; clear hbW
  by_cases hn : nm = nn
  · have e0 : (nm != nn) = false := by simp [hn]
    have Hn := Lib.hid hn; clear hn
    by_cases hl : xs.length = ys.length
    · have e1 : ((xs.length : Int) != (ys.length : Int)) = false := by simp [hl]
      have Hl := Lib.hid hl; clear hl
      have hkp : ∀ (d : Nat) k, F k → ((((w.alloc (.cells #[.int .u8 nm, .slice A xs.length c] 49)).alloc (.cells #[.int .u8 nn, .slice B ys.length c'] 49))).drewN d).heap[k]? = w.heap[k]? := fun d k hk =>
        (Below.heap_alloc _ _ _ (by have := HF.out k hk; simp; omega)).trans (Below.heap_alloc _ _ _ (HF.out k hk))
      have Hx := Lib.hid (fun d => H.out.keep (hkp d))
      have Hy := Lib.hid (fun d => H'.out.keep (hkp d))
      clear hkp
      have hc1 : ∀ d : Nat, ((((w.alloc (.cells #[.int .u8 nm, .slice A xs.length c] 49)).alloc (.cells #[.int .u8 nn, .slice B ys.length c'] 49))).drewN d).cell? ⟨w.heap.size, 1, none⟩ = some (.slice A xs.length c) := fun d =>
        (cell_keep (w := w.alloc (.cells #[.int .u8 nm, .slice A xs.length c] 49)) (Below.heap_alloc _ _ _ (by simp))).trans ((Blk.new w _ _).cell 1)
      have hc2 : ∀ d : Nat, ((((w.alloc (.cells #[.int .u8 nm, .slice A xs.length c] 49)).alloc (.cells #[.int .u8 nn, .slice B ys.length c'] 49))).drewN d).cell? ⟨w.heap.size + 1, 1, none⟩ = some (.slice B ys.length c') := fun d => by
        simp
      have Hc1 := Lib.hid hc1; have Hc2 := Lib.hid hc2
      clear hc1 hc2
      go_enter Tryd.func41, Tryd.ntmps41
      go_wp2
      go_loopw [5] (fun i wr => ∃ k : Nat, k ≤ xs.length ∧ i = .int .i64 k ∧ Hid ((xs == ys) = (xs.drop k == ys.drop k)) ∧ ∃ d : Nat, wr = (((w.alloc (.cells #[.int .u8 nm, .slice A xs.length c] 49)).alloc (.cells #[.int .u8 nn, .slice B ys.length c'] 49))).drewN d) (fun i _ => xs.length - (intOf i).toNat)
      case atStart => exact ⟨0, Nat.zero_le _, rfl, rfl, 0, rfl⟩
      case round =>
        obtain ⟨k, hk, rfl, hin, d, hw⟩ := hrel
        have hbr : Below w.heap.size w wr := by rw [hw]; exact below_drewN HbW.out d
        have hc1 := Hc1.out d
        have hc2 := Hc2.out d
        have hx := Hx.out d
        have hy := Hy.out d
        rw [← hw] at hc1 hc2 hx hy
        have Hbr := Lib.hid hbr; clear hbr
        have Hw := Lib.hid hw; clear hw
        clear Hx Hy
        by_cases hlt : k < xs.length
        · have hlt' : k < ys.length := by rw [← Hl.out]; exact hlt
          obtain ⟨b, o, x, hdx, rfl, _, hc, _⟩ := hx.getI hlt
          obtain ⟨b', o', y, hdy, rfl, _, hc', _⟩ := hy.getI hlt'
          clear hx hy
          by_cases hxy : x = y
          · have e1 : (x != y) = false := by simp [hxy]
            have Hxy := Lib.hid hxy; clear hxy
            go_wp2
            go_quiet (fail)
            go_wp2
            go_roundw
            case rel =>
              refine ⟨k + 1, by omega, by go_num, ?_, ?_⟩
              · unfold Hid; rw [hin.out, hdx.out, hdy.out, Hxy.out]; simp
              · rw [Hw.out]; exact ⟨_, World.drewN_drewN _ _ _⟩
            case measure => simp [intOf]; omega
          · have e1 : (x != y) = true := by simp [hxy]
            have Hxy := Lib.hid hxy; clear hxy
            go_wp2
            go_quiet (fail)
            go_wp2
            go_ret
            refine ⟨ret_bool ?_, below_drewN Hbr.out _⟩
            rw [hin.out, hdx.out, hdy.out, List.cons_beq_cons, beq_false_of_ne Hxy.out]; simp
        · clear hx hy
          go_wp2
          go_ret
          refine ⟨ret_bool ?_, Hbr.out⟩
          rw [hin.out, drop_end hlt, drop_end (by rw [← Hl.out]; exact hlt), Hn.out]; simp
    · have e1 : ((xs.length : Int) != (ys.length : Int)) = true := by simp; omega
      have Hl := Lib.hid hl; clear hl
      go_enter Tryd.func41, Tryd.ntmps41
      go_wp2
      go_ret
      refine ⟨ret_bool ?_, HbW.out⟩
      cases hb : xs == ys
      · simp
      · exact absurd (congrArg List.length (eq_of_beq hb)) Hl.out
  · have e0 : (nm != nn) = true := by simp [hn]
    have Hn := Lib.hid hn; clear hn
    go_enter Tryd.func41, Tryd.ntmps41
    go_wp2
    go_ret
    refine ⟨ret_bool ?_, HbW.out⟩
    rw [beq_false_of_ne Hn.out]; rfl
set_option maxRecDepth 100000 in
set_option maxHeartbeats 1000000 in
theorem refSame_calls (A B : Option Addr) (c c' : Nat) (xs ys : List Mod) (w : World) (h : SlAt pMod (Old w) w A c xs) (h' : SlAt pMod (Old w) w B c' ys) :
    Calls Tryd.prog 25 #[.slice A xs.length c, .slice B ys.length c'] w (BoolPost (xs == ys) w) := by
  have hmx := h.lenle
  have hmy := h'.lenle
  have H := Lib.hid h; clear h
  have H' := Lib.hid h'; clear h'
  by_cases hl : xs.length = ys.length
  · have e1 : ((xs.length : Int) != (ys.length : Int)) = false := by simp [hl]
    have Hl := Lib.hid hl; clear hl
    go_enter Tryd.func25, Tryd.ntmps25
    go_wp2
    go_loopw [5] (fun i wr => ∃ k : Nat, k ≤ xs.length ∧ i = .int .i64 k ∧ Hid ((xs == ys) = (xs.drop k == ys.drop k)) ∧ Hid (Below w.heap.size w wr) ∧ w.heap.size ≤ wr.heap.size) (fun i _ => xs.length - (intOf i).toNat)
    case atStart => exact ⟨0, Nat.zero_le _, rfl, rfl, Below.refl _ _, Nat.le_refl _⟩
    case round =>
      obtain ⟨k, hk, rfl, hin, hb, hsz⟩ := hrel
      by_cases hlt : k < xs.length
      · have hlt' : k < ys.length := by rw [← Hl.out]; exact hlt
        obtain ⟨b, o, A', d, m, hdx, rfl, _, hx0, hx1, _, hxa, _⟩ := (H.out.below hb.out).getMod hlt
        obtain ⟨b', o', B', d', n, hdy, rfl, _, hy0, hy1, _, hya, _⟩ := (H'.out.below hb.out).getMod hlt'
        have kx0 := cell_regrown hx0
        have kx1 := cell_regrown hx1
        have ky0 := cell_regrown hy0
        have ky1 := cell_regrown hy1
        clear hx0 hx1 hy0 hy1
        have hcall : ∀ (q : Nat) (os : Array Obj), Calls Tryd.prog 41 #[.agg #[.int .u8 m.name, .slice A' m.args.length d], .agg #[.int .u8 n.name, .slice B' n.args.length d']] (grow (redrawn wr q) os) fun e w'' => e = .returned (.bool (m == n)) ∧ ∃ p : Regrown, w'' = grow (redrawn wr p.d) p.os := fun q os =>
          have hg := below_regrown wr q os
          Calls.regrown_of (sameMods_calls A' B' d d' m n _ (hxa.out.keep fun k hk => hg.block k (Nat.lt_of_lt_of_le hk hsz)) (hya.out.keep fun k hk => hg.block k (Nat.lt_of_lt_of_le hk hsz)) (fun k hk => Nat.lt_of_lt_of_le (Nat.lt_of_lt_of_le hk hsz) hg.size))
        have Hcall := Lib.hid hcall; clear hcall
        generalize hmn : (m == n) = t at Hcall
        have Hmn := Lib.hid hmn; clear hmn
        go_wp2
        refine wp_region_quiet_below (by kernel_rfl) (by kernel_rfl) ?_
        repeat (quiet_step (exact Hcall.out _ _))
        refine wpQuiet_nil ?_
        intro _ hw'
        obtain ⟨⟨dq, osq⟩, hw''⟩ := hw'
        subst hw''
        have hbw : Below w.heap.size w (grow (redrawn wr dq) osq) := hb.out.trans ((below_regrown wr dq osq).mono hsz)
        have Hbw := Lib.hid hbw; clear hbw
        cases t
        · go_wp2
          go_ret
          refine ⟨ret_bool ?_, Hbw.out⟩
          rw [hin.out, hdx.out, hdy.out, List.cons_beq_cons, Hmn.out]; rfl
        · go_wp2
          go_roundw
          case rel =>
            refine ⟨k + 1, by omega, by go_num, ?_, Hbw, Hbw.out.size⟩
            unfold Hid; rw [hin.out, hdx.out, hdy.out, List.cons_beq_cons, Hmn.out]; rfl
          case measure => simp [intOf]; omega
      · go_wp2
        go_ret
        refine ⟨ret_bool ?_, hb.out⟩
        rw [hin.out, drop_end hlt, drop_end (by rw [← Hl.out]; exact hlt)]; rfl
  · have e1 : ((xs.length : Int) != (ys.length : Int)) = true := by simp; omega
    have Hl := Lib.hid hl; clear hl
    go_enter Tryd.func25, Tryd.ntmps25
    go_wp2
    go_ret
    refine ⟨ret_bool ?_, Below.refl _ _⟩
    cases hb : xs == ys
    · rfl
    · exact absurd (congrArg List.length (eq_of_beq hb)) Hl.out
end Go.Proofs.YtlipmagkplbkdaaDoor
