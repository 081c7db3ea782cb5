/-
  Layer 9: the walk of the reference's Same.
-/
import Derived.Test.YtlipmagkplbkdaaDoorHd
import Derived.Deep.QuietTactic
import Derived.BigQuiet
namespace Go.Proofs.YtlipmagkplbkdaaDoor
open Go.RowKit Go.Sort Go.BigFrame
set_option linter.unusedVariables false

theorem cel_beq (x y : Cel) : (x == y) = (decide (x.path = y.path) && x.mod == y.mod) := by
  obtain ⟨p, m⟩ := x
  obtain ⟨q, n⟩ := y
  rw [Bool.eq_iff_iff]
  simp
theorem cons_beq {α : Type} [BEq α] (a b : α) (s t : List α) : ((a :: s) == (b :: t)) = (a == b && s == t) := rfl

set_option maxRecDepth 100000 in
set_option maxHeartbeats 2000000 in
theorem sameC_calls (A B : Option Addr) (c c' : Nat) (xs ys : List Cel) (w : World) (h : SlAt pCel (Old w) w A c xs) (h' : SlAt pCel (Old w) w B c' ys) :
    Calls Tryd.prog 15 #[.slice A xs.length c, .slice B ys.length c'] w (BoolPost (xs == ys) w) := by
  have hmx := h.lenle
  have hmy := h'.lenle
  have H := Lib.hid h; clear h
  have H' := Lib.hid h'; clear h'
  by_cases hl : xs.length = ys.length
  · have e1 : ((xs.length : Int) != (ys.length : Int)) = false := by simp [hl]
    have Hl := Lib.hid hl; clear hl
    go_enter Tryd.func15, Tryd.ntmps15
    go_wp2
    go_loopw [5] (fun i wr => ∃ k : Nat, k ≤ xs.length ∧ i = .int .i64 k ∧ Hid ((xs == ys) = (xs.drop k == ys.drop k)) ∧ Hid (Below w.heap.size w wr) ∧ w.heap.size ≤ wr.heap.size) (fun i _ => xs.length - (intOf i).toNat)
    case atStart => exact ⟨0, Nat.zero_le _, rfl, rfl, Below.refl _ _, Nat.le_refl _⟩
    case round =>
      obtain ⟨k, hk, rfl, hin, hb, hsz⟩ := hrel
      obtain ⟨wo, rfl⟩ : ∃ wo : World, wo = wr := ⟨_, rfl⟩
      by_cases hlt : k < xs.length
      · have hlt' : k < ys.length := by rw [← Hl.out]; exact hlt
        obtain ⟨b, o, A', d, m, hdx, rfl, _, x0, x1, x2, _, _, hxa, _⟩ := (H.out.below hb.out).getCel hlt
        obtain ⟨b', o', B', d', n, hdy, rfl, _, z0, z1, z2, _, _, hya, _⟩ := (H'.out.below hb.out).getCel hlt'
        have hcall : ∀ (q : Nat) (os : Array Obj), Calls Tryd.prog 41 #[.agg #[.int .u8 m.mod.name, .slice A' m.mod.args.length d], .agg #[.int .u8 n.mod.name, .slice B' n.mod.args.length d']] (grow (redrawn wo q) os) fun e w'' => e = .returned (.bool (m.mod == n.mod)) ∧ ∃ p : Regrown, w'' = grow (redrawn wo p.d) p.os := fun q os =>
          have hg := below_regrown wo q os
          Calls.regrown_of (sameMods_calls A' B' d d' m.mod n.mod _ (hxa.out.keep fun k hk => hg.block k (Nat.lt_of_lt_of_le hk hsz)) (hya.out.keep fun k hk => hg.block k (Nat.lt_of_lt_of_le hk hsz)) (fun k hk => Nat.lt_of_lt_of_le (Nat.lt_of_lt_of_le hk hsz) hg.size))
        have kx0 := cell_regrown x0
        have kx1 := cell_regrown x1
        have kx2 := cell_regrown x2
        have ky0 := cell_regrown z0
        have ky1 := cell_regrown z1
        have ky2 := cell_regrown z2
        have Hcall := Lib.hid hcall; clear hcall
        clear x0 x1 x2 z0 z1 z2
        have hk0 : (0 : Int) ≤ (k : Int) := Int.natCast_nonneg _
        have hk1 : (k : Int) < (xs.length : Int) := by omega
        have hk2 : (k : Int) < (ys.length : Int) := by omega
        by_cases hp : m.path = n.path
        · rw [hp] at kx0
          have hst : (xs == ys) = (m.mod == n.mod && (xs.drop (k + 1) == ys.drop (k + 1))) := by
            rw [hin.out, hdx.out, hdy.out, cons_beq, cel_beq, decide_eq_true hp, Bool.true_and]
          generalize hmn : (m.mod == n.mod) = t at Hcall hst
          have Hp := Lib.hid hp; clear hp
          have Hst := Lib.hid hst; clear hst
          have Hmn := Lib.hid hmn; clear hmn
          clear hin hxa hya
          go_wp2
          refine wp_region_quiet_below (by kernel_rfl) (by kernel_rfl) ?_
          iterate 25 (go_big_quiet_step (exact (Hcall.out _ _).mono fun e w'' h => h))
          refine wpQuiet_nil ?_
          intro _ hw'
          obtain ⟨⟨dq, osq⟩, hw''⟩ := hw'
          subst hw''
          have hbr := below_regrown wo dq osq
          have hbx := hb.out.trans (hbr.mono hsz)
          have Hbx := Lib.hid hbx; clear hbx
          clear hbr kx0 kx1 kx2 ky0 ky1 ky2
          cases t
          · go_wp2
            go_ret
            exact ⟨ret_bool (by rw [Hst.out]; rfl), Hbx.out⟩
          · go_wp2
            go_roundw
            case rel => exact ⟨k + 1, by omega, by go_num, by unfold Hid; rw [Hst.out]; rfl, Hbx, Hbx.out.size⟩
            case measure => simp [intOf]; omega
        · have hpl : m.path.toList ≠ n.path.toList := fun e => hp (by rw [ByteArray.toList_eq, ByteArray.toList_eq] at e; exact ByteArray.ext (Array.toList_inj.1 e))
          have e2 : (m.path.toList == n.path.toList) = false := beq_false_of_ne hpl
          have e3 : (m.path.toList != n.path.toList) = true := by simp [hpl]
          have hst : (xs == ys) = false := by
            rw [hin.out, hdx.out, hdy.out, cons_beq, cel_beq, decide_eq_false hp]; rfl
          clear hpl
          have Hp := Lib.hid hp; clear hp
          have Hst := Lib.hid hst; clear hst
          clear hin hxa hya
          go_wp2
          refine wp_region_quiet_below (by kernel_rfl) (by kernel_rfl) ?_
          iterate 25 (go_big_quiet_step (exact (Hcall.out _ _).mono fun e w'' h => h))
          refine wpQuiet_nil ?_
          intro _ hw'
          obtain ⟨⟨dq, osq⟩, hw''⟩ := hw'
          subst hw''
          have hbr := below_regrown wo dq osq
          have hbx := hb.out.trans (hbr.mono hsz)
          have Hbx := Lib.hid hbx; clear hbx
          clear hbr kx0 kx1 kx2 ky0 ky1 ky2
          go_wp2
          go_ret
          exact ⟨ret_bool (by rw [Hst.out]), Hbx.out⟩
      · have hy : (xs == ys) = true := by rw [hin.out, drop_end hlt, drop_end (by rw [← Hl.out]; exact hlt)]; rfl
        have Hy := Lib.hid hy; clear hy
        clear hin
        go_wp2
        go_ret
        exact ⟨ret_bool (by rw [Hy.out]), hb.out⟩
  · have e1 : ((xs.length : Int) != (ys.length : Int)) = true := by simp; omega
    have hy : (xs == ys) = false := beq_false_of_ne fun e => hl (by rw [e])
    have Hl := Lib.hid hl; clear hl
    have Hy := Lib.hid hy; clear hy
    go_enter Tryd.func15, Tryd.ntmps15
    go_wp2
    go_ret
    exact ⟨ret_bool (by rw [Hy.out]), Below.refl _ _⟩
end Go.Proofs.YtlipmagkplbkdaaDoor
