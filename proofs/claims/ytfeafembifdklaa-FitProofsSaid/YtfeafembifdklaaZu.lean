/-
  Layer 43: the walks of Same and of GreatProof.
-/
import Derived.Test.YtfeafembifdklaaZm
namespace Go.Proofs.Ytfeafembifdklaa
open Go.RowKit Go.Sort

theorem cub_beq (a b : Cub) : (a == b) = (a.lo == b.lo && a.hi == b.hi) := by
  obtain ⟨a1, a2⟩ := a
  obtain ⟨b1, b2⟩ := b
  rw [Bool.eq_iff_iff]
  simp [Cub.mk.injEq]

set_option maxRecDepth 100000 in
set_option maxHeartbeats 4000000 in
theorem sameCubs_calls (A B : Option Addr) (c d : Nat) (xs ys : List Cub) (w : World) (h : SlAt pCub (Old w) w A c xs) (h' : SlAt pCub (Old w) w B d ys) :
    Calls Try.prog 10 #[.slice A xs.length c, .slice B ys.length d] w (BoolPost (xs == ys) w) := by
  have hmx := h.lenle
  have hmy := h'.lenle
  have H := Lib.hid h; clear h
  have H' := Lib.hid h'; clear h'
  by_cases hl : xs.length = ys.length
  · have e1 : ((xs.length : Int) != (ys.length : Int)) = false := by simp [hl]
    have Hl := Lib.hid hl; clear hl
    go_enter Try.func10, Try.ntmps10
    go_wp2
    clear e1
    go_loopw [5] (fun i wr => ∃ k : Nat, k ≤ xs.length ∧ i = .int .i64 k ∧ Hid ((xs == ys) = (xs.drop k == ys.drop k)) ∧ Hid (∃ n, wr = w.drewN n)) (fun i _ => xs.length - (intOf i).toNat)
    case atStart => exact ⟨0, Nat.zero_le _, rfl, rfl, 0, rfl⟩
    case round =>
      obtain ⟨k, hk, rfl, hin, hdr⟩ := hrel
      obtain ⟨wo, rfl⟩ : ∃ wo : World, wo = wr := ⟨_, rfl⟩
      have hb : Below w.heap.size w wo := by obtain ⟨n, rfl⟩ := hdr.out; exact below_drewN (Below.refl _ _) n
      have hbw : ∀ n, Below w.heap.size w (wo.drewN n) := fun n => below_drewN hb n
      by_cases hlt : k < xs.length
      · have hlt' : k < ys.length := by rw [← Hl.out]; exact hlt
        obtain ⟨b, o, A1, c1, A2, c2, m, hdx, rfl, hob, hx0, hx1, hxl, hxh, _, _⟩ := (H.out.below hb).getCub hlt
        obtain ⟨b', o', A3, c3, A4, c4, n, hdy, rfl, hob', hy0, hy1, hyl, hyh, _, _⟩ := (H'.out.below hb).getCub hlt'
        have hk0 : (0 : Int) ≤ (k : Int) := Int.natCast_nonneg _
        have hk1 : (k : Int) < (xs.length : Int) := by omega
        have hk2 : (k : Int) < (ys.length : Int) := by omega
        have hc1 : ∀ q, Calls Try.prog 11 #[.slice A1 m.lo.length c1, .slice A3 n.lo.length c3] (wo.drewN q) fun e w' => e = .returned (.bool (m.lo == n.lo)) ∧ ∃ j, w' = wo.drewN j := fun q =>
          (sameInts_calls A1 A3 c1 c3 m.lo n.lo (wo.drewN q) (hxl.out.keep (w' := wo.drewN q) fun _ _ => rfl) (hyl.out.keep (w' := wo.drewN q) fun _ _ => rfl)).mono fun e w' ⟨he, j, hj⟩ => ⟨he, q + j, by rw [hj, World.drewN_drewN]⟩
        have hc2 : ∀ q, Calls Try.prog 11 #[.slice A2 m.hi.length c2, .slice A4 n.hi.length c4] (wo.drewN q) fun e w' => e = .returned (.bool (m.hi == n.hi)) ∧ ∃ j, w' = wo.drewN j := fun q =>
          (sameInts_calls A2 A4 c2 c4 m.hi n.hi (wo.drewN q) (hxh.out.keep (w' := wo.drewN q) fun _ _ => rfl) (hyh.out.keep (w' := wo.drewN q) fun _ _ => rfl)).mono fun e w' ⟨he, j, hj⟩ => ⟨he, q + j, by rw [hj, World.drewN_drewN]⟩
        have hst : (xs == ys) = ((m.lo == n.lo && m.hi == n.hi) && (xs.drop (k + 1) == ys.drop (k + 1))) := by rw [hin.out, hdx.out, hdy.out, List.cons_beq_cons, cub_beq]
        generalize (m.lo == n.lo) = t1 at hc1 hst
        generalize (m.hi == n.hi) = t2 at hc2 hst
        have Hst := Lib.hid hst; clear hst
        have Hbw := Lib.hid hbw; clear hbw
        have Hb := Lib.hid hb; clear hb
        cases t1
        · have Hc1 := Lib.hid hc1; clear hc1
          clear hc2
          go_wp2
          go_quiet ((go_at_call 11; exact Hc1.out _))
          go_wp2
          go_ret
          exact ⟨by rw [Hst.out]; rfl, Hbw.out _⟩
        · cases t2
          · have Hc1 := Lib.hid hc1; clear hc1
            have Hc2 := Lib.hid hc2; clear hc2
            go_wp2
            go_quiet ((go_at_call 11; first | with_reducible exact Hc1.out _ | with_reducible exact Hc2.out _))
            go_wp2
            go_ret
            exact ⟨by rw [Hst.out]; rfl, Hbw.out _⟩
          · have Hc1 := Lib.hid hc1; clear hc1
            have Hc2 := Lib.hid hc2; clear hc2
            go_wp2
            go_quiet ((go_at_call 11; first | with_reducible exact Hc1.out _ | with_reducible exact Hc2.out _))
            go_wp2
            go_roundw
            case rel =>
              refine ⟨k + 1, by omega, by go_num, by unfold Hid; rw [Hst.out]; rfl, ?_⟩
              obtain ⟨n, rfl⟩ := hdr.out
              exact ⟨_, World.drewN_drewN _ _ _⟩
            case measure => simp [intOf]; omega
      · have hn : (xs == ys) = true := by rw [hin.out, drop_end hlt, drop_end (by rw [← Hl.out]; exact hlt)]; rfl
        have Hn := Lib.hid hn; clear hn
        have Hb := Lib.hid hb; clear hb
        go_wp2
        go_ret
        exact ⟨by rw [Hn.out]; rfl, Hb.out⟩
  · have e1 : ((xs.length : Int) != (ys.length : Int)) = true := by simp; omega
    have hn : (xs == ys) = false := by
      cases hb : xs == ys
      · rfl
      · exact absurd (congrArg List.length (eq_of_beq hb)) hl
    have Hn := Lib.hid hn; clear hn
    clear hl
    go_enter Try.func10, Try.ntmps10
    go_wp2
    go_ret
    exact ⟨by rw [Hn.out]; rfl, Below.refl _ _⟩

set_option maxRecDepth 100000 in
set_option maxHeartbeats 4000000 in
theorem greatProof_calls (A : Option Addr) (c : Nat) (xs : List Cub) (w : World) (h : SlAt pCub (Old w) w A c xs) :
    Calls Try.prog 5 #[.slice A xs.length c] w (SomeBool w) := by
  have hmx := h.lenle
  have H := Lib.hid h; clear h
  go_enter Try.func5, Try.ntmps5
  go_wp2
  go_loop [3] (fun i => ∃ k : Nat, k ≤ xs.length ∧ i = .int .i64 k) (fun i => xs.length - (intOf i).toNat)
  case atStart => exact ⟨0, Nat.zero_le _, rfl⟩
  case round =>
    obtain ⟨k, hk, rfl⟩ := hrel
    by_cases hgo : k < xs.length ∧ k < 2100
    · obtain ⟨hlt, hk2⟩ := hgo
      obtain ⟨b, o, A1, c1, A2, c2, m, hdx, rfl, hob, hx0, hx1, hxl, hxh, _, _⟩ := H.out.getCub hlt
      by_cases t1 : 10 < m.lo.length
      · go_wp2
        all_goals
          go_ret
          exact ⟨⟨_, rfl⟩, Below.refl _ _⟩
      · by_cases t2 : 10 < m.hi.length
        · go_wp2
          all_goals
            go_ret
            exact ⟨⟨_, rfl⟩, Below.refl _ _⟩
        · go_wp2
          go_round
          case rel => exact ⟨k + 1, by omega, by go_num⟩
          case measure => simp [intOf]; omega
    · have hcs : (¬ k < xs.length) ∨ (k < xs.length ∧ ¬ k < 2100) := by omega
      clear hgo
      rcases hcs with hlt | ⟨hlt, hk2⟩
      all_goals
        by_cases t1 : 500 < xs.length
        · by_cases t2 : xs.length ≤ 2000
          · go_wp2
            all_goals
              go_ret
              exact ⟨⟨_, rfl⟩, Below.refl _ _⟩
          · by_cases t3 : 2100 < xs.length
            · go_wp2
              all_goals
                go_ret
                exact ⟨⟨_, rfl⟩, Below.refl _ _⟩
            · go_wp2
              all_goals
                go_ret
                exact ⟨⟨_, rfl⟩, Below.refl _ _⟩
        · have t3 : ¬ 2100 < xs.length := by omega
          go_wp2
          all_goals
            go_ret
            exact ⟨⟨_, rfl⟩, Below.refl _ _⟩
end Go.Proofs.Ytfeafembifdklaa
