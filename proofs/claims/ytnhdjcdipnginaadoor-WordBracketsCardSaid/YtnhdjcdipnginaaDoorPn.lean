/-
  WordBrackets, the walk of the law: it returns true.
-/
import Derived.Test.YtnhdjcdipnginaaDoorPm
import Derived.Test.YtnhdjcdipnginaaDoorPl
namespace Go.Proofs.YtnhdjcdipnginaaDoor
open Go.RowKit Go.Sort
set_option linter.unusedVariables false

theorem ne_self (n : Int) : (n != n) = false := by simp
set_option maxRecDepth 100000 in
set_option maxHeartbeats 8000000 in
theorem wordBrackets_walk (A : Option Addr) (c : Nat) (ms : List Mod) (w : World) (h : SlAt pMod (Old w) w A c ms) (hL : LibAt w) :
    Calls Tryd.prog 4 #[.slice A ms.length c] w (OkPost w) := by
  have hmx := h.lenle
  have H := Lib.hid h; clear h
  have HL := Lib.hid hL; clear hL
  have out : ∀ (W : World), Below w.heap.size w W → Calls Tryd.prog 15 #[] W fun e W' => e = .returned (.bool true) ∧ Hid (Below w.heap.size w W') := fun W hW => (alive_calls W (HL.out.later hW)).mono fun e W' hh => ⟨hh.1, hW.trans (hh.2.mono hW.size)⟩
  have Out := Lib.hid out; clear out
  cases hv : validW ms
  · go_enter Tryd.func4, Tryd.ntmps4
    go_wp2_with fail
    refine (valid_calls A c ms w H.out).mono ?_
    rintro e w1 ⟨rfl, b1⟩
    rw [hv]
    go_wp2_with fail
    refine (Out.out w1 b1).mono ?_
    rintro e w2 ⟨rfl, b2⟩
    go_wp2
    go_ret
    exact ⟨rfl, b2.out⟩
  obtain ⟨hg1, hk1⟩ := validW_yes hv
  have hl2 := (check_parts.1 hk1).1
  have hdl := deep_le ms hl2
  have Hg1 := Lib.hid hg1; clear hg1
  have Hk1 := Lib.hid hk1; clear hk1
  have Hdl := Lib.hid hdl; clear hdl
  go_enter Tryd.func4, Tryd.ntmps4
  go_wp2_with fail
  refine (valid_calls A c ms w H.out).mono ?_
  rintro e w1 ⟨rfl, b1⟩
  rw [hv]
  have T1 := Lib.hid b1; clear b1 hv
  go_wp2
  go_loopw [4, 3] (fun i mo wr => ∃ (k : Nat) (p : Int), k ≤ ms.length ∧ i = .int .i64 k ∧ mo = .int .i64 p ∧ 0 ≤ p ∧ p ≤ 2000 ∧ Hid (Below w.heap.size w wr) ∧ Hid (MostIs ms k p)) (fun i _ _ => ms.length - (intOf i).toNat)
  case atStart => exact ⟨0, 0, Nat.zero_le _, rfl, rfl, by omega, by omega, T1.out, mostIs_zero ms⟩
  case round =>
    obtain ⟨k, p, hk, rfl, rfl, hp0, hp1, hb, hmo⟩ := hrel
    obtain ⟨wo, rfl⟩ : ∃ wo : World, wo = wr := ⟨_, rfl⟩
    by_cases hlt : k < ms.length
    · have Hcl := Lib.hid (close_calls A c ms (k : Int) wo (H.out.later hb.out) (fits_i64 (by omega)))
      obtain ⟨b, o, A', c', m, hd, rfl, hob, hx0, _, _, _, _⟩ := (H.out.below hb.out).getMod hlt
      have hget := Lib.hid (get_of_drop hd.out)
      clear hd
      by_cases h91 : m.name = 91
      · rw [h91] at hx0
        have Hn := Lib.hid h91; clear h91
        go_wp2_with fail
        refine Hcl.out.mono ?_
        rintro e w3 ⟨r, hr, rfl, hb3⟩
        obtain ⟨k', hF, rfl⟩ := closeIs_open Hk1.out hget.out Hn.out hr
        obtain ⟨p1, p2, m2, p3, p4, p5, p6⟩ := fwd_pair hget.out Hn.out hF
        have hy0 := hx0
        rw [← cell_keep (hb3.block _ (Nat.lt_of_lt_of_le hob hb.out.size))] at hx0
        have T3 := Lib.hid (hb.out.trans (hb3.mono hb.out.size))
        obtain ⟨b2, o2, A2, c2, m2', hd2, hA2, _, hz0, _, _, _, _⟩ := (H.out.below T3.out).getMod p2
        cases hA2
        rw [show m2' = m2 from Option.some.inj ((get_of_drop hd2.out).symm.trans p3), p4] at hz0
        have hc2 := fun W (hW : Below w.heap.size w W) => close_calls (some ⟨b, o, none⟩) c ms (k' : Int) W (H.out.later hW) (fits_i64 (by omega))
        have Hc2 := Lib.hid hc2; clear hc2
        have Hin := Lib.hid (inside_ok Hk1.out hget.out Hn.out hF)
        obtain ⟨D, hD⟩ : ∃ D : Int, deep 0 0 ((ms.drop (k + 1)).take (k' - (k + 1))) = D := ⟨_, rfl⟩
        obtain ⟨i1, i2, i3⟩ := inside_deep hget.out Hn.out hF
        have Hm4 := Lib.hid (mostIs_open Hk1.out hmo.out hget.out Hn.out hF)
        rw [hD] at i1 i2 i3 Hm4
        have i4 : D + 1 ≤ 2000 := by
          have := Hdl.out
          have h0 : 0 ≤ dep ms k := by obtain ⟨_, _, _, _, _, hpos, _⟩ := check_zero Hk1.out; exact hpos k (by omega)
          omega
        have ekk := ne_self (k : Int)
        have P3 := Lib.hid p3; clear p3
        have P5 := Lib.hid p5; clear p5
        have HF := Lib.hid hF; clear hF
        have Hr := Lib.hid hr; clear hr
        have HD := Lib.hid hD; clear hD
        have I2 := Lib.hid i2; clear i2
        have I3 := Lib.hid i3; clear i3
        clear hb3 hy0 p6 hd2 Hcl
        have g1 : decide ((k' : Int) < 0) = false := decide_eq_false (by omega)
        have g2 : decide ((ms.length : Int) ≤ (k' : Int)) = false := decide_eq_false (by omega)
        have g3 : decide ((k : Int) < (k' : Int)) = true := decide_eq_true (by omega)
        go_wp2
        go_quiet (fail)
        have T4 := Lib.hid (below_drewN T3.out nq)
        have hx4 : (w3.drewN nq).cell? ⟨b, o + k * 2, none⟩ = some (.int .u8 91) := hx0
        clear hx0 hz0
        generalize w3.drewN nq = w4 at T4 hx4 ⊢
        go_wp2_with fail
        refine (Hc2.out w4 T4.out).mono ?_
        rintro e w5 ⟨r, hr, rfl, hb5⟩
        obtain ⟨k2, hF2, rfl⟩ : ∃ k2 : Nat, Bwd ms k' k2 ∧ r = ((k2 : Int), 0) := by
          rcases closeIs_at Hk1.out P3.out hr with ⟨a1, a2, _⟩ | ⟨a1, _⟩ | ⟨_, a⟩
          · exact absurd p4 a2
          · omega
          · exact a
        obtain rfl := bwd_one hF2 P5.out
        rw [← cell_keep (hb5.block _ (Nat.lt_of_lt_of_le hob T4.out.size))] at hx4
        have T5 := Lib.hid (T4.out.trans (hb5.mono T4.out.size))
        have S5 := slAt_cut (H.out.later T5.out) (l := k2 + 1) (hi := k') (by omega) (by omega)
        have ead : (if c = k2 + 1 then some ⟨b, o, none⟩ else (some ⟨b, o, none⟩ : Option Addr).map (·.add ((k2 + 1) * pMod.n))) = some ⟨b, o + (k2 + 1) * 2, none⟩ := by rw [if_neg (by omega), Option.map_some, Addr.add_lit]; rfl
        rw [ead] at S5
        have hln : ((ms.drop (k2 + 1)).take (k' - (k2 + 1))).length = k' - (k2 + 1) := by rw [List.length_take, List.length_drop]; omega
        have hdp := depth_calls _ _ _ w5 S5
        rw [hln] at hdp
        rw [show depthF ((ms.drop (k2 + 1)).take (k' - (k2 + 1))) = (D, 0) from by unfold depthF; rw [if_pos Hin.out, HD.out]] at hdp
        have Hdp := Lib.hid hdp; clear hdp
        clear hb5 hr hF2 S5 hln ead
        go_wp2_with fail
        refine Hdp.out.mono ?_
        rintro e w6 ⟨rfl, b6⟩
        have T6 := Lib.hid (T5.out.trans (b6.mono T5.out.size)); clear b6
        go_wp2
        go_roundw
        case rel => exact ⟨k2 + 1, max p (D + 1), by omega, by go_num, by go_num, by omega, by omega, T6.out, Hm4.out⟩
        case measure => simp [intOf]; omega
      · by_cases h93 : m.name = 93
        · rw [h93] at hx0
          have Hn := Lib.hid h93; clear h93 h91
          go_wp2_with fail
          refine Hcl.out.mono ?_
          rintro e w3 ⟨r, hr, rfl, hb3⟩
          obtain ⟨k', hF, rfl⟩ : ∃ k' : Nat, Bwd ms k k' ∧ r = ((k' : Int), 0) := by
            rcases closeIs_at Hk1.out hget.out hr with ⟨_, a2, _⟩ | ⟨a1, _⟩ | ⟨_, a⟩
            · exact absurd Hn.out a2
            · have := Hn.out; omega
            · exact a
          obtain ⟨p1, p2, m2, p3, p4, p5⟩ := bwd_pair hget.out Hn.out hF
          rw [← cell_keep (hb3.block _ (Nat.lt_of_lt_of_le hob hb.out.size))] at hx0
          have T3 := Lib.hid (hb.out.trans (hb3.mono hb.out.size))
          obtain ⟨b2, o2, A2, c2, m2', hd2, hA2, _, hz0, _, _, _, _⟩ := (H.out.below T3.out).getMod p2
          cases hA2
          rw [show m2' = m2 from Option.some.inj ((get_of_drop hd2.out).symm.trans p3), p4] at hz0
          have hc2 := fun W (hW : Below w.heap.size w W) => close_calls (some ⟨b, o, none⟩) c ms (k' : Int) W (H.out.later hW) (fits_i64 (by omega))
          have hm4 := mostIs_keep hmo.out hget.out (by have := Hn.out; omega)
          have ekk := ne_self (k : Int)
          have Hc2 := Lib.hid hc2; clear hc2
          have Hm4 := Lib.hid hm4; clear hm4
          have P3 := Lib.hid p3; clear p3
          have P5 := Lib.hid p5; clear p5
          have HF := Lib.hid hF; clear hF
          have Hr := Lib.hid hr; clear hr
          clear hb3 hd2 Hcl
          have g1 : decide ((k' : Int) < 0) = false := decide_eq_false (by omega)
          have g2 : decide ((ms.length : Int) ≤ (k' : Int)) = false := decide_eq_false (by omega)
          have g3 : decide ((k : Int) < (k' : Int)) = false := decide_eq_false (by omega)
          go_wp2
          go_quiet (fail)
          have T4 := Lib.hid (below_drewN T3.out nq)
          have hx4 : (w3.drewN nq).cell? ⟨b, o + k * 2, none⟩ = some (.int .u8 93) := hx0
          clear hx0 hz0
          generalize w3.drewN nq = w4 at T4 hx4 ⊢
          go_wp2_with fail
          refine (Hc2.out w4 T4.out).mono ?_
          rintro e w5 ⟨r, hr, rfl, hb5⟩
          obtain ⟨k2, hF2, rfl⟩ : ∃ k2 : Nat, Fwd ms k' k2 ∧ r = ((k2 : Int), 0) := by
            rcases closeIs_at Hk1.out P3.out hr with ⟨a1, _⟩ | ⟨_, a⟩ | ⟨a1, _⟩
            · exact absurd p4 a1
            · exact a
            · omega
          obtain rfl := fwd_one hF2 P5.out
          rw [← cell_keep (hb5.block _ (Nat.lt_of_lt_of_le hob T4.out.size))] at hx4
          have T5 := Lib.hid (T4.out.trans (hb5.mono T4.out.size))
          clear hb5 hr hF2
          go_wp2
          go_roundw
          case rel => exact ⟨k2 + 1, p, by omega, by go_num, by go_num, by omega, by omega, T5.out, Hm4.out⟩
          case measure => simp [intOf]; omega
        · have e91 : (m.name != 91) = true := bne_iff_ne.2 h91
          have e93 : (m.name != 93) = true := bne_iff_ne.2 h93
          go_wp2_with fail
          refine Hcl.out.mono ?_
          rintro e w3 ⟨r, hr, rfl, hb3⟩
          obtain rfl : r = (0, 2) := by
            rcases closeIs_at Hk1.out hget.out hr with ⟨_, _, a⟩ | ⟨a1, _⟩ | ⟨a1, _⟩
            · exact a
            · exact absurd a1 h91
            · exact absurd a1 h93
          rw [← cell_keep (hb3.block _ (Nat.lt_of_lt_of_le hob hb.out.size))] at hx0
          have T3 := Lib.hid (hb.out.trans (hb3.mono hb.out.size))
          have hm4 := mostIs_keep hmo.out hget.out h91
          have Hm4 := Lib.hid hm4; clear hm4
          clear hb3 hr h91 h93
          go_wp2
          go_roundw
          case rel => exact ⟨k + 1, p, by omega, by go_num, by go_num, by omega, by omega, T3.out, Hm4.out⟩
          case measure => simp [intOf]; omega
    · obtain rfl : k = ms.length := by omega
      have hdp := depth_calls A c ms wo (H.out.later hb.out)
      obtain rfl := mostIs_end Hk1.out hmo.out
      rw [show depthF ms = (deep 0 0 ms, 0) from by unfold depthF; rw [if_pos Hk1.out]] at hdp
      obtain ⟨D, hD⟩ : ∃ D : Int, deep 0 0 ms = D := ⟨_, rfl⟩
      rw [hD] at hdp hp0 hp1
      rw [hD]
      have edd : (D == D) = true := beq_self_eq_true _
      have Hdp := Lib.hid hdp; clear hdp
      have HD := Lib.hid hD; clear hD
      clear hmo Hdl
      go_wp2_with fail
      refine Hdp.out.mono ?_
      rintro e w6 ⟨rfl, b6⟩
      have T6 := Lib.hid (hb.out.trans (b6.mono hb.out.size)); clear b6
      go_wp2_with fail
      refine (Out.out w6 T6.out).mono ?_
      rintro e w7 ⟨rfl, b7⟩
      go_wp2
      go_ret
      exact ⟨rfl, b7.out⟩
end Go.Proofs.YtnhdjcdipnginaaDoor
