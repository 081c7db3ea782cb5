/-
  Layer 42: the law's walk of InferFinds.
-/
import Derived.Test.YtckffdaomjbglaaIv
import Derived.Test.YtckffdaomjbglaaIs
import Derived.Test.YtckffdaomjbglaaIo
namespace Go.Proofs.Ytckffdaomjbglaa
open Go.RowKit Go.Sort Go.BigFrame
set_option linter.unusedVariables false

theorem inferF_len (ms : List Mod) (most : Int) : (inferF ms most).2.1.length ≤ 30 := by
  unfold inferF
  by_cases h : plainF ms = 0
  · rw [if_pos h]
    by_cases h2 : most < 0 ∨ 30 < most
    · rw [if_pos h2]; simp
    · rw [if_neg h2]
      have := (infer_names most.toNat (freeL (ms.map Mod.name)) (ms.map Mod.name)).2.1
      show (inferL (ms.map Mod.name) most.toNat).2.length ≤ 30
      unfold inferL
      omega
  · rw [if_neg h]; simp
set_option maxRecDepth 100000 in
set_option maxHeartbeats 4000000 in
theorem inferFinds_walk (A : Option Addr) (c : Nat) (ms : List Mod) (most : Int) (w : World) (h : SlAt pMod (Old w) w A c ms) :
    Calls Try.prog 4 #[.slice A ms.length c, .int .i64 most] w (OkPost w) := by
  have hmx := h.lenle
  have gw := great_calls A c ms w h
  have H := Lib.hid h; clear h
  cases hgw : greatF ms
  case true =>
    rw [hgw] at gw
    have Gw := Lib.hid gw; clear gw
    have Hgw := Lib.hid hgw; clear hgw
    go_enter Try.func4, Try.ntmps4
    go_wp2_with (go_at_call 5; refine Gw.out.mono ?_; rintro e w' ⟨rfl, rfl⟩)
    go_ret
    exact ⟨rfl, Below.refl _ _⟩
  case false =>
  rw [hgw] at gw
  have hl : ms.length ≤ 100000 := by
    unfold greatF at hgw
    simp only [Bool.or_eq_false_iff, decide_eq_false_iff_not] at hgw
    omega
  by_cases hn : (120 : Int) < (ms.length : Int) ∧ (ms.length : Int) ≤ 2000
  · obtain ⟨hn6, hn30⟩ := hn
    have Gw := Lib.hid gw; clear gw
    have Hgw := Lib.hid hgw; clear hgw
    go_enter Try.func4, Try.ntmps4
    go_wp2_with (go_at_call 5; refine Gw.out.mono ?_; rintro e w' ⟨rfl, rfl⟩)
    go_ret
    exact ⟨rfl, Below.refl _ _⟩
  have hn7 : ¬ (120 : Int) < (ms.length : Int) ∨ ((120 : Int) < (ms.length : Int) ∧ ¬ (ms.length : Int) ≤ 2000) := by omega
  clear hn
  have hrl := inferF_len ms most
  obtain ⟨v, hv⟩ : ∃ v, inferF ms most = v := ⟨_, rfl⟩
  have c1 := fun (W : World) (hb : Below w.heap.size w W) => infer_calls A c ms most W (H.out.later hb) hl
  have c2 := fun (W : World) (hb : Below w.heap.size w W) => refInfer_calls A c ms most W (H.out.later hb) hl
  simp only [hv] at c1 c2 hrl
  obtain ⟨u, rl, r⟩ := v
  simp only at hrl
  unfold InferPost at c1 c2
  simp only at c1 c2
  have Gw := Lib.hid gw; clear gw
  have Hgw := Lib.hid hgw; clear hgw
  have C1 := Lib.hid c1; clear c1
  have C2 := Lib.hid c2; clear c2
  have Hv := Lib.hid hv; clear hv
  rcases hn7 with hn6 | ⟨hn6, hn30⟩
  all_goals
    go_enter Try.func4, Try.ntmps4
    go_wp2_with (first | (go_at_call 5; refine Gw.out.mono ?_; rintro e w' ⟨rfl, rfl⟩) | fail)
    refine (C1.out w (Below.refl _ _)).mono ?_
    rintro e w1 ⟨A1, c1, B1, d1, rfl, om1, or1, hb1⟩
    have Hb1 := Lib.hid hb1; clear hb1
    have z1 := Hb1.out.size
    have Om1 := Lib.hid om1; clear om1
    have Or1 := Lib.hid or1; clear or1
    go_wp2_with fail
    refine (C2.out w1 Hb1.out).mono ?_
    rintro e w2 ⟨A2, c2, B2, d2, rfl, om2, or2, hb2⟩
    have Hb2 := Lib.hid (Hb1.out.trans (hb2.mono z1))
    have z2 := Hb2.out.size
    have s1 := (own_mods Om1.out hb2).2
    have s2 := (own_mods om2 (Below.refl _ _)).2
    have q1 := own_ruls Or1.out hb2
    have q2 := own_ruls or2 (Below.refl _ _)
    have sab := refSame_calls A1 A2 c1 c2 (u.map modOf) (u.map modOf) w2 s1 s2
    rw [beq_self_eq_true, List.length_map] at sab
    have e4 : (r == r) = true := beq_self_eq_true _
    have Sab := Lib.hid sab; clear sab
    have Q1 := Lib.hid q1; clear q1
    have Q2 := Lib.hid q2; clear q2
    clear hb2 om2 or2 s1 s2
    go_wp2_with fail
    refine Sab.out.mono ?_
    rintro e w3 ⟨rfl, hb3⟩
    have Hb3 := Lib.hid (Hb2.out.trans (hb3.mono z2))
    have z3 := Hb3.out.size
    have srl := sameRules_calls B1 B2 d1 d2 rl w3 (Q1.out.later hb3) (Q2.out.later hb3) (by omega)
    have Srl := Lib.hid srl; clear srl
    clear hb3
    go_wp2_with fail
    refine Srl.out.mono ?_
    rintro e w4 ⟨rfl, hb4⟩
    have hb04 := Hb3.out.trans (hb4.mono z3)
    have Hb04 := Lib.hid hb04; clear hb04
    clear hb4
    go_wp2
    go_ret
    exact ⟨rfl, Hb04.out⟩
end Go.Proofs.Ytckffdaomjbglaa
