/-
  Layer 42: valid; the law's walk of InferBack.
-/
import Derived.Test.YtckffdaomjbglaaDoorIw
import Derived.Test.YtckffdaomjbglaaDoorM2

namespace Go.Proofs.YtckffdaomjbglaaDoor
open Go.RowKit Go.Sort
set_option linter.unusedVariables false

def validI (ms : List Mod) (most : Int) : Bool := decide (ms.length ≤ 120) && !greatF ms && plainF ms == 0 && decide (0 ≤ most) && decide (most ≤ 30)
theorem validI_yes {ms : List Mod} {most : Int} (h : validI ms most = true) : ms.length ≤ 120 ∧ plainF ms = 0 ∧ 0 ≤ most ∧ most ≤ 30 := by
  unfold validI at h
  simp only [Bool.and_eq_true, decide_eq_true_eq, beq_iff_eq] at h
  exact ⟨h.1.1.1.1, h.1.1.2, h.1.2, h.2⟩
set_option maxRecDepth 100000 in
set_option maxHeartbeats 2000000 in
theorem valid_calls (A : Option Addr) (c : Nat) (ms : List Mod) (most : Int) (w : World) (h : SlAt pMod (Old w) w A c ms) : Calls Tryd.prog 7 #[.slice A ms.length c, .int .i64 most] w (BoolPost (validI ms most) w) := by
  have hmx := h.lenle
  have gw := great_calls A c ms w h
  have pc := refPlainW_calls A c ms w h
  have H := Lib.hid h; clear h
  have Gw := Lib.hid gw; clear gw
  have Pc := Lib.hid pc; clear pc
  by_cases h1 : ms.length ≤ 120
  case neg =>
    have hr : validI ms most = false := by unfold validI; simp [h1]
    have h1' : ¬ (ms.length : Int) ≤ 120 := by omega
    have Hr := Lib.hid hr; clear hr
    go_enter Tryd.func7, Tryd.ntmps7
    go_wp2
    go_ret
    exact ⟨by rw [Hr.out]; rfl, Below.refl _ _⟩
  case pos =>
  have h1' : (ms.length : Int) ≤ 120 := by omega
  cases hg : greatF ms
  case true =>
    have hr : validI ms most = false := by unfold validI; simp [hg]
    have Hr := Lib.hid hr; clear hr
    go_enter Tryd.func7, Tryd.ntmps7
    go_wp2_with fail
    refine Gw.out.mono ?_
    rintro e w' ⟨rfl, rfl⟩
    rw [hg]
    go_wp2
    go_ret
    exact ⟨by rw [Hr.out]; rfl, Below.refl _ _⟩
  case false =>
  by_cases hp : plainF ms = 0
  case neg =>
    have hr : validI ms most = false := by unfold validI; simp [hp]
    have e0 : (plainF ms == 0) = false := by simpa using hp
    have Hr := Lib.hid hr; clear hr
    have Hp := Lib.hid hp; clear hp
    go_enter Tryd.func7, Tryd.ntmps7
    go_wp2_with fail
    refine Gw.out.mono ?_
    rintro e w' ⟨rfl, rfl⟩
    rw [hg]
    go_wp2_with fail
    refine Pc.out.mono ?_
    rintro e w1 ⟨rfl, hb1⟩
    have Hb1 := Lib.hid hb1; clear hb1
    go_wp2
    go_ret
    exact ⟨by rw [Hr.out]; rfl, Hb1.out⟩
  case pos =>
  have e0 : (plainF ms == 0) = true := by simpa using hp
  by_cases hm0 : 0 ≤ most
  case neg =>
    have hr : validI ms most = false := by unfold validI; simp [hm0]
    have Hr := Lib.hid hr; clear hr
    have Hp := Lib.hid hp; clear hp
    go_enter Tryd.func7, Tryd.ntmps7
    go_wp2_with fail
    refine Gw.out.mono ?_
    rintro e w' ⟨rfl, rfl⟩
    rw [hg]
    go_wp2_with fail
    refine Pc.out.mono ?_
    rintro e w1 ⟨rfl, hb1⟩
    have Hb1 := Lib.hid hb1; clear hb1
    go_wp2
    go_ret
    exact ⟨by rw [Hr.out]; rfl, Hb1.out⟩
  case pos =>
  have hr : validI ms most = decide (most ≤ 30) := by unfold validI; simp [h1, hg, hp, hm0]
  by_cases hm1 : most ≤ 30
  all_goals
    have Hr := Lib.hid hr; clear hr
    have Hp := Lib.hid hp; clear hp
    go_enter Tryd.func7, Tryd.ntmps7
    go_wp2_with fail
    refine Gw.out.mono ?_
    rintro e w' ⟨rfl, rfl⟩
    rw [hg]
    go_wp2_with fail
    refine Pc.out.mono ?_
    rintro e w1 ⟨rfl, hb1⟩
    have Hb1 := Lib.hid hb1; clear hb1
    go_wp2
    go_ret
    exact ⟨by rw [Hr.out]; simp [hm1], Hb1.out⟩

theorem small_rulO {rl : List (Int × Int × Int)} (h : rl.length ≤ 30) : Small (rl.map rulO) := by
  refine ⟨by rw [List.length_map]; omega, ?_, ?_, ?_⟩
  · intro r hr
    obtain ⟨q, _, rfl⟩ := List.mem_map.1 hr
    simp [rulO]
  · intro r hr
    obtain ⟨q, _, rfl⟩ := List.mem_map.1 hr
    simp [rulO]
  · intro r hr s hs
    obtain ⟨q, _, rfl⟩ := List.mem_map.1 hr
    simp [rulO] at hs
    rcases hs with rfl | rfl <;> simp
theorem outSum_rulO : ∀ (rl : List (Int × Int × Int)), outSum (rl.map rulO) = 2 * (rl.length : Int)
  | [] => rfl
  | r :: rl => by
    rw [List.map_cons, outSum_cons, outSum_rulO rl, List.length_cons]
    show ((2 : Nat) : Int) + _ = _
    omega
/-- what a valid call of Infer gives, for the laws -/
theorem inferF_valid {ms : List Mod} {most : Int} (hp : plainF ms = 0) (h0 : 0 ≤ most) (h1 : most ≤ 30) : inferF ms most = ((inferL (ms.map Mod.name) most.toNat).1, (inferL (ms.map Mod.name) most.toNat).2, 0) := by
  unfold inferF
  rw [if_pos hp, if_neg (by omega)]
theorem size_valid {ms : List Mod} (hp : plainF ms = 0) {n : Nat} (hn : n ≤ 30) : sizeF ((inferL (ms.map Mod.name) n).1.map modOf) ((inferL (ms.map Mod.name) n).2.map rulO) = (((inferL (ms.map Mod.name) n).1.length : Int) + 2 * ((inferL (ms.map Mod.name) n).2.length : Int), 0) := by
  obtain ⟨h1, h2⟩ := expand_law hp hn
  have h3 := infer_axiom hp n
  unfold sizeF openR
  rw [if_pos h1, h3, if_pos rfl, List.length_map, outSum_rulO]
theorem len_valid (ms : List Mod) (n : Nat) : (inferL (ms.map Mod.name) n).2.length ≤ n := (infer_names n (freeL (ms.map Mod.name)) (ms.map Mod.name)).2.1
theorem sum_valid (ms : List Mod) (n : Nat) : (inferL (ms.map Mod.name) n).1.length + 2 * (inferL (ms.map Mod.name) n).2.length ≤ ms.length := by
  have := infer_size n (freeL (ms.map Mod.name)) (ms.map Mod.name)
  rw [List.length_map] at this
  exact this
set_option maxRecDepth 100000 in
set_option maxHeartbeats 4000000 in
theorem inferBack_walk (A : Option Addr) (c : Nat) (ms : List Mod) (most : Int) (w : World) (hL : LibAt w) (h : SlAt pMod (Old w) w A c ms) : Calls Tryd.prog 3 #[.slice A ms.length c, .int .i64 most] w (OkPost w) := by
  have hmx := h.lenle
  have vc := valid_calls A c ms most w h
  unfold BoolPost at vc
  have H := Lib.hid h; clear h
  have HL := Lib.hid hL; clear hL
  cases hv : validI ms most
  case false =>
    rw [hv] at vc
    have Vc := Lib.hid vc; clear vc
    have Hv := Lib.hid hv; clear hv
    go_enter Tryd.func3, Tryd.ntmps3
    go_wp2_with fail
    refine Vc.out.mono ?_
    rintro e w1 ⟨rfl, b1⟩
    have T1 := Lib.hid b1; clear b1
    go_wp2_with fail
    refine (alive_calls w1 (HL.out.later T1.out)).mono ?_
    rintro e w2 ⟨rfl, b2⟩
    have T2 := Lib.hid (T1.out.trans (b2.mono T1.out.size)); clear b2
    go_wp2
    go_ret
    exact ⟨rfl, T2.out⟩
  case true =>
  rw [hv] at vc
  obtain ⟨hl, hp, hm0, hm1⟩ := validI_yes hv
  have hi := inferF_valid hp hm0 hm1
  obtain ⟨hcr, hex⟩ := expand_law hp (n := most.toNat) (by omega)
  have hsz := size_valid hp (n := most.toNat) (by omega)
  have hlen := len_valid ms most.toNat
  have hsum := sum_valid ms most.toNat
  obtain ⟨q, hq⟩ : ∃ q, inferL (ms.map Mod.name) most.toNat = q := ⟨_, rfl⟩
  rw [hq] at hi hcr hex hsz hlen hsum
  obtain ⟨l, rl⟩ := q
  simp only at hi hcr hex hsz hlen hsum
  have hsm := small_rulO (rl := rl) (by omega)
  have hlr : (rl.length : Int) ≤ most := by omega
  have hsl : (l.length : Int) + 2 * (rl.length : Int) ≤ (ms.length : Int) := by omega
  have Vc := Lib.hid vc; clear vc
  have Hv := Lib.hid hv; clear hv
  have Hp := Lib.hid hp; clear hp
  have Hi := Lib.hid hi; clear hi
  have Hcr := Lib.hid hcr; clear hcr
  have Hex := Lib.hid hex; clear hex
  have Hsz := Lib.hid hsz; clear hsz
  have Hsm := Lib.hid hsm; clear hsm
  have Hq := Lib.hid hq; clear hq
  go_enter Tryd.func3, Tryd.ntmps3
  go_wp2_with fail
  refine Vc.out.mono ?_
  rintro e w1 ⟨rfl, b1⟩
  have T1 := Lib.hid b1
  have ic := infer_calls A c ms most w1 (H.out.later b1) (by omega)
  clear b1
  unfold InferPost at ic
  rw [Hi.out] at ic
  have Ic := Lib.hid ic; clear ic
  go_wp2_with fail
  refine Ic.out.mono ?_
  rintro e w4 ⟨A4, c4, B4, d4, rfl, om4, or4, b4⟩
  have T4 := Lib.hid (T1.out.trans (b4.mono T1.out.size)); clear b4
  have M4 := Lib.hid (own_mods om4 (Below.refl _ _)).2
  have R4 := Lib.hid (own_ruls or4 (Below.refl _ _))
  clear om4 or4
  have ec := expand_calls A4 c4 (l.map modOf) B4 d4 (rl.map rulO) w4 R4.out M4.out Hsm.out
  unfold RRunPost at ec
  rw [List.length_map, List.length_map, Hex.out] at ec
  have Ec := Lib.hid ec; clear ec
  go_wp2_with fail
  refine Ec.out.mono ?_
  rintro e w5 ⟨A5, c5, rfl, o5, b5⟩
  have T5 := Lib.hid (T4.out.trans (b5.mono T4.out.size))
  have S5 := Lib.hid (ownF_sl o5)
  have R5 := Lib.hid (R4.out.later b5)
  have sc := size_calls A4 c4 (l.map modOf) B4 d4 (rl.map rulO) w5 R5.out (M4.out.later b5) Hsm.out
  clear o5 b5
  unfold PairPost at sc
  rw [Hsz.out, List.length_map, List.length_map] at sc
  have Sc := Lib.hid sc; clear sc
  go_wp2_with fail
  refine Sc.out.mono ?_
  rintro e w6 ⟨rfl, b6⟩
  have T6 := Lib.hid (T5.out.trans (b6.mono T5.out.size))
  have sab := refSame_calls A5 A c5 c ms ms w6 (S5.out.later b6) (H.out.later T6.out)
  rw [beq_self_eq_true] at sab
  have R6 := Lib.hid (R5.out.later b6)
  have Sab := Lib.hid sab; clear sab
  clear b6
  go_wp2_with fail
  refine Sab.out.mono ?_
  rintro e w7 ⟨rfl, b7⟩
  have T7 := Lib.hid (T6.out.trans (b7.mono T6.out.size))
  have rc := rCheck_calls B4 d4 (rl.map rulO) w7 (R6.out.later b7) Hsm.out
  unfold IntPost at rc
  rw [Hcr.out, List.length_map] at rc
  have Rc := Lib.hid rc; clear rc
  clear b7
  go_wp2_with fail
  refine Rc.out.mono ?_
  rintro e w8 ⟨rfl, b8⟩
  have T8 := Lib.hid (T7.out.trans (b8.mono T7.out.size)); clear b8
  go_wp2_with fail
  refine (alive_calls w8 (HL.out.later T8.out)).mono ?_
  rintro e w9 ⟨rfl, b9⟩
  have T9 := Lib.hid (T8.out.trans (b9.mono T8.out.size)); clear b9
  go_wp2
  go_ret
  exact ⟨rfl, T9.out⟩
end Go.Proofs.YtckffdaomjbglaaDoor
