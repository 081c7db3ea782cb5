/-
  Layer 42: the law's walk of InferFewer.
-/
import Derived.Test.YtckffdaomjbglaaDoorIy
import Derived.Test.YtckffdaomjbglaaDoorIs
namespace Go.Proofs.YtckffdaomjbglaaDoor
open Go.RowKit Go.Sort Go.BigFrame
set_option linter.unusedVariables false

/-- used letters below c -/
def usedN (l : List Int) (c : Int) : Nat := lettersL.countP fun x => decide (x < c) && l.contains x
theorem countP_lt {p : Int → Bool} {c : Int} : ∀ {l : List Int}, l.Nodup → l.countP (fun x => decide (x < c + 1) && p x) = l.countP (fun x => decide (x < c) && p x) + (if l.contains c && p c then 1 else 0)
  | [], _ => by simp
  | a :: l, h => by
    have hn := (List.nodup_cons.1 h).1
    have ih := countP_lt (p := p) (c := c) (List.nodup_cons.1 h).2
    rw [List.countP_cons, List.countP_cons, ih]
    by_cases hac : a = c
    · subst hac
      have h0 : l.contains a = false := by simpa using hn
      have h1 : decide (a < a + 1) = true := decide_eq_true (by omega)
      have h2 : decide (a < a) = false := decide_eq_false (by omega)
      have h3 : (a :: l).contains a = true := by simp
      rw [h0, h1, h2, h3]
      try simp
    · have h1 : decide (a < c + 1) = decide (a < c) := decide_eq_decide.2 (by omega)
      have h3 : (a :: l).contains c = l.contains c := by
        rw [List.contains_cons]
        have : (c == a) = false := by simpa using fun e => hac e.symm
        rw [this]; rfl
      rw [h1, h3]
      omega
theorem letters_nodup : lettersL.Nodup := by decide
theorem usedN_succ (l : List Int) (c : Int) : usedN l (c + 1) = usedN l c + (if lettersL.contains c && l.contains c then 1 else 0) := countP_lt letters_nodup
theorem usedN_start (l : List Int) : usedN l 65 = 0 := by
  unfold usedN
  rw [List.countP_eq_zero]
  intro x hx
  have h : ∀ x ∈ lettersL, decide (x < 65) = false := by decide
  rw [h x hx]
  simp
theorem usedN_end (l : List Int) : usedN l 123 + (freeL l).length = 52 := by
  have h : ∀ x ∈ lettersL, decide (x < 123) = true := by decide
  have h1 : usedN l 123 = lettersL.countP fun x => l.contains x := by
    unfold usedN
    exact List.countP_congr fun x hx => by rw [h x hx]; simp
  have h2 : (freeL l).length = lettersL.countP fun x => !l.contains x := by
    unfold freeL
    rw [List.countP_eq_length_filter]
  rw [h1, h2]
  have := List.length_eq_countP_add_countP (l := lettersL) (fun x => l.contains x)
  have h3 : lettersL.length = 52 := rfl
  have h4 : lettersL.countP (fun x => !l.contains x) = lettersL.countP (fun a => decide ¬ (l.contains a = true)) := List.countP_congr fun x _ => by simp
  rw [h4]
  omega
theorem letter_in (c : Fin 128) : lettersL.contains (c.val : Int) = (decide (65 ≤ c.val) && decide (c.val ≤ 90) || decide (97 ≤ c.val) && decide (c.val ≤ 122)) := by
  revert c; decide +kernel
theorem slAt_take {α : Type} {E : Rp α} {F : Nat → Prop} {w : World} {A : Option Addr} {cap : Nat} {xs : List α} (h : SlAt E F w A cap xs) {k : Nat} (h2 : k ≤ xs.length) : SlAt E F w A cap (xs.take k) := by
  have hle := h.le
  have hm := h.mx
  refine ⟨by rw [List.length_take]; omega, hm, h.nil, fun i x hx => ?_⟩
  · have hi' := (List.getElem?_eq_some_iff.1 hx).1
    rw [List.length_take] at hi'
    rw [List.getElem?_take_of_lt (by omega)] at hx
    exact h.el _ _ hx
theorem plain_axiom {ms : List Mod} (hp : plainF ms = 0) (n : Nat) : plainF ((inferL (ms.map Mod.name) n).1.map modOf) = 0 := by
  unfold plainF
  rw [infer_axiom hp n, if_pos rfl]
  rw [if_pos]
  unfold bareM
  rw [List.all_eq_true]
  intro m hm
  obtain ⟨x, _, rfl⟩ := List.mem_map.1 hm
  rfl
set_option maxRecDepth 100000 in
set_option maxHeartbeats 4000000 in
theorem inferFewer_walk (A : Option Addr) (c : Nat) (ms : List Mod) (most less : Int) (w : World) (h : SlAt pMod (Old w) w A c ms) (hL : LibAt w) : Calls Tryd.prog 4 #[.slice A ms.length c, .int .i64 most, .int .i64 less] w (OkPost w) := by
  have hmx := h.lenle
  have vc := valid_calls A c ms most w h
  unfold BoolPost at vc
  have H := Lib.hid h; clear h
  have HL := Lib.hid hL; clear hL
  cases hv : validI ms most
  case false =>
    rw [hv] at vc
    have Vc := Lib.hid vc; clear vc
    have Hv := Lib.hid hv; clear hv
    go_enter Tryd.func4, Tryd.ntmps4
    go_wp2_with fail
    refine Vc.out.mono ?_
    rintro e w1 ⟨rfl, b1⟩
    have T1 := Lib.hid b1; clear b1
    go_wp2_with fail
    refine (alive_calls w1 (HL.out.later T1.out)).mono ?_
    rintro e w2 ⟨rfl, b2⟩
    have T2 := Lib.hid (T1.out.trans (b2.mono T1.out.size)); clear b2
    go_wp2
    go_ret
    exact ⟨rfl, T2.out⟩
  case true =>
  rw [hv] at vc
  by_cases hls : less < 0 ∨ most < less
  · have Vc := Lib.hid vc; clear vc
    have Hv := Lib.hid hv; clear hv
    rcases (show less < 0 ∨ (¬ less < 0 ∧ most < less) from by omega) with h1 | ⟨h1, h2⟩
    all_goals
      go_enter Tryd.func4, Tryd.ntmps4
      go_wp2_with fail
      refine Vc.out.mono ?_
      rintro e w1 ⟨rfl, b1⟩
      have T1 := Lib.hid b1; clear b1
      go_wp2_with fail
      refine (alive_calls w1 (HL.out.later T1.out)).mono ?_
      rintro e w2 ⟨rfl, b2⟩
      have T2 := Lib.hid (T1.out.trans (b2.mono T1.out.size)); clear b2
      go_wp2
      go_ret
      exact ⟨rfl, T2.out⟩
  obtain ⟨hls0, hls1⟩ : ¬ less < 0 ∧ ¬ most < less := ⟨fun e => hls (.inl e), fun e => hls (.inr e)⟩
  clear hls
  obtain ⟨hl, hp, hm0, hm1⟩ := validI_yes hv
  have hi := inferF_valid hp hm0 hm1
  have hi2 := inferF_valid hp (most := less) (by omega) (by omega)
  have hsz := size_valid hp (n := most.toNat) (by omega)
  have hsz2 := size_valid hp (n := less.toNat) (by omega)
  have hlen := len_valid ms most.toNat
  have hlen2 := len_valid ms less.toNat
  have hpa := plain_axiom hp most.toNat
  have hle := sum_valid ms most.toNat
  obtain ⟨hf1, hf2, hf3⟩ := infer_fewer less.toNat most.toNat (freeL (ms.map Mod.name)) (ms.map Mod.name) (by omega)
  have hends := infer_ends most.toNat (freeL (ms.map Mod.name)) (ms.map Mod.name)
  obtain ⟨q, hq⟩ : ∃ q, inferL (ms.map Mod.name) most.toNat = q := ⟨_, rfl⟩
  obtain ⟨q2, hq2⟩ : ∃ q, inferL (ms.map Mod.name) less.toNat = q := ⟨_, rfl⟩
  have hqG : inferG most.toNat (freeL (ms.map Mod.name)) (ms.map Mod.name) = q := hq
  have hqG2 : inferG less.toNat (freeL (ms.map Mod.name)) (ms.map Mod.name) = q2 := hq2
  rw [hqG, hqG2] at hf1 hf2 hf3
  rw [hqG] at hends
  rw [hq] at hi hsz hlen hpa hle
  rw [hq2] at hi2 hsz2 hlen2
  obtain ⟨l, rl⟩ := q
  obtain ⟨l2, rl2⟩ := q2
  simp only at hi hi2 hsz hsz2 hlen hlen2 hf1 hf2 hf3 hends hpa hle
  have hsm := small_rulO (rl := rl) (by omega)
  have hsm2 := small_rulO (rl := rl2) (by omega)
  have g1 : ¬ (rl.length : Int) < (rl2.length : Int) := by omega
  have g2 : ¬ less < (rl2.length : Int) := by omega
  have g3 : ¬ ((l2.length : Int) + 2 * (rl2.length : Int)) < ((l.length : Int) + 2 * (rl.length : Int)) := by omega
  have hl120 : l.length ≤ 120 := by omega
  have hrl30 : rl.length ≤ 30 := by omega
  have hrl30b : rl2.length ≤ 30 := by omega
  clear hf3
  have Vc := Lib.hid vc; clear vc
  have Hv := Lib.hid hv; clear hv
  have Hp := Lib.hid hp; clear hp
  have Hi := Lib.hid hi; clear hi
  have Hi2 := Lib.hid hi2; clear hi2
  have Hsz := Lib.hid hsz; clear hsz
  have Hsz2 := Lib.hid hsz2; clear hsz2
  have Hsm := Lib.hid hsm; clear hsm
  have Hsm2 := Lib.hid hsm2; clear hsm2
  have Hq := Lib.hid hq; clear hq
  have Hq2 := Lib.hid hq2; clear hq2
  have HqG := Lib.hid hqG; clear hqG
  have HqG2 := Lib.hid hqG2; clear hqG2
  have Hf1 := Lib.hid hf1; clear hf1
  have Hpa := Lib.hid hpa; clear hpa
  have Hends := Lib.hid hends; clear hends
  go_enter Tryd.func4, Tryd.ntmps4
  go_wp2_with fail
  refine Vc.out.mono ?_
  rintro e w1 ⟨rfl, b1⟩
  have T1 := Lib.hid b1
  have ic := infer_calls A c ms most w1 (H.out.later b1) (by omega)
  clear b1
  unfold InferPost at ic
  rw [Hi.out] at ic
  have Ic := Lib.hid ic; clear ic
  go_wp2_with fail
  refine Ic.out.mono ?_
  rintro e w2 ⟨A2, c2, B2, d2, rfl, om2, or2, b2⟩
  have T2 := Lib.hid (T1.out.trans (b2.mono T1.out.size)); clear b2
  have M2 := Lib.hid (own_mods om2 (Below.refl _ _)).2
  have R2 := Lib.hid (own_ruls or2 (Below.refl _ _))
  clear om2 or2
  have ic2 := infer_calls A c ms less w2 (H.out.later T2.out) (by omega)
  unfold InferPost at ic2
  rw [Hi2.out] at ic2
  have Ic2 := Lib.hid ic2; clear ic2
  go_wp2_with fail
  refine Ic2.out.mono ?_
  rintro e w3 ⟨A3, c3, B3, d3, rfl, om3, or3, b3⟩
  have T3 := Lib.hid (T2.out.trans (b3.mono T2.out.size))
  have M3 := Lib.hid (own_mods om3 (Below.refl _ _)).2
  have R3 := Lib.hid (own_ruls or3 (Below.refl _ _))
  have M23 := Lib.hid (M2.out.later b3)
  have R23 := Lib.hid (R2.out.later b3)
  clear om3 or3 b3
  have sc := size_calls A2 c2 (l.map modOf) B2 d2 (rl.map rulO) w3 R23.out M23.out Hsm.out
  unfold PairPost at sc
  rw [Hsz.out, List.length_map, List.length_map] at sc
  have Sc := Lib.hid sc; clear sc
  go_wp2_with fail
  refine Sc.out.mono ?_
  rintro e w4 ⟨rfl, b4⟩
  have T4 := Lib.hid (T3.out.trans (b4.mono T3.out.size))
  have M24 := Lib.hid (M23.out.later b4)
  have R24 := Lib.hid (R23.out.later b4)
  have R34 := Lib.hid (R3.out.later b4)
  have sc2 := size_calls A3 c3 (l2.map modOf) B3 d3 (rl2.map rulO) w4 R34.out (M3.out.later b4) Hsm2.out
  unfold PairPost at sc2
  rw [Hsz2.out, List.length_map, List.length_map] at sc2
  have Sc2 := Lib.hid sc2; clear sc2
  clear b4
  go_wp2_with fail
  refine Sc2.out.mono ?_
  rintro e w5 ⟨rfl, b5⟩
  have T5 := Lib.hid (T4.out.trans (b5.mono T4.out.size))
  have M25 := Lib.hid (M24.out.later b5)
  have R25 := Lib.hid (R24.out.later b5)
  have R35 := Lib.hid (R34.out.later b5)
  have hlm : rl2.length ≤ (rl.map rulO).length := by rw [List.length_map]; exact hf2
  have R25' := slAt_take R25.out hlm
  rw [← List.map_take, ← Hf1.out] at R25'
  have srl := sameRules_calls B3 B2 d3 d2 rl2 w5 R35.out R25' (by omega)
  have hd2 := R25.out.le
  rw [List.length_map] at hd2
  have Srl := Lib.hid srl; clear srl
  have R25' := Lib.hid R25'; clear R25'
  clear b5
  go_wp2_with fail
  refine Srl.out.mono ?_
  rintro e w6 ⟨rfl, b6⟩
  have T6 := Lib.hid (T5.out.trans (b6.mono T5.out.size))
  have M26 := Lib.hid (M25.out.later b6)
  clear b6
  have hlm2 : (l.map modOf).length = l.length := List.length_map ..
  have pc := pair_calls A2 c2 (l.map modOf) w6 M26.out (by rw [hlm2]; omega)
  rw [hlm2] at pc
  have Pc := Lib.hid pc; clear pc
  have Hlm2 := Lib.hid hlm2; clear hlm2
  go_wp2_with fail
  refine Pc.out.mono ?_
  rintro e w7 ⟨a, b, n, r, rfl, b7, hpp⟩
  have T7 := Lib.hid (T6.out.trans (b7.mono T6.out.size))
  have hb : BestOf (PairAt l l.length) (fun u v => cntR u v l) a b n ∧ r = if n = 0 then 6 else 0 := by
    rcases hpp with ⟨hpp, _⟩ | ⟨_, h1, h2⟩
    · exact absurd Hpa.out hpp
    · rw [names_modOf] at h1
      exact ⟨h1, h2⟩
  obtain ⟨hbest, hr⟩ := hb
  have hbf := bestF_one hbest
  have hn0 : 0 ≤ n := by
    have := (bestF_is l).2
    rw [hbf] at this
    exact this
  have hend2 : rl.length = most.toNat ∨ rl.length = (freeL (ms.map Mod.name)).length ∨ n < 2 := by
    have := Hends.out
    rw [hbf] at this
    exact this
  have Hbest := Lib.hid hbest; clear hbest
  have Hbf := Lib.hid hbf; clear hbf
  clear b7 hpp
  by_cases hstop : (rl.length : Int) = most ∨ n = 0 ∨ n = 1
  · have hway : ((rl.length : Int) = most) ∨ ((rl.length : Int) ≠ most ∧ n = 0 ∧ r = 6) ∨ ((rl.length : Int) ≠ most ∧ n = 1 ∧ r = 0) := by
      by_cases h1 : (rl.length : Int) = most
      · exact .inl h1
      · rcases hstop with h2 | h2 | h2
        · exact absurd h2 h1
        · exact .inr (.inl ⟨h1, h2, by rw [hr, if_pos h2]⟩)
        · exact .inr (.inr ⟨h1, h2, by rw [hr, if_neg (by omega)]⟩)
    clear hr hend2 hstop
    rcases hway with h1 | ⟨h1, rfl, rfl⟩ | ⟨h1, rfl, rfl⟩
    all_goals
      go_wp2_with fail
      refine (alive_calls w7 (HL.out.later T7.out)).mono ?_
      rintro e w9 ⟨rfl, b9⟩
      have T9 := Lib.hid (T7.out.trans (b9.mono T7.out.size)); clear b9
      go_wp2
      go_ret
      exact ⟨rfl, T9.out⟩
  · obtain ⟨k1, k2, k3⟩ : ¬ (rl.length : Int) = most ∧ ¬ n = 0 ∧ ¬ n = 1 := ⟨fun e => hstop (.inl e), fun e => hstop (.inr (.inl e)), fun e => hstop (.inr (.inr e))⟩
    have hr0 : r = 0 := by rw [hr, if_neg k2]
    subst hr0
    have hfree : rl.length = (freeL (ms.map Mod.name)).length := by
      rcases hend2 with h1 | h1 | h1
      · omega
      · exact h1
      · omega
    have hue := usedN_end (ms.map Mod.name)
    have hus := usedN_start (ms.map Mod.name)
    have hz7 := T7.out.size
    have eb1 : ((rl.length : Int) == most) = false := by simpa using k1
    have eb2 : (n == 1) = false := by simpa using k3
    have eb3 : (((0 : Int)) == 6) = false := rfl
    clear hend2 hstop hr
    have Hfree := Lib.hid hfree; clear hfree
    have Hue := Lib.hid hue; clear hue
    have Hus := Lib.hid hus; clear hus
    go_wp2_with fail
    go_loopw [23, 22] (fun cv uv wr => ∃ (k : Nat), 65 ≤ k ∧ k ≤ 123 ∧ cv = .int .u8 k ∧ uv = .int .i64 ((rl.length : Int) + (usedN (ms.map Mod.name) k : Int)) ∧ usedN (ms.map Mod.name) k ≤ k ∧ Hid (Below w7.heap.size w7 wr)) (fun cv _ _ => 123 - (intOf cv).toNat)
    case atStart => exact ⟨65, by omega, by omega, rfl, by rw [show ((65 : Nat) : Int) = 65 from rfl, Hus.out]; simp, by rw [show ((65 : Nat) : Int) = 65 from rfl, Hus.out]; omega, Below.refl _ _⟩
    case round =>
      obtain ⟨k, hk0, hk1, rfl, rfl, huk, hbv⟩ := hrel
      obtain ⟨wo, rfl⟩ : ∃ wo : World, wo = wr := ⟨_, rfl⟩
      have hbw := T7.out.trans (hbv.out.mono hz7)
      obtain ⟨u, hu⟩ : ∃ u : Nat, usedN (ms.map Mod.name) k = u := ⟨_, rfl⟩
      rw [hu] at huk ⊢
      by_cases hlt : k ≤ 122
      case neg =>
        obtain rfl : k = 123 := by omega
        have hue := Hue.out
        rw [show usedN (ms.map Mod.name) 123 = u from hu, ← Hfree.out] at hue
        have h52 : (((rl.length : Int) + (u : Int)) == 52) = true := by
          have : (rl.length : Int) + (u : Int) = 52 := by omega
          simpa using this
        have Hbw := Lib.hid hbw; clear hbw
        have Hu := Lib.hid hu; clear hu
        clear hue
        go_wp2_with fail
        refine (alive_calls wo (HL.out.later Hbw.out)).mono ?_
        rintro e w9 ⟨rfl, b9⟩
        have T9 := Lib.hid (Hbw.out.trans (b9.mono Hbw.out.size)); clear b9
        go_wp2
        go_ret
        exact ⟨rfl, T9.out⟩
      case pos =>
        have hsu := usedN_succ (ms.map Mod.name) k
        rw [hu] at hsu
        have hin := letter_in ⟨k, by omega⟩
        simp only at hin
        have hwr : IntKind.u8.wrap ((k : Int) + 1) = (k : Int) + 1 := IntWalk.u8_in _ (by omega)
        have hlt' : (k : Int) ≤ 122 := by omega
        have hcast : ((k + 1 : Nat) : Int) = (k : Int) + 1 := by omega
        by_cases hrange : k ≤ 90 ∨ 97 ≤ k
        case neg =>
          have h1 : ¬ (k : Int) ≤ 90 := by omega
          have h2 : ¬ (97 : Int) ≤ (k : Int) := by omega
          have hc0 : lettersL.contains (k : Int) = false := by
            rw [hin]
            have e1 : decide (k ≤ 90) = false := decide_eq_false (by omega)
            have e2 : decide (97 ≤ k) = false := decide_eq_false (by omega)
            rw [e1, e2]; simp
          rw [hc0] at hsu
          have hsu2 : usedN (ms.map Mod.name) ((k + 1 : Nat) : Int) = u := by rw [hcast, hsu]; simp
          have Hsu2 := Lib.hid hsu2; clear hsu2
          have Hu := Lib.hid hu; clear hu
          have Hcast := Lib.hid hcast; clear hcast
          clear hsu hin hc0 hrange
          go_wp2
          go_roundw
          case rel => exact ⟨k + 1, by omega, by omega, by rw [Hcast.out], by rw [Hsu2.out], by rw [Hsu2.out]; omega, hbv⟩
          case measure => simp [intOf]; omega
        case pos =>
          have hc1 : lettersL.contains (k : Int) = true := by
            rw [hin]
            rcases hrange with h1 | h1
            · simp [hk0, h1]
            · simp [hlt, h1]
          rw [hc1] at hsu
          have cc := count_calls A c ms (k : Int) wo (H.out.later hbw)
          obtain ⟨m, hm⟩ : ∃ m : Nat, countF (k : Int) ms = m := ⟨_, rfl⟩
          have hcm := count_free (c := (k : Int)) (ms := ms)
          rw [hm] at cc hcm
          cases hcon : (ms.map Mod.name).contains (k : Int)
          · have hm0 : m = 0 := hcm.2 hcon
            subst hm0
            rw [hcon] at hsu
            have hsu2 : usedN (ms.map Mod.name) ((k + 1 : Nat) : Int) = u := by rw [hcast, hsu]; simp
            have e0 : ¬ (0 : Int) < ((0 : Nat) : Int) := by decide
            have Hsu2 := Lib.hid hsu2; clear hsu2
            have Hu := Lib.hid hu; clear hu
            have Hcast := Lib.hid hcast; clear hcast
            have Cc := Lib.hid cc; clear cc
            have Hbw := Lib.hid hbw; clear hbw
            have Hm := Lib.hid hm; clear hm
            clear hsu hin hc1 hcm
            rcases (show (k : Int) ≤ 90 ∨ (¬ (k : Int) ≤ 90 ∧ (97 : Int) ≤ (k : Int)) from by omega) with h1 | ⟨h1, h2⟩
            all_goals
              go_wp2_with fail
              refine Cc.out.mono ?_
              rintro e w9 ⟨rfl, b9⟩
              have hb9 := hbv.out.trans (b9.mono hbv.out.size)
              have Hb9 := Lib.hid hb9; clear hb9
              clear b9
              go_wp2
              go_roundw
              case rel => exact ⟨k + 1, by omega, by omega, by rw [Hcast.out], by rw [Hsu2.out], by rw [Hsu2.out]; omega, Hb9⟩
              case measure => simp [intOf]; omega
          · have hm0 : ¬ m = 0 := fun e => by have := hcm.1 e; rw [hcon] at this; cases this
            rw [hcon] at hsu
            have hsu2 : usedN (ms.map Mod.name) ((k + 1 : Nat) : Int) = u + 1 := by rw [hcast, hsu]; simp
            have e0 : (0 : Int) < (m : Int) := by omega
            have Hsu2 := Lib.hid hsu2; clear hsu2
            have Hu := Lib.hid hu; clear hu
            have Hcast := Lib.hid hcast; clear hcast
            have Cc := Lib.hid cc; clear cc
            have Hbw := Lib.hid hbw; clear hbw
            have Hm := Lib.hid hm; clear hm
            clear hsu hin hc1 hcm
            rcases (show (k : Int) ≤ 90 ∨ (¬ (k : Int) ≤ 90 ∧ (97 : Int) ≤ (k : Int)) from by omega) with h1 | ⟨h1, h2⟩
            all_goals
              go_wp2_with fail
              refine Cc.out.mono ?_
              rintro e w9 ⟨rfl, b9⟩
              have hb9 := hbv.out.trans (b9.mono hbv.out.size)
              have Hb9 := Lib.hid hb9; clear hb9
              clear b9
              go_wp2
              go_roundw
              case rel => exact ⟨k + 1, by omega, by omega, by rw [Hcast.out], by rw [Hsu2.out]; exact congrArg (Value.int .i64) (by omega), by rw [Hsu2.out]; omega, Hb9⟩
              case measure => simp [intOf]; omega
end Go.Proofs.YtckffdaomjbglaaDoor
