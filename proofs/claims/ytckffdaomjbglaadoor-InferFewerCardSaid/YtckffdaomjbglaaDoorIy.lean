/-
  Layer 42: the law's walk of InferUsed.
-/
import Derived.Test.YtckffdaomjbglaaDoorIx
namespace Go.Proofs.YtckffdaomjbglaaDoor
open Go.RowKit Go.Sort Go.BigFrame
set_option linter.unusedVariables false

def outN (r : Int × Int × Int) (n : Nat) : Int := if n = 0 then r.2.1 else r.2.2
theorem getInf {w : World} {A : Option Addr} {c : Nat} {rl : List (Int × Int × Int)} (h : SlAt pRul (Old w) w A c (rl.map rulO)) {k : Nat} {r : Int × Int × Int} (hr : rl[k]? = some r) :
    ∃ b o A1 c1 A3 c3, A = some ⟨b, o, none⟩ ∧ b < w.heap.size ∧ w.cell? ⟨b, o + k * 7, none⟩ = some (.int .u8 r.1) ∧ w.cell? ⟨b, o + k * 7 + 1, none⟩ = some (.int .i64 0) ∧ w.cell? ⟨b, o + k * 7 + 4, none⟩ = some (.slice A1 0 c1) ∧ w.cell? ⟨b, o + k * 7 + 6, none⟩ = some (.slice A3 2 c3) ∧ Fits .u8 r.1 ∧
      Hid (SlAt pShp (Old w) w A3 c3 [⟨r.2.1, []⟩, ⟨r.2.2, []⟩]) := by
  have hk : k < (rl.map rulO).length := by rw [List.length_map]; exact (List.getElem?_eq_some_iff.1 hr).1
  obtain ⟨b7, o7, A7, c7, A8, c8, q, hdr, hA7, hob7, k0, k1, k2, k3, k4, k5, k6, hfits, hgs, hos, hgl, hol⟩ := h.getRul hk
  have hq : q = rulO r := by
    have h1 := get_of_drop hdr.out
    rw [List.getElem?_map, hr] at h1
    exact (Option.some.inj h1).symm
  subst hq
  exact ⟨b7, o7, A7, c7, A8, c8, hA7, hob7, k0, k1, k4, k6, hfits.1, hos⟩
theorem getOut {w : World} {A : Option Addr} {c : Nat} {r : Int × Int × Int} (h : SlAt pShp (Old w) w A c [⟨r.2.1, []⟩, ⟨r.2.2, []⟩]) {n : Nat} (hn : n < 2) :
    ∃ b o, A = some ⟨b, o, none⟩ ∧ b < w.heap.size ∧ w.cell? ⟨b, o + n * 2, none⟩ = some (.int .u8 (outN r n)) ∧ Fits .u8 (outN r n) := by
  obtain ⟨b8, o8, As, cs, s1, hd1, hA8, hob8, s10, _, hs18, _, _⟩ := h.getShp (i := n) hn
  have hs : s1.name = outN r n := by
    have h1 := get_of_drop hd1.out
    match n, hn with
    | 0, _ => have := Option.some.inj h1; rw [← this]; rfl
    | 1, _ => have := Option.some.inj h1; rw [← this]; rfl
  rw [hs] at s10 hs18
  exact ⟨b8, o8, hA8, hob8, s10, hs18⟩
def knownB (ms : List Mod) (rl : List (Int × Int × Int)) (n : Nat) (x : Int) : Bool := decide ((0 : Int) < ((countF x ms : Nat) : Int)) || (rl.take n).any fun q => q.1 == x
theorem knownB_zero (ms : List Mod) (rl : List (Int × Int × Int)) (x : Int) : knownB ms rl 0 x = decide ((0 : Int) < ((countF x ms : Nat) : Int)) := by unfold knownB; simp
theorem knownB_succ {ms : List Mod} {rl : List (Int × Int × Int)} {n : Nat} {x : Int} {q : Int × Int × Int} (h : rl[n]? = some q) : knownB ms rl (n + 1) x = (knownB ms rl n x || (q.1 == x)) := by
  unfold knownB
  rw [List.take_add_one, h, List.any_append]
  simp [Bool.or_assoc]
/-- the facts of the rules that a walk needs -/
structure UsedAt (ms : List Mod) (rl : List (Int × Int × Int)) : Prop where
  fresh : ∀ (i : Nat) r, rl[i]? = some r → countF r.1 ms = 0
  known : ∀ (i : Nat) r, rl[i]? = some r → ∀ n, knownB ms rl i (outN r n) = true
  asc : ∀ (n i : Nat) q r, rl[n]? = some q → rl[i]? = some r → n < i → q.1 < r.1
theorem letters_asc : lettersL.Pairwise (· < ·) := by decide
theorem used_of (ms : List Mod) (n : Nat) : UsedAt ms (inferL (ms.map Mod.name) n).2 := by
  obtain ⟨h1, _, _⟩ := infer_names n (freeL (ms.map Mod.name)) (ms.map Mod.name)
  obtain ⟨_, h2⟩ := infer_known n (freeL (ms.map Mod.name)) (ms.map Mod.name)
  obtain ⟨rl, hrl⟩ : ∃ rl, (inferG n (freeL (ms.map Mod.name)) (ms.map Mod.name)).2 = rl := ⟨_, rfl⟩
  rw [hrl] at h1 h2
  have hgoal : (inferL (ms.map Mod.name) n).2 = rl := hrl
  rw [hgoal]
  have hname : ∀ (i : Nat) r, rl[i]? = some r → (freeL (ms.map Mod.name))[i]? = some r.1 := fun i r hr => by
    have hi := (List.getElem?_eq_some_iff.1 hr).1
    have h3 : (rl.map (·.1))[i]? = some r.1 := by rw [List.getElem?_map, hr]; rfl
    rw [h1, List.getElem?_take_of_lt hi] at h3
    exact h3
  refine ⟨fun i r hr => ?_, fun i r hr m => ?_, fun a b q r hq hr hab => ?_⟩
  · have := (free_sub _ (List.mem_of_getElem? (hname i r hr))).2
    exact count_free.2 (by simpa using this)
  · obtain ⟨k1, k2, _, _⟩ := h2 i r hr
    have up : ∀ x, (x ∈ ms.map Mod.name ∨ x ∈ (rl.take i).map (·.1)) → knownB ms rl i x = true := fun x hx => by
      unfold knownB
      rw [Bool.or_eq_true]
      rcases hx with hx | hx
      · left
        have hc : ¬ countF x ms = 0 := fun e => by
          have := count_free.1 e
          rw [List.contains_iff_mem.2 hx] at this
          cases this
        exact decide_eq_true (by omega)
      · right
        obtain ⟨q, hq, rfl⟩ := List.mem_map.1 hx
        rw [List.any_eq_true]
        exact ⟨q, hq, beq_self_eq_true _⟩
    unfold outN
    split
    · exact up _ k1
    · exact up _ k2
  · have hp : (freeL (ms.map Mod.name)).Pairwise (· < ·) := List.Pairwise.sublist List.filter_sublist letters_asc
    have h4 := hname a q hq
    have h5 := hname b r hr
    obtain ⟨ha, ea⟩ := List.getElem?_eq_some_iff.1 h4
    obtain ⟨hb, eb⟩ := List.getElem?_eq_some_iff.1 h5
    have := List.pairwise_iff_getElem.1 hp a b ha hb hab
    rw [ea, eb] at this
    exact this
set_option maxRecDepth 100000 in
set_option maxHeartbeats 4000000 in
theorem inferUsed_walk (A : Option Addr) (c : Nat) (ms : List Mod) (most : Int) (w : World) (h : SlAt pMod (Old w) w A c ms) (hL : LibAt w) : Calls Tryd.prog 5 #[.slice A ms.length c, .int .i64 most] w (OkPost w) := by
  have hmx := h.lenle
  have vc := valid_calls A c ms most w h
  unfold BoolPost at vc
  have H := Lib.hid h; clear h
  have HL := Lib.hid hL; clear hL
  cases hv : validI ms most
  case false =>
    rw [hv] at vc
    have Vc := Lib.hid vc; clear vc
    have Hv := Lib.hid hv; clear hv
    go_enter Tryd.func5, Tryd.ntmps5
    go_wp2_with fail
    refine Vc.out.mono ?_
    rintro e w1 ⟨rfl, b1⟩
    have T1 := Lib.hid b1; clear b1
    go_wp2_with fail
    refine (alive_calls w1 (HL.out.later T1.out)).mono ?_
    rintro e w2 ⟨rfl, b2⟩
    have T2 := Lib.hid (T1.out.trans (b2.mono T1.out.size)); clear b2
    go_wp2
    go_ret
    exact ⟨rfl, T2.out⟩
  case true =>
  rw [hv] at vc
  obtain ⟨hl, hp, hm0, hm1⟩ := validI_yes hv
  have hi := inferF_valid hp hm0 hm1
  have hlen := len_valid ms most.toNat
  have hu := used_of ms most.toNat
  obtain ⟨q, hq⟩ : ∃ q, inferL (ms.map Mod.name) most.toNat = q := ⟨_, rfl⟩
  rw [hq] at hi hlen hu
  obtain ⟨l, rl⟩ := q
  simp only at hi hlen hu
  have Vc := Lib.hid vc; clear vc
  have Hv := Lib.hid hv; clear hv
  have Hp := Lib.hid hp; clear hp
  have Hi := Lib.hid hi; clear hi
  have Hq := Lib.hid hq; clear hq
  have Hu := Lib.hid hu; clear hu
  go_enter Tryd.func5, Tryd.ntmps5
  go_wp2_with fail
  refine Vc.out.mono ?_
  rintro e w1 ⟨rfl, b1⟩
  have T1 := Lib.hid b1
  have ic := infer_calls A c ms most w1 (H.out.later b1) (by omega)
  clear b1
  unfold InferPost at ic
  rw [Hi.out] at ic
  have Ic := Lib.hid ic; clear ic
  go_wp2_with fail
  refine Ic.out.mono ?_
  rintro e w4 ⟨A4, c4, B4, d4, rfl, om4, or4, b4⟩
  have T4 := Lib.hid (T1.out.trans (b4.mono T1.out.size)); clear b4
  have R4 := Lib.hid (own_ruls or4 (Below.refl _ _))
  clear om4 or4
  have z4 := T4.out.size
  go_wp2
  go_loopw [8] (fun i wr => ∃ (k : Nat), k ≤ rl.length ∧ i = .int .i64 k ∧ Hid (Below w4.heap.size w4 wr)) (fun i _ => rl.length - (intOf i).toNat)
  case atStart => exact ⟨0, Nat.zero_le _, rfl, Below.refl _ _⟩
  case round =>
    obtain ⟨k, hk, rfl, hb⟩ := hrel
    obtain ⟨wo, rfl⟩ : ∃ wo : World, wo = wr := ⟨_, rfl⟩
    have hbw : Below w.heap.size w wo := T4.out.trans (hb.out.mono z4)
    by_cases hlt : k < rl.length
    case neg =>
      obtain rfl : k = rl.length := by omega
      have Hbw := Lib.hid hbw; clear hbw
      go_wp2_with fail
      refine (alive_calls wo (HL.out.later Hbw.out)).mono ?_
      rintro e w9 ⟨rfl, b9⟩
      have T9 := Lib.hid (Hbw.out.trans (b9.mono Hbw.out.size)); clear b9
      go_wp2
      go_ret
      exact ⟨rfl, T9.out⟩
    case pos =>
      obtain ⟨r, hr⟩ : ∃ r, rl[k]? = some r := ⟨_, List.getElem?_eq_getElem hlt⟩
      have hRo := R4.out.later hb.out
      obtain ⟨ba, oa, A1, c1, A3, c3, xA, xob, x0, x1, x4, x6, xfit, xos⟩ := getInf hRo hr
      subst xA
      have hfr := Hu.out.fresh k r hr
      have hkn := Hu.out.known k r hr
      have cc := count_calls A c ms r.1 wo (H.out.later hbw)
      have hk0 : (0 : Int) ≤ (k : Int) := Int.natCast_nonneg _
      have hk1 : (k : Int) < (rl.length : Int) := by omega
      have Hr := Lib.hid hr; clear hr
      have HRo := Lib.hid hRo; clear hRo
      have Hfr := Lib.hid hfr; clear hfr
      have Hkn := Lib.hid hkn; clear hkn
      have Cc := Lib.hid cc; clear cc
      have Xos := Lib.hid xos; clear xos
      have Hbw := Lib.hid hbw; clear hbw
      go_wp2_with fail
      refine Cc.out.mono ?_
      rintro e w5 ⟨rfl, b5⟩
      rw [Hfr.out]
      have hz5 := b5.size
      have y0 := (cell_keep (b5.block ba xob)).trans x0
      have y1 := (cell_keep (b5.block ba xob)).trans x1
      have y4 := (cell_keep (b5.block ba xob)).trans x4
      have y6 := (cell_keep (b5.block ba xob)).trans x6
      have yos := Xos.out.out.later b5
      have hb5 := hb.out.trans (b5.mono hb.out.size)
      have e0 : ¬ (0 : Int) < ((0 : Nat) : Int) := by decide
      have xob5 : ba < w5.heap.size := by omega
      have hz45 := hb5.size
      have Yos := Lib.hid yos; clear yos
      have Hb5 := Lib.hid hb5; clear hb5
      clear b5 x0 x1 x4 x6 e0
      go_wp2_with fail
      go_loopw [9] (fun i wr => ∃ (n : Nat), n ≤ 2 ∧ i = .int .i64 n ∧ Hid (Below w5.heap.size w5 wr)) (fun i _ => 2 - (intOf i).toNat)
      case atStart => exact ⟨0, by omega, rfl, Below.refl _ _⟩
      case round =>
        obtain ⟨n, hn2, rfl, hbn⟩ := hrel
        obtain ⟨wn, rfl⟩ : ∃ wn : World, wn = wr := ⟨_, rfl⟩
        have u0 := (cell_keep (hbn.out.block ba xob5)).trans y0
        have u6 := (cell_keep (hbn.out.block ba xob5)).trans y6
        have hbn4 := Hb5.out.trans (hbn.out.mono hz45)
        have hzn := hbn.out.size
        by_cases hlt2 : n < 2
        case neg =>
          obtain rfl : n = 2 := by omega
          have Hbn4 := Lib.hid hbn4; clear hbn4
          go_wp2_with fail
          go_loopw [12] (fun i wr => ∃ (m : Nat), m ≤ k ∧ i = .int .i64 m ∧ Hid (Below wn.heap.size wn wr)) (fun i _ => k - (intOf i).toNat)
          case atStart => exact ⟨0, by omega, rfl, Below.refl _ _⟩
          case round =>
            obtain ⟨m, hmk, rfl, hbm⟩ := hrel
            obtain ⟨wm, rfl⟩ : ∃ wm : World, wm = wr := ⟨_, rfl⟩
            have hbm4 := Hbn4.out.trans (hbm.out.mono Hbn4.out.size)
            by_cases hlt3 : m < k
            case neg =>
              obtain rfl : m = k := by omega
              have Hbm4 := Lib.hid hbm4; clear hbm4
              go_wp2
              go_roundw
              case rel => exact ⟨m + 1, by omega, by go_num, Hbm4⟩
              case measure => simp [intOf]; omega
            case pos =>
              obtain ⟨q, hq⟩ : ∃ q, rl[m]? = some q := ⟨_, List.getElem?_eq_getElem (by omega)⟩
              obtain ⟨bb, ob, B1, e1, B3, e3, yA, yob, v0, v1, v4, v6, yfit, yos'⟩ := getInf (R4.out.later hbm4) hq
              cases yA
              have u0' := (cell_keep (hbm.out.block ba (by omega))).trans u0
              have has := Hu.out.asc m k q r hq Hr.out hlt3
              have hge : decide (r.1 ≤ q.1) = false := decide_eq_false (by omega)
              have hm0' : (0 : Int) ≤ (m : Int) := Int.natCast_nonneg _
              have hm1' : (m : Int) < (rl.length : Int) := by omega
              have hm2' : (m : Int) < (k : Int) := by omega
              have Hq := Lib.hid hq; clear hq
              have Yos' := Lib.hid yos'; clear yos'
              have Hbm4 := Lib.hid hbm4; clear hbm4
              clear v1 v4 v6
              go_wp2_with fail
              go_big_quiet (fail)
              have hb6 := hbm.out.trans ((below_drewN (Below.refl wm.heap.size wm) nq).mono hbm.out.size)
              generalize wm.drewN nq = w6 at hb6 ⊢
              have Hb6 := Lib.hid hb6; clear hb6
              go_wp2
              go_roundw
              case rel => exact ⟨m + 1, by omega, by go_num, Hb6⟩
              case measure => simp [intOf]; omega
        case pos =>
          obtain ⟨bo, oo, zA, zob, z0, zfit⟩ := getOut (Yos.out.later hbn.out) hlt2
          subst zA
          obtain ⟨x, hx⟩ : ∃ x, outN r n = x := ⟨_, rfl⟩
          rw [hx] at z0 zfit
          have hkx := Hkn.out n
          rw [hx] at hkx
          have cx := count_calls A c ms x wn (H.out.later (T4.out.trans (hbn4.mono z4)))
          have hn0 : (0 : Int) ≤ (n : Int) := Int.natCast_nonneg _
          have hn1 : (n : Int) < 2 := by omega
          have Hbn4 := Lib.hid hbn4; clear hbn4
          have Hkx := Lib.hid hkx; clear hkx
          have Cx := Lib.hid cx; clear cx
          have Hx := Lib.hid hx; clear hx
          go_wp2_with fail
          refine Cx.out.mono ?_
          rintro e w6 ⟨rfl, b6⟩
          have hz6 := b6.size
          have hb6n := hbn.out.trans (b6.mono hbn.out.size)
          have s6 := (cell_keep (b6.block ba (by omega))).trans u6
          have s0 := (cell_keep (b6.block bo zob)).trans z0
          have hb64 := Hbn4.out.trans (b6.mono Hbn4.out.size)
          have xob6 : ba < w6.heap.size := by omega
          have zob6 : bo < w6.heap.size := by omega
          have hst : decide ((0 : Int) < ((countF x ms : Nat) : Int)) = knownB ms rl 0 x := (knownB_zero ms rl x).symm
          have B6 := Lib.hid b6; clear b6
          have Hb6n := Lib.hid hb6n; clear hb6n
          have Hb64 := Lib.hid hb64; clear hb64
          have Hst := Lib.hid hst; clear hst
          go_wp2_with fail
          go_loopw [11, 10] (fun i kv wr => ∃ (m : Nat), m ≤ k ∧ i = .int .i64 m ∧ kv = .bool (knownB ms rl m x) ∧ Hid (Below w6.heap.size w6 wr)) (fun i _ _ => k - (intOf i).toNat)
          case atStart => exact ⟨0, by omega, rfl, by rw [← Hst.out]; exact congrArg Value.bool (decide_eq_decide.2 (by omega)), Below.refl _ _⟩
          case round =>
            obtain ⟨m, hmk, rfl, rfl, hbm⟩ := hrel
            obtain ⟨wm, rfl⟩ : ∃ wm : World, wm = wr := ⟨_, rfl⟩
            by_cases hlt3 : m < k
            case neg =>
              obtain rfl : m = k := by omega
              have hbr := Hb6n.out.trans (hbm.out.mono Hb6n.out.size)
              rw [Hkx.out]
              have Hbr := Lib.hid hbr; clear hbr
              go_wp2
              go_roundw
              case rel => exact ⟨n + 1, by omega, by go_num, Hbr⟩
              case measure => simp [intOf]; omega
            case pos =>
              obtain ⟨q, hq⟩ : ∃ q, rl[m]? = some q := ⟨_, List.getElem?_eq_getElem (by omega)⟩
              obtain ⟨bb, ob, B1, e1, B3, e3, yA, yob, v0, v1, v4, v6, yfit, yos'⟩ := getInf (R4.out.later (Hb64.out.trans (hbm.out.mono Hb64.out.size))) hq
              cases yA
              have s6' := (cell_keep (hbm.out.block ba xob6)).trans s6
              have s0' := (cell_keep (hbm.out.block bo zob6)).trans s0
              have hsu := knownB_succ (ms := ms) (x := x) hq
              have hm0' : (0 : Int) ≤ (m : Int) := Int.natCast_nonneg _
              have hm1' : (m : Int) < (rl.length : Int) := by omega
              have hm2' : (m : Int) < (k : Int) := by omega
              cases hkb : knownB ms rl m x
              all_goals
                rw [hkb] at hsu
                have Hq := Lib.hid hq; clear hq
                have Yos' := Lib.hid yos'; clear yos'
                have Hsu := Lib.hid hsu; clear hsu
                have Hkb := Lib.hid hkb; clear hkb
                clear v1 v4 v6
                go_wp2_with fail
                go_big_quiet (fail)
                have hb6 := hbm.out.trans ((below_drewN (Below.refl wm.heap.size wm) nq).mono hbm.out.size)
                generalize wm.drewN nq = w7 at hb6 ⊢
                have Hb6 := Lib.hid hb6; clear hb6
                go_wp2
                go_roundw
                case rel => exact ⟨m + 1, by omega, by go_num, by rw [Hsu.out]; simp, Hb6⟩
                case measure => simp [intOf]; omega
end Go.Proofs.YtckffdaomjbglaaDoor
