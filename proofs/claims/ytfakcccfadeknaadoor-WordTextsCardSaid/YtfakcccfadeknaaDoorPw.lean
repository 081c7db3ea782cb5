/-
  Layer 6: the walk of the reference's Parse (printed by pw.py).
-/
import Derived.Test.YtfakcccfadeknaaDoorPt
import Derived.Test.YtfakcccfadeknaaDoorWe
import Derived.Test.YtfakcccfadeknaaDoorPv
namespace Go.Proofs.YtfakcccfadeknaaDoor
open Go.RowKit Go.Sort
set_option linter.unusedVariables false
theorem rest_tail {l a r : List UInt8} (h : l = a ++ r) : l.drop (l.length - r.length) = r := by
  subst h
  rw [List.length_append, Nat.add_sub_cancel, List.drop_left]
theorem byte_ne {b : UInt8} {n : Nat} (hn : n < 256) (h : ¬ (b.toNat : Int) = n) : b ≠ n.toUInt8 := fun e => h (by subst e; simp; omega)
theorem byte_eq {b : UInt8} {n : Nat} (hn : n < 256) (h : (b.toNat : Int) = n) : b = n.toUInt8 := by
  apply UInt8.toNat_inj.1
  simp; omega
theorem digsR_bd : ∀ (k : Nat) (n : Nat) (l : List UInt8), 0 ≤ (digsR k (n : Int) l).1 ∧ (digsR k (n : Int) l).1 < (((n + 1) * 10 ^ k : Nat) : Int)
  | 0, n, l => by unfold digsR; simp; omega
  | k + 1, n, [] => by
    have h : 1 ≤ 10 ^ (k + 1) := Nat.pos_of_ne_zero (by simp)
    have h1 : n + 1 ≤ (n + 1) * 10 ^ (k + 1) := Nat.le_mul_of_pos_right _ h
    unfold digsR
    simp only
    omega
  | k + 1, n, b :: r => by
    unfold digsR
    split
    · rename_i hd
      have ih := digsR_bd k (10 * n + (b.toNat - 48)) r
      rw [show ((10 * n + (b.toNat - 48) : Nat) : Int) = 10 * (n : Int) + ((b.toNat : Int) - 48) from by omega] at ih
      refine ⟨ih.1, Int.lt_of_lt_of_le ih.2 ?_⟩
      have h1 : (10 * n + (b.toNat - 48) + 1) * 10 ^ k ≤ (10 * (n + 1)) * 10 ^ k := Nat.mul_le_mul_right _ (by omega)
      have h2 : (10 * (n + 1)) * 10 ^ k = (n + 1) * 10 ^ (k + 1) := by rw [Nat.pow_succ, Nat.mul_comm 10 (n + 1), Nat.mul_assoc, Nat.mul_comm 10]
      omega
    · have h : 1 ≤ 10 ^ (k + 1) := Nat.pos_of_ne_zero (by simp)
      have h1 : n + 1 ≤ (n + 1) * 10 ^ (k + 1) := Nat.le_mul_of_pos_right _ h
      simp only
      omega
theorem numR_fits {l r : List UInt8} {n : Int} (h : numR l = some (n, r)) : Fits .i64 n := by
  have key : ∀ (neg : Bool) (l : List UInt8), tailR neg l = some (n, r) → Fits .i64 n := by
    intro neg l h
    have hb := digsR_bd 10 0 l
    rw [show ((0 : Nat) : Int) = 0 from rfl] at hb
    unfold tailR at h
    split at h
    · cases h
    · simp only [Option.some.injEq, Prod.mk.injEq] at h
      have h1 := h.1
      refine fits_i64 ?_
      rw [← h1]
      have h2 : (((0 + 1) * 10 ^ 10 : Nat) : Int) = 10000000000 := by decide
      rw [h2] at hb
      split <;> omega
  cases l with
  | nil => exact key false [] h
  | cons b t =>
    rw [numR_cons] at h
    split at h
    · exact key true t h
    · exact key false _ h
/-- the rounds of the outer loop -/
theorem rest_err {L : List UInt8} {k : Nat} {c : UInt8} {done : List Mod} (hre : restR L = (restR (L.drop k)).map (done ++ ·)) (hd : L.drop k = c :: L.drop (k + 1)) (hm : modR c (L.drop (k + 1)) = none) : parseF L = ([], 12) := by
  rw [← parse_alike, parseR_rest]
  rw [hd, restR_cons, hm] at hre
  rw [hre]
  split <;> rfl
theorem rest_next {L : List UInt8} {k j : Nat} {c : UInt8} {done : List Mod} {m : Mod} (hre : restR L = (restR (L.drop k)).map (done ++ ·)) (hd : L.drop k = c :: L.drop (k + 1)) (hm : modR c (L.drop (k + 1)) = some (m, L.drop j)) : restR L = (restR (L.drop j)).map ((done ++ [m]) ++ ·) := by
  rw [hd, restR_cons, hm] at hre
  rw [hre]
  exact map_more done m _
theorem mod_arg {L : List UInt8} {k j : Nat} {c : UInt8} {ag : List Int} (h : argR [] (L.drop (k + 1)) = argR ag (L.drop j)) (hs : argR ag (L.drop j) = some (ag, L.drop j)) : modR c (L.drop (k + 1)) = closeR c ag (L.drop j) := by
  rw [modR_arg, h, hs]
theorem close_nil {c : UInt8} {l : List UInt8} : closeR c [] l = some (⟨c.toNat, []⟩, l) := rfl
theorem close_end {c : UInt8} {ag : List Int} (h : ag ≠ []) : closeR c ag [] = none := by unfold closeR; rw [if_neg h]; rfl
theorem close_yes {c b : UInt8} {ag : List Int} {l : List UInt8} (h : ag ≠ []) (hb : b = 41) : closeR c ag (b :: l) = some (⟨c.toNat, ag⟩, l) := by unfold closeR; rw [if_neg h, hb]; rfl
theorem close_no {c b : UInt8} {ag : List Int} {l : List UInt8} (h : ag ≠ []) (hb : b ≠ 41) : closeR c ag (b :: l) = none := by unfold closeR; rw [if_neg h, if_neg]; simpa using hb
set_option maxRecDepth 100000 in
set_option maxHeartbeats 8000000 in
theorem refParse_calls (s : ByteArray) (w : World) (hs : s.size ≤ 60000) : Calls Tryd.prog 8 #[.string s] w (ParsePost s.data.toList w) := by
  have hsl : s.size = s.data.toList.length := Lib.size_eq s
  by_cases hbig : 50000 < s.size
  · have hr : parseF s.data.toList = ([], 12) := by unfold parseF parseG; rw [if_pos (by omega)]
    have hbig' : (50000 : Int) < (s.size : Int) := by omega
    have Hr := Lib.hid hr; clear hr
    have Hsl := Lib.hid hsl; clear hsl
    go_enter Tryd.func8, Tryd.ntmps8
    go_wp2
    go_ret2
    exact parse_err Hr.out (Below.refl _ _)
  have hbig' : ¬ (50000 : Int) < (s.size : Int) := by omega
  obtain ⟨L, hL⟩ : ∃ L, s.data.toList = L := ⟨_, rfl⟩
  have hst : Hid (restR L = (restR (L.drop 0)).map ([] ++ ·)) := by
    unfold Hid
    rw [List.drop_zero]
    cases restR L <;> simp
  have hdB : ∀ (k : Nat) (h : k < s.size), L.drop k = s[k] :: L.drop (k + 1) := fun k h => by rw [← hL]; exact dropB h
  have hln : ∀ (r a : List UInt8) (j : Nat), j ≤ s.size → L.drop j = a ++ r → L.drop (s.size - r.length) = r ∧ s.size - r.length ≤ s.size ∧ j ≤ s.size - r.length := fun r a j hj h => by
    have h1 : (L.drop j).length = s.size - j := by rw [List.length_drop, ← hL, ← hsl]
    have h2 := congrArg List.length h
    rw [List.length_append, h1] at h2
    have h3 := rest_tail h
    rw [h1, List.drop_drop, show j + (s.size - j - r.length) = s.size - r.length from by omega] at h3
    exact ⟨h3, by omega, by omega⟩
  have hend : L.drop s.size = [] := List.drop_eq_nil_of_le (by rw [← hL, ← hsl]; exact Nat.le_refl _)
  have hnc : ∀ (j : Nat) (W : World), j ≤ s.size → Calls Tryd.prog 22 #[.string s, .int .i64 j] W fun e w' => e = .returned (NumV s.size (numR (L.drop j))) ∧ W = w' := fun j W hj => by rw [← hL]; exact refNumber_calls s j W hs hj
  rw [hL]
  have Hsl := Lib.hid hsl; clear hsl
  have HL := Lib.hid hL; clear hL
  have Hst := Lib.hid hst; clear hst
  have HdB := Lib.hid hdB; clear hdB
  have Hln := Lib.hid hln; clear hln
  have Hend := Lib.hid hend; clear hend
  have Hnc := Lib.hid hnc; clear hnc
  go_enter Tryd.func8, Tryd.ntmps8
  go_wp2
  go_loopw [5, 4] (fun i v wr => ∃ (k N : Nat) (done : List Mod) (A : Option Addr) (c : Nat), k ≤ s.size ∧ i = .int .i64 k ∧ v = .slice A N c ∧ N ≤ k ∧ Hid (done.length = N) ∧ Hid (Own pMod 37 w.heap.size (w.heap.size ≤ ·) wr (.slice A N c) done) ∧ w.heap.size ≤ wr.heap.size ∧ Hid (Below w.heap.size w wr) ∧ Hid (restR L = (restR (L.drop k)).map (done ++ ·))) (fun i _ _ => s.size - (intOf i).toNat)
  case atStart => exact ⟨0, 0, [], none, 0, Nat.zero_le _, rfl, rfl, Nat.le_refl _, rfl, Own.nil, Nat.le_refl _, Below.refl _ _, Hst⟩
  case round =>
    obtain ⟨k, N, done, A, c, hk, rfl, rfl, hN, hdl, hown, hsz, hb, hre⟩ := hrel
    obtain ⟨wo, rfl⟩ : ∃ wo : World, wo = wr := ⟨_, rfl⟩
    by_cases hlt : k < s.size
    case neg =>
      obtain rfl : k = s.size := by omega
      have hr := hre.out
      rw [Hend.out, restR_nil] at hr
      have hr2 : restR L = some done := by rw [hr]; simp
      have hlen : ¬ 50000 < L.length := by rw [← HL.out, ← Hsl.out]; omega
      have hpf : parseF L = if checkF done = 0 then (done, 0) else ([], 12) := by rw [← parse_alike, parseR_rest, if_neg hlen, hr2]
      have hsl2 := (hown.out.sl'.2).wide (F' := Old wo) fun q hq => hq.2
      have hrc := refCheck_calls A c done wo hsl2
      rw [hdl.out] at hrc
      have Hr := Lib.hid hr; clear hr
      have Hr2 := Lib.hid hr2; clear hr2
      have Hpf := Lib.hid hpf; clear hpf
      have Hrc := Lib.hid hrc; clear hrc
      have Hsl2 := Lib.hid hsl2; clear hsl2
      clear hlen
      go_wp2_with fail
      refine Hrc.out.mono ?_
      rintro e w1 ⟨rfl, b1⟩
      have hb1 := hb.out.trans (b1.mono hsz)
      have ho1 := hown.out.later b1
      have Hb1 := Lib.hid hb1; clear hb1
      have Ho1 := Lib.hid ho1; clear ho1
      clear b1
      by_cases hc : checkF done = 0
      · have e0 : (checkF done != 0) = false := by simp [hc]
        have hp := Hpf.out
        rw [if_pos hc] at hp
        have Hp := Lib.hid hp; clear hp
        have Hc := Lib.hid hc; clear hc
        go_wp2
        go_ret2
        exact ⟨A, c, by rw [Hp.out, hdl.out]; rfl, by rw [Hp.out, hdl.out]; exact Ho1.out, Hb1.out⟩
      · have e0 : (checkF done != 0) = true := by simp [hc]
        have hp := Hpf.out
        rw [if_neg hc] at hp
        have Hp := Lib.hid hp; clear hp
        have Hc := Lib.hid hc; clear hc
        go_wp2
        go_ret2
        exact parse_err Hp.out Hb1.out
    case pos =>
    obtain ⟨x, hx⟩ : ∃ x, (s[k].toNat : Int) = x := ⟨_, rfl⟩
    have hxf : Fits .u8 x := by rw [← hx]; exact fits_u8 (by have := s[k].toNat_lt; omega)
    have hdk := HdB.out k hlt
    obtain ⟨wq0, hwq⟩ : ∃ wq, wq = wo.alloc (.cells #[.int .u8 x, .slice none 0 0] 37) := ⟨_, rfl⟩
    have hbq0 : Below wo.heap.size wo wq0 := by rw [hwq]; exact (Below.refl _ _).alloc (Nat.le_refl _) _
    have hzq0 : wo.heap.size + 1 ≤ wq0.heap.size := by rw [hwq]; simp
    have hbm0 : Blk wq0 wo.heap.size 37 #[.int .u8 x, .slice none 0 0] := by rw [hwq]; exact Blk.new _ _ _
    have how0 : Own (pI .i64) 3 (wo.heap.size + 1) (fun _ => False) wq0 (.slice none 0 0) ([] : List Int) := Own.nil
    have Hbq0 := Lib.hid hbq0; clear hbq0
    have Hbm0 := Lib.hid hbm0; clear hbm0
    have How0 := Lib.hid how0; clear how0
    have Hdk := Lib.hid hdk; clear hdk
    have Hxf := Lib.hid hxf; clear hxf
    go_wp2
    rw [← hwq]
    have Hwq := Lib.hid hwq; clear hwq
    go_loopw [5] (fun z wr => ∃ (j n : Nat) (ag : List Int) (Dv : Option Addr) (dv : Nat), k + 1 ≤ j ∧ j ≤ s.size ∧ z = .int .i64 j ∧ n ≤ j ∧ Hid (ag.length = n) ∧ Hid (Below wo.heap.size wo wr) ∧ wo.heap.size + 1 ≤ wr.heap.size ∧ Hid (Blk wr wo.heap.size 37 #[.int .u8 x, .slice Dv n dv]) ∧
      Hid (argR [] (L.drop (k + 1)) = argR ag (L.drop j)) ∧ Hid (Own (pI .i64) 3 (wo.heap.size + 1) (fun _ => False) wr (.slice Dv n dv) ag)) (fun z _ => s.size - (intOf z).toNat)
    case atStart => exact ⟨k + 1, 0, [], none, 0, Nat.le_refl _, hlt, by go_num, Nat.zero_le _, rfl, Hbq0, hzq0, Hbm0, rfl, How0⟩
    case round =>
      obtain ⟨j, n, ag, Dv, dv, hkj, hj, rfl, hnj, han, hbq, hzq, hbm, har, how⟩ := hrel
      obtain ⟨wq, rfl⟩ : ∃ wq : World, wq = wr := ⟨_, rfl⟩
      have m0 := hbm.out.cell 0
      have m1 := hbm.out.cell 1
      have hbwq : Below w.heap.size w wq := hb.out.trans (hbq.out.mono hsz)
      have Hbwq := Lib.hid hbwq; clear hbwq
      by_cases hlj : j < s.size
      case neg =>
        obtain rfl : j = s.size := by omega
        have hstop : argR ag (L.drop s.size) = some (ag, L.drop s.size) := by rw [Hend.out]; exact argR_nil _
        have hma := mod_arg (c := s[k]) har.out hstop
        rw [Hend.out] at hma
        by_cases hn0 : n = 0
        · subst hn0
          obtain rfl : ag = [] := List.eq_nil_of_length_eq_zero han.out
          rw [close_nil, hx] at hma
          have Hstop := Lib.hid hstop; clear hstop
          have Hma := Lib.hid hma; clear hma
          have hmr : modR s[k] (L.drop (k + 1)) = some (⟨x, []⟩, L.drop (s.size)) := by
            rw [Hend.out]; exact Hma.out
          have hnx := rest_next hre.out Hdk.out hmr
          obtain ⟨A3, c9, e3, hsl3⟩ := (how.out.flat (pI_flat _) (G' := (wo.heap.size + 1 ≤ ·))).fresh
          rw [han.out] at e3
          injection e3 with e31 e32 e33
          subst e31 e33
          have hR : pMod.R (fun q => wo.heap.size + 1 ≤ q ∧ q < wq.heap.size) wq (Value.agg #[.int .u8 x, .slice Dv 0 dv]).cells.toList ⟨x, []⟩ := ⟨Dv, dv, by rw [show (⟨x, []⟩ : Mod).args.length = 0 from han.out]; rfl, Hxf.out, hsl3⟩
          have howq : Own pMod 37 w.heap.size (w.heap.size ≤ ·) wq (.slice A N c) done := hown.out.later hbq.out
          have hF : ∀ q, (wo.heap.size + 1 ≤ q ∧ q < wq.heap.size) → w.heap.size ≤ q ∧ q < wq.heap.size ∧ some q ≠ (Value.slice A N c).ownBlock := fun q hq => ⟨by omega, hq.2, fun he => by have := (hown.out.lt q he.symm).2; omega⟩
          have hlk : done.length + 1 = N + 1 := by rw [hdl.out]
          have hrk : Room done.length := room_of (by rw [hdl.out]; omega)
          have hba : w.heap.size ≤ wq.heap.size := by omega
          have Hmr := Lib.hid hmr; clear hmr
          have Hnx := Lib.hid hnx; clear hnx
          have HR := Lib.hid hR; clear hR
          have Howq := Lib.hid howq; clear howq
          have HF := Lib.hid hF; clear hF
          have Hlk := Lib.hid hlk; clear hlk
          have Hrk := Lib.hid hrk; clear hrk
          have Hsl3 := Lib.hid hsl3; clear hsl3
          clear m0 m1
          have m2 := hbm.out.cell 0
          have m3 := hbm.out.cell 1
          go_wp2_with ((with_reducible show wpList _ _ _ (Oper.mk (some 86) _ _ _ _ _ :: _) _ _); refine wpList_pushG (E := pMod) (xs := done) (v := .slice A N c) (base := w.heap.size) (G := (w.heap.size ≤ ·)) 22 37 (.agg #[.int .u8 0, .slice none 0 0]) 32 86 (.tmp 84) (.tmp 85) rfl rfl rfl rfl rfl Tryd.underlying22 info_mod rfl (by decide) (fun _ => rfl) (fun _ => rfl) Howq.out (.agg #[.int .u8 x, .slice Dv 0 dv]) rfl ⟨x, []⟩ (fun q => wo.heap.size + 1 ≤ q ∧ q < wq.heap.size) HR.out HF.out (N + 1) Hlk.out Hrk.out ⟨by decide, by decide⟩ hba ?_; intro A6 c6 w6 hown6 hg6)
          go_roundw
          case rel =>
            have hz6 := hg6.out.bel.size
            exact ⟨s.size, N + 1, done ++ [⟨x, []⟩], A6, c6, by omega, by go_num, rfl, by omega, by unfold Hid; rw [List.length_append, hdl.out]; rfl, hown6, by omega, Hbwq.out.trans hg6.out.bel, Hnx⟩
          case measure => simp [intOf]; omega
        · have hne : ag ≠ [] := fun e => hn0 (by rw [← han.out, e]; rfl)
          have hn1 : 0 < n := by omega
          rw [close_end hne] at hma
          have Hstop := Lib.hid hstop; clear hstop
          have Hma := Lib.hid hma; clear hma
          have Hne := Lib.hid hne; clear hne
          have hmr : modR s[k] (L.drop (k + 1)) = none := by exact Hma.out
          have hpe := rest_err hre.out Hdk.out hmr
          have Hpe := Lib.hid hpe; clear hpe
          have Hmr := Lib.hid hmr; clear hmr
          go_wp2
          all_goals
            go_ret2
            exact parse_err Hpe.out Hbwq.out
      case pos =>
      obtain ⟨y, hy⟩ : ∃ y, (s[j].toNat : Int) = y := ⟨_, rfl⟩
      have hdj := HdB.out j hlj
      have ej : ((j : Int) == (s.size : Int)) = false := by simp; omega
      by_cases hn0 : n = 0
      case pos =>
        subst hn0
        obtain rfl : ag = [] := List.eq_nil_of_length_eq_zero han.out
        by_cases h40 : y = 40
        case neg =>
          have hstop : argR [] (L.drop j) = some ([], L.drop j) := by
            rw [hdj]
            exact argR_stop (by rintro (⟨h, _⟩ | ⟨_, h⟩); exact h40 (by rw [← hy, h]; rfl); exact h rfl)
          have hma := mod_arg (c := s[k]) har.out hstop
          rw [close_nil, hx] at hma
          have e40 : (y == 40) = false := by simpa using h40
          have Hstop := Lib.hid hstop; clear hstop
          have Hma := Lib.hid hma; clear hma
          have Hdj := Lib.hid hdj; clear hdj
          by_cases h44 : y = 44
          · subst h44
            have hmr : modR s[k] (L.drop (k + 1)) = some (⟨x, []⟩, L.drop (j)) := by
              exact Hma.out
            have hnx := rest_next hre.out Hdk.out hmr
            obtain ⟨A3, c9, e3, hsl3⟩ := (how.out.flat (pI_flat _) (G' := (wo.heap.size + 1 ≤ ·))).fresh
            rw [han.out] at e3
            injection e3 with e31 e32 e33
            subst e31 e33
            have hR : pMod.R (fun q => wo.heap.size + 1 ≤ q ∧ q < wq.heap.size) wq (Value.agg #[.int .u8 x, .slice Dv 0 dv]).cells.toList ⟨x, []⟩ := ⟨Dv, dv, by rw [show (⟨x, []⟩ : Mod).args.length = 0 from han.out]; rfl, Hxf.out, hsl3⟩
            have howq : Own pMod 37 w.heap.size (w.heap.size ≤ ·) wq (.slice A N c) done := hown.out.later hbq.out
            have hF : ∀ q, (wo.heap.size + 1 ≤ q ∧ q < wq.heap.size) → w.heap.size ≤ q ∧ q < wq.heap.size ∧ some q ≠ (Value.slice A N c).ownBlock := fun q hq => ⟨by omega, hq.2, fun he => by have := (hown.out.lt q he.symm).2; omega⟩
            have hlk : done.length + 1 = N + 1 := by rw [hdl.out]
            have hrk : Room done.length := room_of (by rw [hdl.out]; omega)
            have hba : w.heap.size ≤ wq.heap.size := by omega
            have Hmr := Lib.hid hmr; clear hmr
            have Hnx := Lib.hid hnx; clear hnx
            have HR := Lib.hid hR; clear hR
            have Howq := Lib.hid howq; clear howq
            have HF := Lib.hid hF; clear hF
            have Hlk := Lib.hid hlk; clear hlk
            have Hrk := Lib.hid hrk; clear hrk
            have Hsl3 := Lib.hid hsl3; clear hsl3
            clear m0 m1
            have m2 := hbm.out.cell 0
            have m3 := hbm.out.cell 1
            go_wp2_with ((with_reducible show wpList _ _ _ (Oper.mk (some 86) _ _ _ _ _ :: _) _ _); refine wpList_pushG (E := pMod) (xs := done) (v := .slice A N c) (base := w.heap.size) (G := (w.heap.size ≤ ·)) 22 37 (.agg #[.int .u8 0, .slice none 0 0]) 32 86 (.tmp 84) (.tmp 85) rfl rfl rfl rfl rfl Tryd.underlying22 info_mod rfl (by decide) (fun _ => rfl) (fun _ => rfl) Howq.out (.agg #[.int .u8 x, .slice Dv 0 dv]) rfl ⟨x, []⟩ (fun q => wo.heap.size + 1 ≤ q ∧ q < wq.heap.size) HR.out HF.out (N + 1) Hlk.out Hrk.out ⟨by decide, by decide⟩ hba ?_; intro A6 c6 w6 hown6 hg6)
            go_roundw
            case rel =>
              have hz6 := hg6.out.bel.size
              exact ⟨j, N + 1, done ++ [⟨x, []⟩], A6, c6, by omega, by go_num, rfl, by omega, by unfold Hid; rw [List.length_append, hdl.out]; rfl, hown6, by omega, Hbwq.out.trans hg6.out.bel, Hnx⟩
            case measure => simp [intOf]; omega
          · have e44 : (y == 44) = false := by simpa using h44
            have hmr : modR s[k] (L.drop (k + 1)) = some (⟨x, []⟩, L.drop (j)) := by
              exact Hma.out
            have hnx := rest_next hre.out Hdk.out hmr
            obtain ⟨A3, c9, e3, hsl3⟩ := (how.out.flat (pI_flat _) (G' := (wo.heap.size + 1 ≤ ·))).fresh
            rw [han.out] at e3
            injection e3 with e31 e32 e33
            subst e31 e33
            have hR : pMod.R (fun q => wo.heap.size + 1 ≤ q ∧ q < wq.heap.size) wq (Value.agg #[.int .u8 x, .slice Dv 0 dv]).cells.toList ⟨x, []⟩ := ⟨Dv, dv, by rw [show (⟨x, []⟩ : Mod).args.length = 0 from han.out]; rfl, Hxf.out, hsl3⟩
            have howq : Own pMod 37 w.heap.size (w.heap.size ≤ ·) wq (.slice A N c) done := hown.out.later hbq.out
            have hF : ∀ q, (wo.heap.size + 1 ≤ q ∧ q < wq.heap.size) → w.heap.size ≤ q ∧ q < wq.heap.size ∧ some q ≠ (Value.slice A N c).ownBlock := fun q hq => ⟨by omega, hq.2, fun he => by have := (hown.out.lt q he.symm).2; omega⟩
            have hlk : done.length + 1 = N + 1 := by rw [hdl.out]
            have hrk : Room done.length := room_of (by rw [hdl.out]; omega)
            have hba : w.heap.size ≤ wq.heap.size := by omega
            have Hmr := Lib.hid hmr; clear hmr
            have Hnx := Lib.hid hnx; clear hnx
            have HR := Lib.hid hR; clear hR
            have Howq := Lib.hid howq; clear howq
            have HF := Lib.hid hF; clear hF
            have Hlk := Lib.hid hlk; clear hlk
            have Hrk := Lib.hid hrk; clear hrk
            have Hsl3 := Lib.hid hsl3; clear hsl3
            clear m0 m1
            have m2 := hbm.out.cell 0
            have m3 := hbm.out.cell 1
            go_wp2_with ((with_reducible show wpList _ _ _ (Oper.mk (some 86) _ _ _ _ _ :: _) _ _); refine wpList_pushG (E := pMod) (xs := done) (v := .slice A N c) (base := w.heap.size) (G := (w.heap.size ≤ ·)) 22 37 (.agg #[.int .u8 0, .slice none 0 0]) 32 86 (.tmp 84) (.tmp 85) rfl rfl rfl rfl rfl Tryd.underlying22 info_mod rfl (by decide) (fun _ => rfl) (fun _ => rfl) Howq.out (.agg #[.int .u8 x, .slice Dv 0 dv]) rfl ⟨x, []⟩ (fun q => wo.heap.size + 1 ≤ q ∧ q < wq.heap.size) HR.out HF.out (N + 1) Hlk.out Hrk.out ⟨by decide, by decide⟩ hba ?_; intro A6 c6 w6 hown6 hg6)
            go_roundw
            case rel =>
              have hz6 := hg6.out.bel.size
              exact ⟨j, N + 1, done ++ [⟨x, []⟩], A6, c6, by omega, by go_num, rfl, by omega, by unfold Hid; rw [List.length_append, hdl.out]; rfl, hown6, by omega, Hbwq.out.trans hg6.out.bel, Hnx⟩
            case measure => simp [intOf]; omega
        case pos =>
          subst h40
          have hstep := argR_step (ag := []) (b := s[j]) (r := L.drop (j + 1)) (.inl ⟨byte_eq (n := 40) (by decide) hy, rfl⟩)
          rw [← hdj, ← har.out] at hstep
          have hnum := Hnc.out (j + 1)
          have ej1 : ((j : Int) + 1) = ((j + 1 : Nat) : Int) := by omega
          rcases hnr : numR (L.drop (j + 1)) with _ | ⟨v, r⟩
          · rw [hnr] at hstep
            have hmr : modR s[k] (L.drop (k + 1)) = none := by rw [modR_arg, hstep]
            have hpe := rest_err hre.out Hdk.out hmr
            have hcl : ∀ W, Calls Tryd.prog 22 #[.string s, .int .i64 ((j : Int) + 1)] W fun e w' => e = .returned (.tuple #[.int .i64 0, .int .i64 0, .bool false]) ∧ W = w' := fun W => by have := hnum W hlj; rwa [hnr, ← ej1] at this
            have Hstep := Lib.hid hstep; clear hstep
            have Hmr := Lib.hid hmr; clear hmr
            have Hpe := Lib.hid hpe; clear hpe
            have Hcl := Lib.hid hcl; clear hcl
            have Hnum := Lib.hid hnum; clear hnum
            have Hnr := Lib.hid hnr; clear hnr
            have Hdj := Lib.hid hdj; clear hdj
            clear ej1
            go_wp2_with fail
            refine (Hcl.out _).mono ?_
            rintro e w' ⟨rfl, rfl⟩
            go_wp2
            go_ret2
            exact parse_err Hpe.out Hbwq.out
          · rw [hnr] at hstep
            simp only at hstep
            obtain ⟨ht1, ht2⟩ := numR_text hnr
            obtain ⟨g1, g2, g3⟩ := Hln.out r _ (j + 1) hlj ht1
            have hrl : r.length < s.size := by
              have : (L.drop (j + 1)).length = s.size - (j + 1) := by rw [List.length_drop, ← HL.out, ← Hsl.out]
              omega
            obtain ⟨q, hq⟩ : ∃ q, s.size - r.length = q := ⟨_, rfl⟩
            rw [hq] at g1 g2 g3
            have hcl : ∀ W, Calls Tryd.prog 22 #[.string s, .int .i64 ((j : Int) + 1)] W fun e w' => e = .returned (.tuple #[.int .i64 v, .int .i64 q, .bool true]) ∧ W = w' := fun W => by
              have := hnum W hlj
              rw [hnr, ← ej1] at this
              unfold NumV at this
              simp only [hq] at this
              exact this
            rw [← g1] at hstep
            have hvf : Fits .i64 v := numR_fits hnr
            have hln5 : ([] : List Int).length + 1 = 0 + 1 := by rw [han.out]
            have hrm5 : Room ([] : List Int).length := room_of (by rw [han.out]; omega)
            have hlt5 : wo.heap.size < wq.heap.size := by omega
            have hne5 : some wo.heap.size ≠ (Value.slice Dv 0 dv).ownBlock := fun he => by have := how.out.lt _ he.symm; omega
            have hRv : (pI .i64).R (fun _ => False) wq (Value.int .i64 v).cells.toList v := ⟨rfl, hvf⟩
            have Hstep := Lib.hid hstep; clear hstep
            have Hcl := Lib.hid hcl; clear hcl
            have Hnum := Lib.hid hnum; clear hnum
            have Hnr := Lib.hid hnr; clear hnr
            have Hdj := Lib.hid hdj; clear hdj
            have Hln5 := Lib.hid hln5; clear hln5
            have Hrm5 := Lib.hid hrm5; clear hrm5
            have Hne5 := Lib.hid hne5; clear hne5
            have HRv := Lib.hid hRv; clear hRv
            have Ht1 := Lib.hid ht1; clear ht1
            have Hq := Lib.hid hq; clear hq
            have G1 := Lib.hid g1; clear g1
            clear ej1
            go_wp2_with fail
            refine (Hcl.out _).mono ?_
            rintro e w' ⟨rfl, rfl⟩
            go_wp2_with ((with_reducible show wpList _ _ _ (Oper.mk (some 64) _ _ _ _ _ :: _) _ _); refine wpList_pushG (E := pI .i64) (xs := []) (v := .slice Dv 0 dv) (base := wo.heap.size + 1) (G := fun _ => False) 35 3 (.int .i64 0) 8 64 (.tmp 62) (.tmp 63) rfl rfl rfl rfl rfl Tryd.underlying35 (by kernel_rfl) rfl (by decide) (fun _ => rfl) (fun _ => rfl) how.out (.int .i64 v) rfl v (fun _ => False) HRv.out (fun _ h => h.elim) (0 + 1) Hln5.out Hrm5.out ⟨by decide, by decide⟩ hzq ?_; intro A10 c10 w7 hown7 hg7; have hbm7 := hbm.out.same (hg7.out.oth _ hlt5 Hne5.out); have x7 := hbm7.cell 1; have f7 := hbm7.free 1; have Hbm7 := Lib.hid hbm7; clear hbm7)
            go_roundw
            case rel =>
              have hz7 := hg7.out.bel.size
              have hs70 : ∀ v, (w7.setCell ⟨wo.heap.size, 1, none⟩ v).heap.size = w7.heap.size := fun v => by simp [World.setCell]
              have hs7 := hs70 (.slice A10 (0 + 1) c10)
              have hs8 := hs70 (.slice A10 1 c10)
              refine ⟨q, 0 + 1, [] ++ [v], A10, c10, by omega, g2, rfl, by omega, by unfold Hid; rw [List.length_append, han.out]; rfl, ?_, by omega, ?_, Hstep, ?_⟩
              · exact (hbq.out.trans (hg7.out.bel.mono (by omega))).setCell (by show wo.heap.size ≤ wo.heap.size; omega) _
              · have := Hbm7.out.set 1 (.slice A10 (0 + 1) c10)
                unfold Hid
                simpa using this
              · refine hown7.out.keepG (fun z hz hG => Below.heap_setCell _ _ _ _ ?_) (by omega)
                rcases hG with hG | hG
                · exact hG.elim
                · have := hown7.out.lt z hG
                  show z ≠ wo.heap.size
                  omega
            case measure => simp [intOf]; omega
      case neg =>
        have hne : ag ≠ [] := fun e => hn0 (by rw [← han.out, e]; rfl)
        have hn1 : 0 < n := by omega
        have en : ((n : Int) == 0) = false := by simp; omega
        by_cases h44 : y = 44
        case pos =>
          subst h44
          have e40 : ((44 : Int) == 40) = false := rfl
          have hstep := argR_step (ag := ag) (b := s[j]) (r := L.drop (j + 1)) (.inr ⟨byte_eq (n := 44) (by decide) hy, hne⟩)
          rw [← hdj, ← har.out] at hstep
          have hnum := Hnc.out (j + 1)
          have ej1 : ((j : Int) + 1) = ((j + 1 : Nat) : Int) := by omega
          rcases hnr : numR (L.drop (j + 1)) with _ | ⟨v, r⟩
          · rw [hnr] at hstep
            have hmr : modR s[k] (L.drop (k + 1)) = none := by rw [modR_arg, hstep]
            have hpe := rest_err hre.out Hdk.out hmr
            have hcl : ∀ W, Calls Tryd.prog 22 #[.string s, .int .i64 ((j : Int) + 1)] W fun e w' => e = .returned (.tuple #[.int .i64 0, .int .i64 0, .bool false]) ∧ W = w' := fun W => by have := hnum W hlj; rwa [hnr, ← ej1] at this
            have Hstep := Lib.hid hstep; clear hstep
            have Hmr := Lib.hid hmr; clear hmr
            have Hpe := Lib.hid hpe; clear hpe
            have Hcl := Lib.hid hcl; clear hcl
            have Hnum := Lib.hid hnum; clear hnum
            have Hnr := Lib.hid hnr; clear hnr
            have Hdj := Lib.hid hdj; clear hdj
            clear ej1
            go_wp2_with fail
            refine (Hcl.out _).mono ?_
            rintro e w' ⟨rfl, rfl⟩
            go_wp2
            go_ret2
            exact parse_err Hpe.out Hbwq.out
          · rw [hnr] at hstep
            simp only at hstep
            obtain ⟨ht1, ht2⟩ := numR_text hnr
            obtain ⟨g1, g2, g3⟩ := Hln.out r _ (j + 1) hlj ht1
            have hrl : r.length < s.size := by
              have : (L.drop (j + 1)).length = s.size - (j + 1) := by rw [List.length_drop, ← HL.out, ← Hsl.out]
              omega
            obtain ⟨q, hq⟩ : ∃ q, s.size - r.length = q := ⟨_, rfl⟩
            rw [hq] at g1 g2 g3
            have hcl : ∀ W, Calls Tryd.prog 22 #[.string s, .int .i64 ((j : Int) + 1)] W fun e w' => e = .returned (.tuple #[.int .i64 v, .int .i64 q, .bool true]) ∧ W = w' := fun W => by
              have := hnum W hlj
              rw [hnr, ← ej1] at this
              unfold NumV at this
              simp only [hq] at this
              exact this
            rw [← g1] at hstep
            have hvf : Fits .i64 v := numR_fits hnr
            have hln5 : (ag : List Int).length + 1 = n + 1 := by rw [han.out]
            have hrm5 : Room (ag : List Int).length := room_of (by rw [han.out]; omega)
            have hlt5 : wo.heap.size < wq.heap.size := by omega
            have hne5 : some wo.heap.size ≠ (Value.slice Dv n dv).ownBlock := fun he => by have := how.out.lt _ he.symm; omega
            have hRv : (pI .i64).R (fun _ => False) wq (Value.int .i64 v).cells.toList v := ⟨rfl, hvf⟩
            have Hstep := Lib.hid hstep; clear hstep
            have Hcl := Lib.hid hcl; clear hcl
            have Hnum := Lib.hid hnum; clear hnum
            have Hnr := Lib.hid hnr; clear hnr
            have Hdj := Lib.hid hdj; clear hdj
            have Hln5 := Lib.hid hln5; clear hln5
            have Hrm5 := Lib.hid hrm5; clear hrm5
            have Hne5 := Lib.hid hne5; clear hne5
            have HRv := Lib.hid hRv; clear hRv
            have Ht1 := Lib.hid ht1; clear ht1
            have Hq := Lib.hid hq; clear hq
            have G1 := Lib.hid g1; clear g1
            clear ej1
            go_wp2_with fail
            refine (Hcl.out _).mono ?_
            rintro e w' ⟨rfl, rfl⟩
            go_wp2_with ((with_reducible show wpList _ _ _ (Oper.mk (some 64) _ _ _ _ _ :: _) _ _); refine wpList_pushG (E := pI .i64) (xs := ag) (v := .slice Dv n dv) (base := wo.heap.size + 1) (G := fun _ => False) 35 3 (.int .i64 0) 8 64 (.tmp 62) (.tmp 63) rfl rfl rfl rfl rfl Tryd.underlying35 (by kernel_rfl) rfl (by decide) (fun _ => rfl) (fun _ => rfl) how.out (.int .i64 v) rfl v (fun _ => False) HRv.out (fun _ h => h.elim) (n + 1) Hln5.out Hrm5.out ⟨by decide, by decide⟩ hzq ?_; intro A10 c10 w7 hown7 hg7; have hbm7 := hbm.out.same (hg7.out.oth _ hlt5 Hne5.out); have x7 := hbm7.cell 1; have f7 := hbm7.free 1; have Hbm7 := Lib.hid hbm7; clear hbm7)
            go_roundw
            case rel =>
              have hz7 := hg7.out.bel.size
              have hs70 : ∀ v, (w7.setCell ⟨wo.heap.size, 1, none⟩ v).heap.size = w7.heap.size := fun v => by simp [World.setCell]
              have hs7 := hs70 (.slice A10 (n + 1) c10)
              have hs8 := hs70 (.slice A10 1 c10)
              refine ⟨q, n + 1, ag ++ [v], A10, c10, by omega, g2, rfl, by omega, by unfold Hid; rw [List.length_append, han.out]; rfl, ?_, by omega, ?_, Hstep, ?_⟩
              · exact (hbq.out.trans (hg7.out.bel.mono (by omega))).setCell (by show wo.heap.size ≤ wo.heap.size; omega) _
              · have := Hbm7.out.set 1 (.slice A10 (n + 1) c10)
                unfold Hid
                simpa using this
              · refine hown7.out.keepG (fun z hz hG => Below.heap_setCell _ _ _ _ ?_) (by omega)
                rcases hG with hG | hG
                · exact hG.elim
                · have := hown7.out.lt z hG
                  show z ≠ wo.heap.size
                  omega
            case measure => simp [intOf]; omega
        case neg =>
          have hstop : argR ag (L.drop j) = some (ag, L.drop j) := by
            rw [hdj]
            exact argR_stop (by rintro (⟨_, h⟩ | ⟨h, _⟩); exact hne h; exact h44 (by rw [← hy, h]; rfl))
          have hma := mod_arg (c := s[k]) har.out hstop
          have e44 : (y == 44) = false := by simpa using h44
          rw [hdj] at hma
          by_cases h41 : y = 41
          case pos =>
            rw [close_yes hne (byte_eq (n := 41) (by decide) (by rw [hy, h41]; rfl)), hx] at hma
            subst h41
            have Hstop := Lib.hid hstop; clear hstop
            have Hma := Lib.hid hma; clear hma
            have Hdj := Lib.hid hdj; clear hdj
            have Hne := Lib.hid hne; clear hne
            have hmr : modR s[k] (L.drop (k + 1)) = some (⟨x, ag⟩, L.drop (j + 1)) := by
              exact Hma.out
            have hnx := rest_next hre.out Hdk.out hmr
            obtain ⟨A3, c9, e3, hsl3⟩ := (how.out.flat (pI_flat _) (G' := (wo.heap.size + 1 ≤ ·))).fresh
            rw [han.out] at e3
            injection e3 with e31 e32 e33
            subst e31 e33
            have hR : pMod.R (fun q => wo.heap.size + 1 ≤ q ∧ q < wq.heap.size) wq (Value.agg #[.int .u8 x, .slice Dv n dv]).cells.toList ⟨x, ag⟩ := ⟨Dv, dv, by rw [show (⟨x, ag⟩ : Mod).args.length = n from han.out]; rfl, Hxf.out, hsl3⟩
            have howq : Own pMod 37 w.heap.size (w.heap.size ≤ ·) wq (.slice A N c) done := hown.out.later hbq.out
            have hF : ∀ q, (wo.heap.size + 1 ≤ q ∧ q < wq.heap.size) → w.heap.size ≤ q ∧ q < wq.heap.size ∧ some q ≠ (Value.slice A N c).ownBlock := fun q hq => ⟨by omega, hq.2, fun he => by have := (hown.out.lt q he.symm).2; omega⟩
            have hlk : done.length + 1 = N + 1 := by rw [hdl.out]
            have hrk : Room done.length := room_of (by rw [hdl.out]; omega)
            have hba : w.heap.size ≤ wq.heap.size := by omega
            have Hmr := Lib.hid hmr; clear hmr
            have Hnx := Lib.hid hnx; clear hnx
            have HR := Lib.hid hR; clear hR
            have Howq := Lib.hid howq; clear howq
            have HF := Lib.hid hF; clear hF
            have Hlk := Lib.hid hlk; clear hlk
            have Hrk := Lib.hid hrk; clear hrk
            have Hsl3 := Lib.hid hsl3; clear hsl3
            clear m0 m1
            have m2 := hbm.out.cell 0
            have m3 := hbm.out.cell 1
            go_wp2_with ((with_reducible show wpList _ _ _ (Oper.mk (some 86) _ _ _ _ _ :: _) _ _); refine wpList_pushG (E := pMod) (xs := done) (v := .slice A N c) (base := w.heap.size) (G := (w.heap.size ≤ ·)) 22 37 (.agg #[.int .u8 0, .slice none 0 0]) 32 86 (.tmp 84) (.tmp 85) rfl rfl rfl rfl rfl Tryd.underlying22 info_mod rfl (by decide) (fun _ => rfl) (fun _ => rfl) Howq.out (.agg #[.int .u8 x, .slice Dv n dv]) rfl ⟨x, ag⟩ (fun q => wo.heap.size + 1 ≤ q ∧ q < wq.heap.size) HR.out HF.out (N + 1) Hlk.out Hrk.out ⟨by decide, by decide⟩ hba ?_; intro A6 c6 w6 hown6 hg6)
            go_roundw
            case rel =>
              have hz6 := hg6.out.bel.size
              exact ⟨j + 1, N + 1, done ++ [⟨x, ag⟩], A6, c6, by omega, by go_num, rfl, by omega, by unfold Hid; rw [List.length_append, hdl.out]; rfl, hown6, by omega, Hbwq.out.trans hg6.out.bel, Hnx⟩
            case measure => simp [intOf]; omega
          case neg =>
            rw [close_no hne (byte_ne (n := 41) (by decide) (by rw [hy]; exact h41))] at hma
            have e41 : (y != 41) = true := by simpa using h41
            have Hstop := Lib.hid hstop; clear hstop
            have Hma := Lib.hid hma; clear hma
            have Hdj := Lib.hid hdj; clear hdj
            have Hne := Lib.hid hne; clear hne
            by_cases h40 : y = 40
            · subst h40
              have hmr : modR s[k] (L.drop (k + 1)) = none := by exact Hma.out
              have hpe := rest_err hre.out Hdk.out hmr
              have Hpe := Lib.hid hpe; clear hpe
              have Hmr := Lib.hid hmr; clear hmr
              go_wp2
              all_goals
                go_ret2
                exact parse_err Hpe.out Hbwq.out
            · have e40 : (y == 40) = false := by simpa using h40
              have hmr : modR s[k] (L.drop (k + 1)) = none := by exact Hma.out
              have hpe := rest_err hre.out Hdk.out hmr
              have Hpe := Lib.hid hpe; clear hpe
              have Hmr := Lib.hid hmr; clear hmr
              go_wp2
              all_goals
                go_ret2
                exact parse_err Hpe.out Hbwq.out
end Go.Proofs.YtfakcccfadeknaaDoor
