/-
  Layer 42: the walk of the reference's best.
-/
import Derived.Test.YtckffdaomjbglaaIg
namespace Go.Proofs.Ytckffdaomjbglaa
open Go.RowKit Go.Sort Go.BigFrame

def PairAt (l : List Int) (k : Nat) (u v : Int) : Prop := ∃ i, i < k ∧ l[i]? = some u ∧ l[i + 1]? = some v ∧ plainC u = true ∧ plainC v = true
theorem pairAt_zero {l : List Int} {u v : Int} : PairAt l 0 u v ↔ False := ⟨fun ⟨i, h, _⟩ => by omega, False.elim⟩
theorem pairAt_no {l : List Int} {k : Nat} {x y : Int} (h1 : l[k]? = some x) (h2 : l[k + 1]? = some y) (h : plainC x = false ∨ plainC y = false) (u v : Int) : PairAt l k u v ↔ PairAt l (k + 1) u v := by
  refine ⟨fun ⟨i, hi, r⟩ => ⟨i, by omega, r⟩, fun ⟨i, hi, r1, r2, r3, r4⟩ => ?_⟩
  by_cases he : i = k
  · subst he
    rw [h1] at r1; rw [h2] at r2
    cases r1; cases r2
    rcases h with h | h
    · rw [h] at r3; cases r3
    · rw [h] at r4; cases r4
  · exact ⟨i, by omega, r1, r2, r3, r4⟩
theorem pairAt_yes {l : List Int} {k : Nat} {x y : Int} (h1 : l[k]? = some x) (h2 : l[k + 1]? = some y) (hx : plainC x = true) (hy : plainC y = true) (u v : Int) : (PairAt l k u v ∨ (u = x ∧ v = y)) ↔ PairAt l (k + 1) u v := by
  refine ⟨?_, fun ⟨i, hi, r1, r2, r3, r4⟩ => ?_⟩
  · rintro (⟨i, hi, r⟩ | ⟨rfl, rfl⟩)
    · exact ⟨i, by omega, r⟩
    · exact ⟨k, by omega, h1, h2, hx, hy⟩
  · by_cases he : i = k
    · subst he
      rw [h1] at r1; rw [h2] at r2
      cases r1; cases r2
      exact .inr ⟨rfl, rfl⟩
    · exact .inl ⟨i, by omega, r1, r2, r3, r4⟩
theorem pairAt_end {l : List Int} {k : Nat} (h : l.length ≤ k + 1) (hk : k ≤ l.length) (u v : Int) : PairAt l k u v ↔ PairAt l l.length u v := by
  refine ⟨fun ⟨i, hi, r⟩ => ⟨i, by omega, r⟩, fun ⟨i, hi, r1, r2, r3, r4⟩ => ⟨i, ?_, r1, r2, r3, r4⟩⟩
  have := (List.getElem?_eq_some_iff.1 r2).1
  omega
/-- the comparison's ways -/
theorem ahead_ways (a b n x y m : Int) : (ahead a b n x y m = true ∧ n < m) ∨ (¬ n < m ∧ ((ahead a b n x y m = false ∧ (m == n) = false) ∨ ((m == n) = true ∧ ((ahead a b n x y m = true ∧ x < a) ∨ (¬ x < a ∧ ((ahead a b n x y m = false ∧ (x == a) = false) ∨ ((x == a) = true ∧ ((ahead a b n x y m = true ∧ y < b) ∨ (ahead a b n x y m = false ∧ ¬ y < b))))))))) := by
  have h := ahead_iff (a := a) (b := b) (n := n) (x := x) (y := y) (m := m)
  cases hh : ahead a b n x y m
  · rw [hh] at h
    simp only [Bool.false_eq_true, false_iff, not_or] at h
    simp only [beq_eq_false_iff_ne, beq_iff_eq, ne_eq, Bool.false_eq_true, false_and, true_and, false_or]
    omega
  · rw [hh] at h
    simp only [true_iff] at h
    simp only [beq_eq_false_iff_ne, beq_iff_eq, ne_eq, Bool.true_eq_false, false_and, true_and, false_or, or_false]
    omega

def BestPost (l : List Int) (w : World) (e : Ending) (w' : World) : Prop :=
  ∃ a b n, e = .returned (.tuple #[.int .u8 a, .int .u8 b, .int .i64 n]) ∧ Hid (BestOf (PairAt l l.length) (fun u v => cntR u v l) a b n) ∧ 0 ≤ n ∧ n ≤ l.length ∧ Below w.heap.size w w'
set_option maxRecDepth 100000 in
set_option maxHeartbeats 4000000 in
theorem refBest_calls (A : Option Addr) (c : Nat) (ms : List Mod) (w : World) (h : SlAt pMod (Old w) w A c ms) (hl : ms.length ≤ 100000) : Calls Try.prog 18 #[.slice A ms.length c] w (BestPost (ms.map Mod.name) w) := by
  have hmx := h.lenle
  have hln : (ms.map Mod.name).length = ms.length := List.length_map ..
  have hst : BestOf (PairAt (ms.map Mod.name) 0) (fun u v => cntR u v (ms.map Mod.name)) 0 0 0 := (BestOf.start _).congr fun u v => pairAt_zero.symm
  have hgl : ∀ W, (∃ d, W = w.drewN d) → SlAt pMod (Old w) W A c ms := fun W ⟨d, hd⟩ => h.keep fun q _ => by rw [hd]; rfl
  have H := Lib.hid h; clear h
  have Hln := Lib.hid hln; clear hln
  have Hst := Lib.hid hst; clear hst
  have Hgl := Lib.hid hgl; clear hgl
  go_enter Try.func18, Try.ntmps18
  go_wp2
  go_loopw [8, 5, 6, 7] (fun i av bv nv wr => ∃ (k : Nat) (a b n : Int), k ≤ ms.length ∧ i = .int .i64 k ∧ av = .int .u8 a ∧ bv = .int .u8 b ∧ nv = .int .i64 n ∧ 0 ≤ n ∧ n ≤ ms.length ∧ Hid (∃ d, wr = w.drewN d) ∧
    Hid (BestOf (PairAt (ms.map Mod.name) k) (fun u v => cntR u v (ms.map Mod.name)) a b n)) (fun i _ _ _ _ => ms.length - (intOf i).toNat)
  case atStart => exact ⟨0, 0, 0, 0, Nat.zero_le _, rfl, rfl, rfl, rfl, Int.le_refl _, by omega, ⟨0, rfl⟩, Hst⟩
  case round =>
    obtain ⟨k, a, b, n, hk, rfl, rfl, rfl, rfl, hn0, hn1, hw, hbest⟩ := hrel
    obtain ⟨wo, rfl⟩ : ∃ wo : World, wo = wr := ⟨_, rfl⟩
    by_cases hlt : k + 1 < ms.length
    case neg =>
      have hfin : BestOf (PairAt (ms.map Mod.name) (ms.map Mod.name).length) (fun u v => cntR u v (ms.map Mod.name)) a b n := hbest.out.congr fun u v => pairAt_end (by rw [Hln.out]; omega) (by rw [Hln.out]; exact hk) u v
      have hbw : Below w.heap.size w wo := by obtain ⟨d, rfl⟩ := hw.out; exact below_drewN (Below.refl _ _) d
      have Hfin := Lib.hid hfin; clear hfin
      have Hbw := Lib.hid hbw; clear hbw
      go_wp2
      go_ret3
      exact ⟨a, b, n, rfl, Hfin, hn0, by rw [Hln.out]; exact hn1, Hbw.out⟩
    case pos =>
      obtain ⟨b4, o4, D, d, m, hd, hB, hob, q0, q1, hx8, hxa, hxl⟩ := (Hgl.out wo hw.out).getMod (i := k) (by omega)
      obtain ⟨b', o', D', d', m', hd', hB', hob', q0', q1', hx8', hxa', hxl'⟩ := (Hgl.out wo hw.out).getMod (i := k + 1) hlt
      subst hB
      cases hB'
      have hg1 : (ms.map Mod.name)[k]? = some m.name := by rw [List.getElem?_map, get_of_drop hd.out]; rfl
      have hg2 : (ms.map Mod.name)[k + 1]? = some m'.name := by rw [List.getElem?_map, get_of_drop hd'.out]; rfl
      have hk0 : (0 : Int) ≤ (k : Int) := Int.natCast_nonneg _
      have hk1 : (k : Int) < (ms.length : Int) := by omega
      have hk2 : (k : Int) + 1 < (ms.length : Int) := by omega
      have hcp := fun (c : Int) (W : World) => refPlainB_calls c W
      have hcc := fun (W : World) (hW : ∃ d, W = w.drewN d) => refPairs_calls (F := Old w) _ c ms m.name m'.name W (Hgl.out W hW) hl
      have hpos := cntR_pos m.name m'.name (ms.map Mod.name).length (ms.map Mod.name) k (Nat.le_refl _) hg1 hg2
      have hcl := (cntR_nonneg m.name m'.name (ms.map Mod.name).length (ms.map Mod.name) (Nat.le_refl _)).2
      rw [Hln.out] at hcl
      have hnx := fun hh => hbest.out.congr (pairAt_no hg1 hg2 hh)
      have hmo := hbest.out.more (x := m.name) (y := m'.name) hn0 (by show 0 < cntR m.name m'.name (ms.map Mod.name); omega)
      have hyes := fun h1 h2 => pairAt_yes hg1 hg2 h1 h2
      obtain ⟨v, hv⟩ : ∃ v, cntR m.name m'.name (ms.map Mod.name) = v := ⟨_, rfl⟩
      simp only [hv] at hcc hmo hpos hcl
      have hwy := ahead_ways a b n m.name m'.name v
      clear q1 q1'
      have Hd := Lib.hid hd; clear hd
      have Hd' := Lib.hid hd'; clear hd'
      have Hg1 := Lib.hid hg1; clear hg1
      have Hg2 := Lib.hid hg2; clear hg2
      have Hcp := Lib.hid hcp; clear hcp
      have Hcc := Lib.hid hcc; clear hcc
      have Hnx := Lib.hid hnx; clear hnx
      have Hmo := Lib.hid hmo; clear hmo
      have Hyes := Lib.hid hyes; clear hyes
      have Hv := Lib.hid hv; clear hv
      go_wp2
      go_quiet (fail)
      have hw5 : ∃ d, wo.drewN nq = w.drewN d := by obtain ⟨d, hd⟩ := hw.out; exact ⟨_, by rw [hd]; exact World.drewN_drewN _ _ _⟩
      generalize wo.drewN nq = w5 at hw5 ⊢
      have Hw5 := Lib.hid hw5; clear hw5
      clear q0 q0'
      cases hp1 : plainC m.name
      · have hr := Hnx.out (.inl hp1)
        have Hr := Lib.hid hr; clear hr
        have hc1 := Hcp.out m.name w5
        rw [hp1] at hc1
        have Hc1 := Lib.hid hc1; clear hc1
        have Hp1 := Lib.hid hp1; clear hp1
        go_wp2_with (go_at_call 22; refine Hc1.out.mono ?_; rintro e w' ⟨rfl, rfl⟩)
        go_roundw
        case rel => exact ⟨k + 1, a, b, n, by omega, by go_num, rfl, rfl, rfl, hn0, hn1, Hw5, Hr⟩
        case measure => simp [intOf]; omega
      · cases hp2 : plainC m'.name
        · have hr := Hnx.out (.inr hp2)
          have Hr := Lib.hid hr; clear hr
          have hc1 := Hcp.out m.name w5
          have hc2 := Hcp.out m'.name w5
          rw [hp1] at hc1
          rw [hp2] at hc2
          have Hc1 := Lib.hid hc1; clear hc1
          have Hc2 := Lib.hid hc2; clear hc2
          have Hp1 := Lib.hid hp1; clear hp1
          have Hp2 := Lib.hid hp2; clear hp2
          go_wp2_with (first | (go_at_call 22; (with_reducible refine Hc1.out.mono ?_); rintro e w' ⟨rfl, rfl⟩) | (go_at_call 22; (with_reducible refine Hc2.out.mono ?_); rintro e w' ⟨rfl, rfl⟩))
          go_roundw
          case rel => exact ⟨k + 1, a, b, n, by omega, by go_num, rfl, rfl, rfl, hn0, hn1, Hw5, Hr⟩
          case measure => simp [intOf]; omega
        · have hc1 := Hcp.out m.name w5
          have hc2 := Hcp.out m'.name w5
          have hc3 := Hcc.out w5 Hw5.out
          rw [hp1] at hc1
          rw [hp2] at hc2
          obtain ⟨hm1, hm2⟩ := Hmo.out
          have hye := Hyes.out hp1 hp2
          have hnew := fun ht => (hm1 ht).congr hye
          have hold := fun hf => (hm2 hf).congr hye
          have Hc1 := Lib.hid hc1; clear hc1
          have Hc2 := Lib.hid hc2; clear hc2
          have Hc3 := Lib.hid hc3; clear hc3
          have Hp1 := Lib.hid hp1; clear hp1
          have Hp2 := Lib.hid hp2; clear hp2
          have Hnew := Lib.hid hnew; clear hnew
          have Hold := Lib.hid hold; clear hold
          clear hm1 hm2 hye
          rcases hwy with ⟨ht, g1⟩ | ⟨g1, (⟨hf, g2⟩ | ⟨g2, (⟨ht, g3⟩ | ⟨g3, (⟨hf, g4⟩ | ⟨g4, (⟨ht, g5⟩ | ⟨hf, g5⟩)⟩)⟩)⟩)⟩
          all_goals
            first
              | (have hr := Hnew.out ht
                 have Hr := Lib.hid hr; clear hr
                 clear ht
                 go_wp2_with (first | (go_at_call 22; (with_reducible refine Hc1.out.mono ?_); rintro e w' ⟨rfl, rfl⟩) | (go_at_call 22; (with_reducible refine Hc2.out.mono ?_); rintro e w' ⟨rfl, rfl⟩) | (go_at_call 31; refine Hc3.out.mono ?_; rintro e w' ⟨rfl, rfl⟩))
                 go_roundw
                 case rel => exact ⟨k + 1, m.name, m'.name, v, by omega, by go_num, rfl, rfl, rfl, by omega, hcl, Hw5, by unfold Hid; rw [← Hv.out]; simpa [Hv.out] using Hr.out⟩
                 case measure => simp [intOf]; omega)
              | (have hr := Hold.out hf
                 have Hr := Lib.hid hr; clear hr
                 clear hf
                 go_wp2_with (first | (go_at_call 22; (with_reducible refine Hc1.out.mono ?_); rintro e w' ⟨rfl, rfl⟩) | (go_at_call 22; (with_reducible refine Hc2.out.mono ?_); rintro e w' ⟨rfl, rfl⟩) | (go_at_call 31; refine Hc3.out.mono ?_; rintro e w' ⟨rfl, rfl⟩))
                 go_roundw
                 case rel => exact ⟨k + 1, a, b, n, by omega, by go_num, rfl, rfl, rfl, hn0, hn1, Hw5, Hr⟩
                 case measure => simp [intOf]; omega)
end Go.Proofs.Ytckffdaomjbglaa
