/-
  Layer 6: the walks of Close.
-/
import Derived.Test.YtnhdjcdipnginaaDoorWm
namespace Go.Proofs.YtnhdjcdipnginaaDoor
open Go.RowKit

/-- what Close gives: (0, its error), or the bracket that Fwd or Bwd describes -/
def CloseIs (ms : List Mod) (i : Int) (r : Int × Int) : Prop :=
  (¬ checkF ms = 0 ∧ r = (0, checkF ms)) ∨ (checkF ms = 0 ∧ (i < 0 ∨ (ms.length : Int) ≤ i) ∧ r = (0, 2)) ∨
  (checkF ms = 0 ∧ ∃ (n : Nat) (m : Mod), i = n ∧ ms[n]? = some m ∧ ((¬ m.name = 91 ∧ ¬ m.name = 93 ∧ r = (0, 2)) ∨ (m.name = 91 ∧ ∃ k : Nat, Fwd ms n k ∧ r = ((k : Int), 0)) ∨ (m.name = 93 ∧ ∃ k : Nat, Bwd ms n k ∧ r = ((k : Int), 0))))
theorem closeIs_one {ms : List Mod} {i : Int} {r r' : Int × Int} (h : CloseIs ms i r) (h' : CloseIs ms i r') : r = r' := by
  rcases h with ⟨h1, h2⟩ | ⟨h1, h2, h3⟩ | ⟨h1, n, m, rfl, h3, h4⟩
  · rcases h' with ⟨g1, g2⟩ | ⟨g1, _⟩ | ⟨g1, _⟩
    · rw [h2, g2]
    · exact absurd g1 h1
    · exact absurd g1 h1
  · rcases h' with ⟨g1, g2⟩ | ⟨g1, g2, g3⟩ | ⟨g1, n, m, rfl, g3, g4⟩
    · exact absurd h1 g1
    · rw [h3, g3]
    · have := (List.getElem?_eq_some_iff.1 g3).1; omega
  · have hn := (List.getElem?_eq_some_iff.1 h3).1
    rcases h' with ⟨g1, g2⟩ | ⟨g1, g2, g3⟩ | ⟨g1, n', m', hnn, g3, g4⟩
    · exact absurd h1 g1
    · omega
    · have : n' = n := by omega
      subst this
      rw [h3] at g3; cases g3
      rcases h4 with ⟨a1, a2, a3⟩ | ⟨a1, k, a2, a3⟩ | ⟨a1, k, a2, a3⟩ <;> rcases g4 with ⟨b1, b2, b3⟩ | ⟨b1, k', b2, b3⟩ | ⟨b1, k', b2, b3⟩ <;> first
        | (rw [a3, b3]; done)
        | (exact absurd b1 a1)
        | (exact absurd b1 a2)
        | (exact absurd a1 b1)
        | (exact absurd a1 b2)
        | (rw [a3, b3, fwd_one a2 b2]; done)
        | (rw [a3, b3, bwd_one a2 b2]; done)
        | (rw [a1] at b1; cases b1)

def ClosePost (ms : List Mod) (i : Int) (w : World) (e : Ending) (w' : World) : Prop := ∃ r : Int × Int, CloseIs ms i r ∧ e = .returned (.tuple #[.int .i64 r.1, .int .i64 r.2]) ∧ Below w.heap.size w w'
theorem delta_open {m : Mod} (h : m.name = 91) : delta m = 1 := by unfold delta; rw [if_pos h]
theorem delta_close {m : Mod} (h : m.name = 93) : delta m = -1 := by unfold delta; rw [if_neg (by omega), if_pos h]
theorem delta_else {m : Mod} (h : ¬ m.name = 91) (h' : ¬ m.name = 93) : delta m = 0 := by unfold delta; rw [if_neg h, if_neg h']

/-- the forward round of word.Close -/
theorem fwd_ext {ms : List Mod} {i k : Nat} (h : ∀ j, i ≤ j → j < k → dep ms i < dep ms (j + 1)) (h' : dep ms i < dep ms (k + 1)) : ∀ j, i ≤ j → j < k + 1 → dep ms i < dep ms (j + 1) := fun j h1 h2 => by
  rcases Nat.lt_succ_iff_lt_or_eq.1 h2 with h3 | h3
  · exact h j h1 h3
  · subst h3; exact h'

set_option maxRecDepth 100000 in
set_option maxHeartbeats 2000000 in
theorem close_calls (A : Option Addr) (c : Nat) (ms : List Mod) (i : Int) (w : World) (h : SlAt pMod (Old w) w A c ms) (hi : Fits .i64 i) :
    Calls Tryd.prog 16 #[.slice A ms.length c, .int .i64 i] w (ClosePost ms i w) := by
  have hmx := h.lenle
  have hi' := hi.i64
  have H := Lib.hid h; clear h hi
  go_enter Tryd.func16, Tryd.ntmps16
  go_wp2_with fail
  refine (wordCheck_calls A c ms w H.out).mono ?_
  rintro e w1 ⟨rfl, hb1⟩
  have H1 := Lib.hid (H.out.later hb1)
  have hs1 := hb1.size
  have Hb1 := Lib.hid hb1; clear hb1
  by_cases hc : checkF ms = 0
  · have e1 : (checkF ms != 0) = false := by simp [hc]
    obtain ⟨hle, _, _, _, _, hpos, hend⟩ := check_zero hc
    have Hpos := Lib.hid hpos; have Hend := Lib.hid hend; have Hc := Lib.hid hc
    clear hpos hend hc
    by_cases hi0 : i < 0
    · go_wp2
      go_ret2
      exact ⟨(0, 2), .inr (.inl ⟨Hc.out, .inl hi0, rfl⟩), rfl, Hb1.out⟩
    · by_cases hi1 : (ms.length : Int) ≤ i
      · go_wp2
        go_ret2
        exact ⟨(0, 2), .inr (.inl ⟨Hc.out, .inr hi1, rfl⟩), rfl, Hb1.out⟩
      · obtain ⟨n, rfl⟩ : ∃ n : Nat, i = n := ⟨i.toNat, by omega⟩
        have hn : n < ms.length := by omega
        obtain ⟨b, o, A', c', m, hd, rfl, _, hx0, hx1, _, _, _⟩ := H1.out.getMod hn
        have hget := Lib.hid (get_of_drop hd.out)
        by_cases h91 : m.name = 91
        · have e2 : (m.name == 91) = true := by simp [h91]
          have e3 : (m.name == 93) = false := by simp [h91]
          have Hn := Lib.hid h91; clear h91
          go_wp2
          go_loop [9, 8] (fun k op => ∃ (q : Nat) (p : Int), n ≤ q ∧ q ≤ ms.length ∧ k = .int .i64 q ∧ op = .int .i64 p ∧ -3000 ≤ p ∧ p ≤ 3000 ∧ Hid (p = dep ms q - dep ms n) ∧ -(q : Int) ≤ p ∧ p ≤ q ∧ Hid (∀ j, n ≤ j → j < q → dep ms n < dep ms (j + 1))) (fun k _ => ms.length - (intOf k).toNat)
          case atStart => exact ⟨n, 0, Nat.le_refl _, by omega, rfl, rfl, by omega, by omega, by unfold Hid; omega, by omega, by omega, fun j h1 h2 => by omega⟩
          case round =>
            obtain ⟨q, p, hq0, hq1, rfl, rfl, _, _, hp, hpq0, hpq1, hall⟩ := hrel
            have hq : q < ms.length := by
              refine Nat.lt_of_not_le fun hge => ?_
              have hqe : q = ms.length := by omega
              have := hall.out (q - 1) (by omega) (by omega)
              rw [show q - 1 + 1 = q from by omega, hqe, Hend.out] at this
              have := Hpos.out n (by omega)
              omega
            obtain ⟨b2, o2, A2, c2, m2, hd2, hA2, _, hy0, _, _, _, _⟩ := H1.out.getMod hq
            cases hA2
            have hds := Lib.hid (dep_succ hd2.out)
            have hsame : Hid (n = q → delta m2 = 1) := fun h0 => by
              subst h0
              have := hd.out.symm.trans hd2.out
              simp only [List.cons.injEq] at this
              rw [← this.1]; exact delta_open Hn.out
            -- FWD
            by_cases k91 : m2.name = 91
            · have e4 : (m2.name == 91) = true := by simp [k91]
              have e5 : (m2.name == 93) = false := by simp [k91]
              have hdl := delta_open k91
              clear k91
              by_cases hz : p + 1 = 0
              · have e6 : (p + 1 == 0) = true := beq_iff_eq.2 hz
                have hF : Fwd ms n q := ⟨hq0, hq, by rw [hds.out, hdl]; have := hp.out; omega, hall.out⟩
                have HF := Lib.hid hF; clear hF
                go_wp2
                go_ret2
                exact ⟨((q : Int), 0), .inr (.inr ⟨Hc.out, n, m, rfl, hget.out, .inr (.inl ⟨Hn.out, q, HF.out, rfl⟩)⟩), rfl, Hb1.out⟩
              · have e6 : (p + 1 == 0) = false := beq_false_of_ne hz
                have hgt : dep ms n < dep ms (q + 1) := by
                  rw [hds.out, hdl]
                  have h1 := hp.out
                  rcases Nat.eq_or_lt_of_le hq0 with h2 | h2
                  · subst h2
                    have h3 := hsame.out rfl
                    rw [hdl] at h3; omega
                  · have h3 := hall.out (q - 1) (by omega) (by omega)
                    rw [show q - 1 + 1 = q from by omega] at h3; omega
                have Hall := Lib.hid (fwd_ext hall.out hgt)
                have hp2 : Hid (p + 1 = dep ms (q + 1) - dep ms n) := by unfold Hid; rw [hds.out, hdl]; have := hp.out; omega
                go_wp2
                go_round
                case rel => exact ⟨q + 1, p + 1, by omega, by omega, by go_num, by go_num, by omega, by omega, hp2, by omega, by omega, Hall⟩
                case measure => simp [intOf]; omega
            · by_cases k93 : m2.name = 93
              · have e4 : (m2.name == 91) = false := by simp [k91]
                have e5 : (m2.name == 93) = true := by simp [k93]
                have hdl := delta_close k93
                clear k91 k93
                by_cases hz : p - 1 = 0
                · have e6 : (p - 1 == 0) = true := beq_iff_eq.2 hz
                  have hF : Fwd ms n q := ⟨hq0, hq, by rw [hds.out, hdl]; have := hp.out; omega, hall.out⟩
                  have HF := Lib.hid hF; clear hF
                  go_wp2
                  go_ret2
                  exact ⟨((q : Int), 0), .inr (.inr ⟨Hc.out, n, m, rfl, hget.out, .inr (.inl ⟨Hn.out, q, HF.out, rfl⟩)⟩), rfl, Hb1.out⟩
                · have e6 : (p - 1 == 0) = false := beq_false_of_ne hz
                  have hgt : dep ms n < dep ms (q + 1) := by
                    rw [hds.out, hdl]
                    have h1 := hp.out
                    rcases Nat.eq_or_lt_of_le hq0 with h2 | h2
                    · subst h2
                      have h3 := hsame.out rfl
                      rw [hdl] at h3; omega
                    · have h3 := hall.out (q - 1) (by omega) (by omega)
                      rw [show q - 1 + 1 = q from by omega] at h3; omega
                  have Hall := Lib.hid (fwd_ext hall.out hgt)
                  have hp2 : Hid (p - 1 = dep ms (q + 1) - dep ms n) := by unfold Hid; rw [hds.out, hdl]; have := hp.out; omega
                  go_wp2
                  go_round
                  case rel => exact ⟨q + 1, p - 1, by omega, by omega, by go_num, by go_num, by omega, by omega, hp2, by omega, by omega, Hall⟩
                  case measure => simp [intOf]; omega
              · have e4 : (m2.name == 91) = false := by simp [k91]
                have e5 : (m2.name == 93) = false := by simp [k93]
                have hdl := delta_else k91 k93
                clear k91 k93
                by_cases hz : p = 0
                · have e6 : (p == 0) = true := beq_iff_eq.2 hz
                  have hF : Fwd ms n q := ⟨hq0, hq, by rw [hds.out, hdl]; have := hp.out; omega, hall.out⟩
                  have HF := Lib.hid hF; clear hF
                  go_wp2
                  go_ret2
                  exact ⟨((q : Int), 0), .inr (.inr ⟨Hc.out, n, m, rfl, hget.out, .inr (.inl ⟨Hn.out, q, HF.out, rfl⟩)⟩), rfl, Hb1.out⟩
                · have e6 : (p == 0) = false := beq_false_of_ne hz
                  have hgt : dep ms n < dep ms (q + 1) := by
                    rw [hds.out, hdl]
                    have h1 := hp.out
                    rcases Nat.eq_or_lt_of_le hq0 with h2 | h2
                    · subst h2
                      have h3 := hsame.out rfl
                      rw [hdl] at h3; omega
                    · have h3 := hall.out (q - 1) (by omega) (by omega)
                      rw [show q - 1 + 1 = q from by omega] at h3; omega
                  have Hall := Lib.hid (fwd_ext hall.out hgt)
                  have hp2 : Hid (p = dep ms (q + 1) - dep ms n) := by unfold Hid; rw [hds.out, hdl]; have := hp.out; omega
                  go_wp2
                  go_round
                  case rel => exact ⟨q + 1, p, by omega, by omega, by go_num, rfl, by omega, by omega, hp2, by omega, by omega, Hall⟩
                  case measure => simp [intOf]; omega
            -- END
        · have e2 : (m.name == 91) = false := by simp [h91]
          by_cases h93 : m.name = 93
          · have e3 : (m.name == 93) = true := by simp [h93]
            have Hn := Lib.hid h93; clear h91 h93
            go_wp2
            go_loop [9, 8] (fun k op => ∃ (q : Nat) (p : Int), q ≤ n ∧ k = .int .i64 q ∧ op = .int .i64 p ∧ -((n : Int) - q) ≤ p ∧ p ≤ (n : Int) - q ∧ Hid (p = dep ms (q + 1) - dep ms (n + 1)) ∧ Hid (∀ j, q < j → j ≤ n → dep ms (n + 1) < dep ms j)) (fun k _ => (intOf k).toNat)
            case atStart => exact ⟨n, 0, Nat.le_refl _, rfl, rfl, by omega, by omega, by unfold Hid; omega, fun j h1 h2 => by omega⟩
            case round =>
              obtain ⟨q, p, hq0, rfl, rfl, hpq0, hpq1, hp, hall⟩ := hrel
              have hq : q < ms.length := by omega
              obtain ⟨b2, o2, A2, c2, m2, hd2, hA2, _, hy0, _, _, _, _⟩ := H1.out.getMod hq
              cases hA2
              have hds := Lib.hid (dep_succ hd2.out)
              have hsame : Hid (n = q → delta m2 = -1) := fun h0 => by
                subst h0
                have := hd.out.symm.trans hd2.out
                simp only [List.cons.injEq] at this
                rw [← this.1]; exact delta_close Hn.out
              -- BWD
              by_cases k91 : m2.name = 91
              · have e4 : (m2.name == 91) = true := by simp [k91]
                have e5 : (m2.name == 93) = false := by simp [k91]
                have hdl := delta_open k91
                clear k91
                by_cases hz : p + -1 = 0
                · have e6 : (p + -1 == 0) = true := beq_iff_eq.2 hz
                  have hF : Bwd ms n q := ⟨hq0, by have h1 := hp.out; have h2 := hds.out; omega, hall.out⟩
                  have HF := Lib.hid hF; clear hF
                  go_wp2
                  go_ret2
                  exact ⟨((q : Int), 0), .inr (.inr ⟨Hc.out, n, m, rfl, hget.out, .inr (.inr ⟨Hn.out, q, HF.out, rfl⟩)⟩), rfl, Hb1.out⟩
                · have e6 : (p + -1 == 0) = false := beq_false_of_ne hz
                  have hgt : dep ms (n + 1) < dep ms q := by
                    have h1 := hp.out
                    have h0 := hds.out
                    rcases Nat.eq_or_lt_of_le hq0 with h2 | h2
                    · subst h2
                      have h3 := hsame.out rfl
                      rw [hdl] at h3; omega
                    · have h3 := hall.out (q + 1) (by omega) (by omega)
                      omega
                  have hq1 : 1 ≤ q := by
                    refine Nat.lt_of_not_le fun h0 => ?_
                    obtain rfl : q = 0 := by omega
                    rw [dep_zero] at hgt
                    have := Hpos.out (n + 1) (by omega); omega
                  have Hall : Hid (∀ j, q - 1 < j → j ≤ n → dep ms (n + 1) < dep ms j) := fun j h1 h2 => by
                    rcases Nat.eq_or_lt_of_le (show q ≤ j by omega) with h3 | h3
                    · subst h3; exact hgt
                    · exact hall.out j h3 h2
                  have hp2 : Hid (p + -1 = dep ms (q - 1 + 1) - dep ms (n + 1)) := by unfold Hid; rw [show q - 1 + 1 = q from by omega]; have h1 := hp.out; have h2 := hds.out; omega
                  have hqi : (1 : Int) ≤ (q : Int) := by omega
                  go_wp2
                  go_round
                  case rel => exact ⟨q - 1, p + -1, by omega, by congr 1; omega, by go_num, by omega, by omega, hp2, Hall⟩
                  case measure => simp [intOf]; omega
              · by_cases k93 : m2.name = 93
                · have e4 : (m2.name == 91) = false := by simp [k91]
                  have e5 : (m2.name == 93) = true := by simp [k93]
                  have hdl := delta_close k93
                  clear k91 k93
                  by_cases hz : p - -1 = 0
                  · have e6 : (p - -1 == 0) = true := beq_iff_eq.2 hz
                    have hF : Bwd ms n q := ⟨hq0, by have h1 := hp.out; have h2 := hds.out; omega, hall.out⟩
                    have HF := Lib.hid hF; clear hF
                    go_wp2
                    go_ret2
                    exact ⟨((q : Int), 0), .inr (.inr ⟨Hc.out, n, m, rfl, hget.out, .inr (.inr ⟨Hn.out, q, HF.out, rfl⟩)⟩), rfl, Hb1.out⟩
                  · have e6 : (p - -1 == 0) = false := beq_false_of_ne hz
                    have hgt : dep ms (n + 1) < dep ms q := by
                      have h1 := hp.out
                      have h0 := hds.out
                      rcases Nat.eq_or_lt_of_le hq0 with h2 | h2
                      · subst h2
                        have h3 := hsame.out rfl
                        rw [hdl] at h3; omega
                      · have h3 := hall.out (q + 1) (by omega) (by omega)
                        omega
                    have hq1 : 1 ≤ q := by
                      refine Nat.lt_of_not_le fun h0 => ?_
                      obtain rfl : q = 0 := by omega
                      rw [dep_zero] at hgt
                      have := Hpos.out (n + 1) (by omega); omega
                    have Hall : Hid (∀ j, q - 1 < j → j ≤ n → dep ms (n + 1) < dep ms j) := fun j h1 h2 => by
                      rcases Nat.eq_or_lt_of_le (show q ≤ j by omega) with h3 | h3
                      · subst h3; exact hgt
                      · exact hall.out j h3 h2
                    have hp2 : Hid (p - -1 = dep ms (q - 1 + 1) - dep ms (n + 1)) := by unfold Hid; rw [show q - 1 + 1 = q from by omega]; have h1 := hp.out; have h2 := hds.out; omega
                    have hqi : (1 : Int) ≤ (q : Int) := by omega
                    go_wp2
                    go_round
                    case rel => exact ⟨q - 1, p - -1, by omega, by congr 1; omega, by go_num, by omega, by omega, hp2, Hall⟩
                    case measure => simp [intOf]; omega
                · have e4 : (m2.name == 91) = false := by simp [k91]
                  have e5 : (m2.name == 93) = false := by simp [k93]
                  have hdl := delta_else k91 k93
                  clear k91 k93
                  by_cases hz : p = 0
                  · have e6 : (p == 0) = true := beq_iff_eq.2 hz
                    have hF : Bwd ms n q := ⟨hq0, by have h1 := hp.out; have h2 := hds.out; omega, hall.out⟩
                    have HF := Lib.hid hF; clear hF
                    go_wp2
                    go_ret2
                    exact ⟨((q : Int), 0), .inr (.inr ⟨Hc.out, n, m, rfl, hget.out, .inr (.inr ⟨Hn.out, q, HF.out, rfl⟩)⟩), rfl, Hb1.out⟩
                  · have e6 : (p == 0) = false := beq_false_of_ne hz
                    have hgt : dep ms (n + 1) < dep ms q := by
                      have h1 := hp.out
                      have h0 := hds.out
                      rcases Nat.eq_or_lt_of_le hq0 with h2 | h2
                      · subst h2
                        have h3 := hsame.out rfl
                        rw [hdl] at h3; omega
                      · have h3 := hall.out (q + 1) (by omega) (by omega)
                        omega
                    have hq1 : 1 ≤ q := by
                      refine Nat.lt_of_not_le fun h0 => ?_
                      obtain rfl : q = 0 := by omega
                      rw [dep_zero] at hgt
                      have := Hpos.out (n + 1) (by omega); omega
                    have Hall : Hid (∀ j, q - 1 < j → j ≤ n → dep ms (n + 1) < dep ms j) := fun j h1 h2 => by
                      rcases Nat.eq_or_lt_of_le (show q ≤ j by omega) with h3 | h3
                      · subst h3; exact hgt
                      · exact hall.out j h3 h2
                    have hp2 : Hid (p = dep ms (q - 1 + 1) - dep ms (n + 1)) := by unfold Hid; rw [show q - 1 + 1 = q from by omega]; have h1 := hp.out; have h2 := hds.out; omega
                    have hqi : (1 : Int) ≤ (q : Int) := by omega
                    go_wp2
                    go_round
                    case rel => exact ⟨q - 1, p, by omega, by congr 1; omega, rfl, by omega, by omega, hp2, Hall⟩
                    case measure => simp [intOf]; omega
              -- END2
          · have e3 : (m.name == 93) = false := by simp [h93]
            have Hn := Lib.hid h91; have Hn2 := Lib.hid h93; clear h91 h93
            go_wp2
            go_ret2
            exact ⟨(0, 2), .inr (.inr ⟨Hc.out, n, m, rfl, hget.out, .inl ⟨Hn.out, Hn2.out, rfl⟩⟩), rfl, Hb1.out⟩
  · have e1 : (checkF ms != 0) = true := by simp [hc]
    have Hc := Lib.hid hc; clear hc
    go_wp2
    go_ret2
    exact ⟨(0, checkF ms), .inl ⟨Hc.out, rfl⟩, rfl, Hb1.out⟩
end Go.Proofs.YtnhdjcdipnginaaDoor
