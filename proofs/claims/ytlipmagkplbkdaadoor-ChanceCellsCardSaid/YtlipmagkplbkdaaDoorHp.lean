/-
  Layer 6: the walk of the reference's Decimal.
-/
import Derived.Test.YtlipmagkplbkdaaDoorPb
import Derived.Test.YtlipmagkplbkdaaDoorWd
import Derived.Lib.Strings
import Derived.Lib.ItoaLen
namespace Go.Proofs.YtlipmagkplbkdaaDoor
open Go.RowKit Go.Sort
set_option linter.unusedVariables false

theorem ret_strP {a b : ByteArray} (h : a = b) : Ending.returned (.string a) = .returned (.string b) := by rw [h]
def dgS : ByteArray := ⟨#[48, 49, 50, 51, 52, 53, 54, 55, 56, 57]⟩
def dg (d : Nat) : ByteArray := dgS.extract d (d + 1)
def decGo : Nat → Nat → ByteArray → ByteArray
  | 0, _, t => t
  | f + 1, m, t => if m = 0 then t else decGo f (m / 10) (dg (m % 10) ++ t)
theorem decGo_zero (f : Nat) (t : ByteArray) : decGo f 0 t = t := by cases f <;> simp [decGo]
theorem dg_size (d : Nat) : (dg d).size ≤ 1 := by
  unfold dg
  rw [ByteArray.size_extract]
  omega
theorem dg_all : ∀ d : Fin 10, (dg d.val).data.toList = [UInt8.ofNat (48 + d.val)] := by decide +kernel
theorem dg_list {d : Nat} (h : d < 10) : (dg d).data.toList = [UInt8.ofNat (48 + d)] := dg_all ⟨d, h⟩
theorem dec_step {m : Nat} (h : m ≠ 0) : Lib.decDigits m = (if m / 10 = 0 then [] else Lib.decDigits (m / 10)) ++ [UInt8.ofNat (48 + m % 10)] := by
  by_cases h1 : m < 10
  · rw [if_pos (by omega), Lib.decDigits_one h1, show m % 10 = m from by omega]; rfl
  · rw [if_neg (by omega), dec_big h1]
theorem decGo_dec : ∀ (f m : Nat) (t : ByteArray), m < 10 ^ f → (decGo f m t).data.toList = (if m = 0 then [] else Lib.decDigits m) ++ t.data.toList
  | 0, m, t, h => by
    have : m = 0 := by simpa using h
    subst this; rfl
  | f + 1, m, t, h => by
    unfold decGo
    by_cases hm : m = 0
    · rw [if_pos hm, if_pos hm]; rfl
    · rw [if_neg hm, if_neg hm, decGo_dec f (m / 10) _ (by rw [Nat.pow_succ] at h; omega), dec_step hm, ByteArray.data_append, Array.toList_append, dg_list (by omega), List.append_assoc]
theorem dec_ten {n : Nat} (h : n < 10 ^ 11) : (decGo 10 (n / 10) (dg (n % 10))).data.toList = Lib.decDigits n := by
  rw [decGo_dec 10 _ _ (by omega), dg_list (by omega)]
  by_cases hn : n = 0
  · subst hn; rw [if_pos rfl, Lib.decDigits_one (by omega)]; rfl
  · rw [dec_step hn]
set_option maxRecDepth 100000 in
set_option maxHeartbeats 2000000 in
theorem decimalN_calls (n : Nat) (hn : n ≤ 9000000000) (w : World) : Calls Tryd.prog 46 #[.int .i64 n] w fun e w' => e = .returned (.string ⟨(Lib.decDigits n).toArray⟩) ∧ w = w' := by
  have hres : decGo 10 (n / 10) (dg (n % 10)) = ⟨(Lib.decDigits n).toArray⟩ := by
    rw [← dec_ten (n := n) (by omega)]
  have e1 : (n : Int) % 10 = ((n % 10 : Nat) : Int) := by omega
  have e2 : (n : Int) / 10 = ((n / 10 : Nat) : Int) := by omega
  obtain ⟨d0, hd0⟩ : ∃ d0, n % 10 = d0 := ⟨_, rfl⟩
  obtain ⟨m0, hm0⟩ : ∃ m0, n / 10 = m0 := ⟨_, rfl⟩
  have hdl : d0 < 10 := by omega
  have hml : m0 ≤ 900000000 := by omega
  rw [hd0] at e1
  rw [hm0] at e2
  rw [hd0, hm0] at hres
  have hx : dgS.extract d0 (d0 + 1) = dg d0 := rfl
  have hz := dg_size d0
  have w1 : IntKind.i64.wrap ((d0 : Int) + 1) = (d0 : Int) + 1 := IntWalk.i64_in _ (by omega)
  have w2 : ((d0 : Int) + 1).toNat = d0 + 1 := by omega
  have Hres := Lib.hid hres; clear hres
  have Hd0 := Lib.hid hd0; clear hd0
  have Hm0 := Lib.hid hm0; clear hm0
  have Hz := Lib.hid hz; clear hz
  go_enter Tryd.func46, Tryd.ntmps46
  go_wp2
  go_loop [0, 4] (fun s0 s4 => ∃ (f m : Nat) (t : ByteArray), s0 = .int .i64 m ∧ s4 = .string t ∧ Hid (m < 10 ^ f) ∧ m ≤ 900000000 ∧ Hid (t.size + f ≤ 11) ∧ Hid (decGo 10 m0 (dg d0) = decGo f m t)) (fun s0 _ => (intOf s0).toNat)
  case atStart => exact ⟨10, m0, dg d0, rfl, rfl, by unfold Hid; omega, by omega, by unfold Hid; have := Hz.out; omega, rfl⟩
  case round =>
    obtain ⟨f, m, t, rfl, rfl, hmf, hm20, hts, hgo⟩ := hrel
    by_cases hm : m = 0
    · subst hm
      have hr : t = ⟨(Lib.decDigits n).toArray⟩ := by rw [← Hres.out, hgo.out, decGo_zero]
      have Hr := Lib.hid hr; clear hr
      clear hmf hm20 hts
      go_wp2
      go_ret
      exact ⟨by rw [Hr.out]; rfl, rfl⟩
    · obtain ⟨f', rfl⟩ : ∃ f', f = f' + 1 := by
        cases f with
        | zero => have := hmf.out; simp at this; exact absurd this hm
        | succ f => exact ⟨f, rfl⟩
      have u1 : (m : Int) % 10 = ((m % 10 : Nat) : Int) := by omega
      have u2 : (m : Int) / 10 = ((m / 10 : Nat) : Int) := by omega
      have hstep : decGo (f' + 1) m t = decGo f' (m / 10) (dg (m % 10) ++ t) := by
        conv => lhs; unfold decGo
        rw [if_neg hm]
      obtain ⟨d, hd⟩ : ∃ d, m % 10 = d := ⟨_, rfl⟩
      obtain ⟨q, hq⟩ : ∃ q, m / 10 = q := ⟨_, rfl⟩
      have hdl' : d < 10 := by omega
      have hql : q < 10 ^ f' := by have h := hmf.out; rw [Nat.pow_succ] at h; omega
      have hqm : q < m := by omega
      rw [hd] at u1 hstep
      rw [hq] at u2 hstep
      have v1 : IntKind.i64.wrap ((d : Int) + 1) = (d : Int) + 1 := IntWalk.i64_in _ (by omega)
      have v2 : ((d : Int) + 1).toNat = d + 1 := by omega
      have hpos : 0 < m := by omega
      have hsz : (dg d ++ t).size + f' ≤ 11 := by
        rw [ByteArray.size_append]
        have := dg_size d
        have := hts.out
        omega
      have hdz := dg_size d
      have ht5 : t.size ≤ 11 := by have := hts.out; omega
      have Hd := Lib.hid hd; clear hd
      have Hq := Lib.hid hq; clear hq
      have Hstep := Lib.hid hstep; clear hstep
      have Hql := Lib.hid hql; clear hql
      have Hsz := Lib.hid hsz; clear hsz
      have Hdz := Lib.hid hdz; clear hdz
      clear hmf hts
      go_wp2
      go_round
      case rel => exact ⟨f', q, dg d ++ t, rfl, rfl, Hql.out, by omega, Hsz.out, by unfold Hid; rw [hgo.out, Hstep.out]⟩
      case measure => simp [intOf]; omega
set_option maxRecDepth 100000 in
theorem decimal_calls (n : Int) (hn : -9000000000 ≤ n ∧ n ≤ 9000000000) (w : World) : Calls Tryd.prog 46 #[.int .i64 n] w fun e w' => e = .returned (.string ⟨(Lib.itoa n).toArray⟩) ∧ w = w' := by
  by_cases h0 : 0 ≤ n
  · obtain ⟨u, rfl⟩ : ∃ u : Nat, n = u := ⟨n.toNat, by omega⟩
    have h := decimalN_calls u (by omega) w
    rw [Lib.itoa_nonneg]
    exact h
  · obtain ⟨u, hu⟩ : ∃ u : Nat, -n = u := ⟨(-n).toNat, by omega⟩
    have h := decimalN_calls u (by omega) w
    have hi : Lib.itoa n = 45 :: Lib.decDigits u := by rw [show n = -(u : Int) from by omega]; exact Lib.itoa_neg u (by omega)
    have hsz : (Lib.decDigits u).length ≤ 21 := by have := Lib.itoa_length_le (u : Int) (by omega) (by omega); rwa [Lib.itoa_nonneg] at this
    have hlt : n < 0 := by omega
    have H := Lib.hid h; clear h
    have Hi := Lib.hid hi; clear hi
    have Hsz := Lib.hid hsz; clear hsz
    go_enter Tryd.func46, Tryd.ntmps46
    go_wp2_with fail
    refine H.out.mono ?_
    rintro e w' ⟨rfl, rfl⟩
    obtain ⟨s, hs⟩ : ∃ s : ByteArray, s = ⟨(Lib.decDigits u).toArray⟩ := ⟨_, rfl⟩
    have hss : s.size ≤ 21 := by rw [hs]; show (Lib.decDigits u).toArray.size ≤ 21; simpa using Hsz.out
    rw [← hs]
    have Hs := Lib.hid hs; clear hs
    go_wp2
    go_ret
    refine ⟨?_, rfl⟩
    rw [Hi.out, Hs.out]
    refine ret_strP ?_
    apply ByteArray.ext
    rw [ByteArray.data_append]
    apply Array.ext'
    rw [Array.toList_append]
    rfl
end Go.Proofs.YtlipmagkplbkdaaDoor
