/-
  Layer 10: the walks of At, bracket, Named, plain and of the two Checks.
-/
import Derived.Test.YtflojbohcippnaaNa
import Derived.Test.YtflojbohcippnaaFi
namespace Go.Proofs.Ytflojbohcippnaa
open Go.RowKit Go.Sort

theorem ixb_calls (p : ByteArray) (c : Int) (w : World) (hc : Fits .u8 c) : Calls Try.prog 20 #[.string p, .int .u8 c] w fun e w' => e = .returned (.int .i64 (atF p c)) ∧ w = w' := by
  have h := indexByte_calls p c w
  rwa [indexByte_atF p hc.u8.1 hc.u8.2] at h

set_option maxHeartbeats 1000000 in
theorem at_calls (p : ByteArray) (c : Int) (w : World) (hp : p.size ≤ 100) : Calls Try.prog 40 #[.string p, .int .u8 c] w fun e w' => e = .returned (.int .i64 (atF p c)) ∧ w = w' := by
  go_enter Try.func40, Try.ntmps40
  go_wp2
  go_loop [5] (fun i => ∃ k : Nat, k ≤ p.size ∧ i = .int .i64 k ∧ Hid (atF p c = atFrom c ((bytesI p).drop k) k)) (fun i => p.size - (intOf i).toNat)
  case atStart => exact ⟨0, Nat.zero_le _, rfl, rfl⟩
  case round =>
    obtain ⟨k, hk, rfl, hs⟩ := hrel
    by_cases hlt : k < p.size
    · have hd := drop_bytesI hlt
      have step : atF p c = if (p[k].toNat : Int) = c then (k : Int) else atFrom c ((bytesI p).drop (k + 1)) (k + 1) := by rw [hs.out, hd]; rfl
      clear hd
      by_cases hvc : (p[k].toNat : Int) = c
      · have hy : atF p c = (k : Int) := by rw [step, if_pos hvc]
        have e0 : ((p[k].toNat : Int) == c) = true := by simpa using hvc
        have Hy := Lib.hid hy; clear hy
        clear hvc step
        go_wp2
        go_ret
        exact ⟨ret_int Hy.out.symm, rfl⟩
      · have hy : atF p c = atFrom c ((bytesI p).drop (k + 1)) (k + 1) := by rw [step, if_neg hvc]
        have e0 : ((p[k].toNat : Int) == c) = false := by simpa using hvc
        have Hy := Lib.hid hy; clear hy
        clear hvc step
        go_wp2
        go_round
        case rel => exact ⟨k + 1, by omega, by go_num, Hy⟩
        case measure => simp [intOf]; omega
    · have hy : atF p c = -1 := by rw [hs.out, drop_end (by rw [bytesI_length]; exact hlt)]; rfl
      have Hy := Lib.hid hy; clear hy
      go_wp2
      go_ret
      exact ⟨ret_int Hy.out.symm, rfl⟩

theorem bracket_calls (c : Int) (w : World) : Calls Try.prog 39 #[.int .u8 c] w fun e w' => e = .returned (.bool (c == 91 || c == 93)) ∧ w = w' := by
  by_cases h : c = 91
  · have e0 : (c == 91) = true := by simpa using h
    have e2 : (c == 91 || c == 93) = true := by rw [e0]; rfl
    have E2 := Lib.hid e2; clear e2
    clear h
    go_enter Try.func39, Try.ntmps39
    go_wp2
    go_ret
    exact ⟨ret_bool E2.out.symm, rfl⟩
  · have e0 : (c == 91) = false := by simpa using h
    have e2 : (c == 91 || c == 93) = (c == 93) := by rw [e0]; rfl
    have E2 := Lib.hid e2; clear e2
    clear h
    go_enter Try.func39, Try.ntmps39
    go_wp2
    go_ret
    exact ⟨ret_bool E2.out.symm, rfl⟩

theorem namedFrom_cons (p : ByteArray) (x : Int) (l : List Int) (k : Nat) : namedFrom p (x :: l) k = (letterB x && (x != 91) && (x != 93) && decide ((k : Int) ≤ atF p x) && namedFrom p l (k + 1)) := rfl
set_option maxHeartbeats 1000000 in
theorem named_calls (p : ByteArray) (w : World) (hp : p.size ≤ 100) : Calls Try.prog 27 #[.string p] w fun e w' => e = .returned (.bool (namedF p)) ∧ w = w' := by
  go_enter Try.func27, Try.ntmps27
  go_wp2
  go_loop [3] (fun i => ∃ k : Nat, k ≤ p.size ∧ i = .int .i64 k ∧ Hid (namedF p = namedFrom p ((bytesI p).drop k) k)) (fun i => p.size - (intOf i).toNat)
  case atStart => exact ⟨0, Nat.zero_le _, rfl, rfl⟩
  case round =>
    obtain ⟨k, hk, rfl, hs⟩ := hrel
    by_cases hlt : k < p.size
    · have hf := byte_fits hlt
      obtain ⟨x, hx⟩ : ∃ x, (p[k].toNat : Int) = x := ⟨_, rfl⟩
      have hd : (bytesI p).drop k = x :: (bytesI p).drop (k + 1) := by rw [drop_bytesI hlt, hx]
      have step : namedF p = (letterB x && (x != 91) && (x != 93) && decide ((k : Int) ≤ atF p x) && namedFrom p ((bytesI p).drop (k + 1)) (k + 1)) := by rw [hs.out, hd, namedFrom_cons]
      clear hd
      have hrg := atF_rng p x
      cases hl : letterB x
      · have hy : namedF p = false := by rw [step, hl]; rfl
        have Hy := Lib.hid hy; clear hy
        clear step
        go_wp2_with fail
        refine (letter_calls _ _).mono ?_
        rintro e w' ⟨rfl, rfl⟩
        rw [hl]
        go_wp2
        go_ret
        exact ⟨ret_bool Hy.out.symm, rfl⟩
      · cases hb : (x == 91 || x == 93)
        · have hb2 : x ≠ 91 ∧ x ≠ 93 := by simpa using hb
          have e1 : (x != 91) = true := by simpa using hb2.1
          have e2 : (x != 93) = true := by simpa using hb2.2
          by_cases ha : atF p x < k
          · have hy : namedF p = false := by rw [step, hl, e1, e2, decide_eq_false (by omega)]; rfl
            have Hy := Lib.hid hy; clear hy
            clear step e1 e2 hb2
            go_wp2_with fail
            refine (letter_calls _ _).mono ?_
            rintro e w' ⟨rfl, rfl⟩
            rw [hl]
            go_wp2_with fail
            refine (bracket_calls _ _).mono ?_
            rintro e w' ⟨rfl, rfl⟩
            rw [hb]
            go_wp2_with fail
            refine (at_calls _ _ _ hp).mono ?_
            rintro e w' ⟨rfl, rfl⟩
            go_wp2
            go_ret
            exact ⟨ret_bool Hy.out.symm, rfl⟩
          · have hy : namedF p = namedFrom p ((bytesI p).drop (k + 1)) (k + 1) := by rw [step, hl, e1, e2, decide_eq_true (by omega)]; rfl
            have Hy := Lib.hid hy; clear hy
            clear step e1 e2 hb2
            go_wp2_with fail
            refine (letter_calls _ _).mono ?_
            rintro e w' ⟨rfl, rfl⟩
            rw [hl]
            go_wp2_with fail
            refine (bracket_calls _ _).mono ?_
            rintro e w' ⟨rfl, rfl⟩
            rw [hb]
            go_wp2_with fail
            refine (at_calls _ _ _ hp).mono ?_
            rintro e w' ⟨rfl, rfl⟩
            go_wp2
            go_round
            case rel => exact ⟨k + 1, by omega, by go_num, Hy⟩
            case measure => simp [intOf]; omega
        · have hy : namedF p = false := by
            have hb2 : x = 91 ∨ x = 93 := by simpa using hb
            rw [step, hl]
            rcases hb2 with rfl | rfl <;> simp
          have Hy := Lib.hid hy; clear hy
          clear step
          go_wp2_with fail
          refine (letter_calls _ _).mono ?_
          rintro e w' ⟨rfl, rfl⟩
          rw [hl]
          go_wp2_with fail
          refine (bracket_calls _ _).mono ?_
          rintro e w' ⟨rfl, rfl⟩
          rw [hb]
          go_wp2
          go_ret
          exact ⟨ret_bool Hy.out.symm, rfl⟩
    · have hy : namedF p = true := by rw [hs.out, drop_end (by rw [bytesI_length]; exact hlt)]; rfl
      have Hy := Lib.hid hy; clear hy
      go_wp2
      go_ret
      exact ⟨ret_bool Hy.out.symm, rfl⟩
end Go.Proofs.Ytflojbohcippnaa
