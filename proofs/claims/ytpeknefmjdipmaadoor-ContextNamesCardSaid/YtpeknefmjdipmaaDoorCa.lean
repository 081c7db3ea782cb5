/-
  Layer 8: the walks of plain, Has, Ignored, ignorable and of the questions for a neighbour's name.
-/
import Derived.Test.YtpeknefmjdipmaaDoorM1
import Derived.Test.YtpeknefmjdipmaaDoorFd
namespace Go.Proofs.YtpeknefmjdipmaaDoor
open Go.RowKit Go.Sort

theorem plain_check (c : Int) : (checkF [⟨c, []⟩] == 0) = plainC c := by
  rw [Bool.eq_iff_iff, beq_iff_eq, check_one]
  unfold plainC
  simp [and_assoc]
set_option maxRecDepth 100000 in
theorem cPlain_calls (c : Int) (w : World) (hc : Fits .u8 c) : Calls Tryd.prog 40 #[.int .u8 c] w (BoolPost (plainC c) w) := by
  have hp := plain_check c
  have Hp := Lib.hid hp; clear hp
  go_enter Tryd.func40, Tryd.ntmps40
  go_wp2_with fail
  ((with_reducible refine (oneCheck _ _ hc _ rfl).mono ?_))
  rintro e w1 ⟨rfl, hb1⟩
  have hbw : Below w.heap.size w w1 := ((Below.refl _ _).alloc (Nat.le_refl _) _).trans (hb1.mono (by simp))
  have Hbw := Lib.hid hbw; clear hbw
  clear hb1
  go_wp2
  go_ret
  exact ⟨ret_bool Hp.out, Hbw.out⟩
set_option maxRecDepth 100000 in
theorem refPlain_calls (c : Int) (w : World) : Calls Tryd.prog 44 #[.int .u8 c] w fun e w' => e = .returned (.bool (plainC c)) ∧ w = w' := by
  have hp : plainC c = (letterB c && (c != 91) && (c != 93)) := rfl
  have hl := letter_calls c w
  cases h1 : letterB c
  · rw [h1] at hl hp
    have hp' : plainC c = false := by rw [hp]; rfl
    have Hp' := Lib.hid hp'; clear hp'
    have Hl := Lib.hid hl; clear hl
    clear hp
    go_enter Tryd.func44, Tryd.ntmps44
    go_wp2_with (go_at_call 61; refine Hl.out.mono ?_; rintro e w' ⟨rfl, rfl⟩)
    go_ret
    exact ⟨ret_bool Hp'.out.symm, rfl⟩
  · cases h2 : (c != 91)
    · rw [h1] at hl hp
      rw [h2] at hp
      have hp' : plainC c = false := by rw [hp]; rfl
      have Hp' := Lib.hid hp'; clear hp'
      have Hl := Lib.hid hl; clear hl
      clear hp
      go_enter Tryd.func44, Tryd.ntmps44
      go_wp2_with (go_at_call 61; refine Hl.out.mono ?_; rintro e w' ⟨rfl, rfl⟩)
      go_ret
      exact ⟨ret_bool Hp'.out.symm, rfl⟩
    · rw [h1] at hl hp
      rw [h2] at hp
      have hp' : plainC c = (c != 93) := by rw [hp]; rfl
      have Hp' := Lib.hid hp'; clear hp'
      have Hl := Lib.hid hl; clear hl
      clear hp
      go_enter Tryd.func44, Tryd.ntmps44
      go_wp2_with (go_at_call 61; refine Hl.out.mono ?_; rintro e w' ⟨rfl, rfl⟩)
      go_ret
      exact ⟨ret_bool Hp'.out.symm, rfl⟩

set_option maxHeartbeats 1000000 in
theorem has_calls (p : ByteArray) (c : Int) (w : World) (hp : p.size ≤ 1000) : Calls Tryd.prog 9 #[.string p, .int .u8 c] w fun e w' => e = .returned (.bool (ign p c)) ∧ w = w' := by
  go_enter Tryd.func9, Tryd.ntmps9
  go_wp2
  go_loop [5] (fun i => ∃ k : Nat, k ≤ p.size ∧ i = .int .i64 k ∧ Hid (atF p c = atFrom c ((bytesI p).drop k) k)) (fun i => p.size - (intOf i).toNat)
  case atStart => exact ⟨0, Nat.zero_le _, rfl, rfl⟩
  case round =>
    obtain ⟨k, hk, rfl, hs⟩ := hrel
    by_cases hlt : k < p.size
    · have hd := drop_bytesI hlt
      have step : atF p c = if (p[k].toNat : Int) = c then (k : Int) else atFrom c ((bytesI p).drop (k + 1)) (k + 1) := by rw [hs.out, hd]; rfl
      clear hd
      by_cases hvc : (p[k].toNat : Int) = c
      · have hy : ign p c = true := by unfold ign; rw [step, if_pos hvc]; simp
        have e0 : ((p[k].toNat : Int) == c) = true := by simpa using hvc
        have Hy := Lib.hid hy; clear hy
        clear hvc step
        go_wp2
        go_ret
        exact ⟨ret_bool Hy.out.symm, rfl⟩
      · have hy : atF p c = atFrom c ((bytesI p).drop (k + 1)) (k + 1) := by rw [step, if_neg hvc]
        have e0 : ((p[k].toNat : Int) == c) = false := by simpa using hvc
        have Hy := Lib.hid hy; clear hy
        clear hvc step
        go_wp2
        go_round
        case rel => exact ⟨k + 1, by omega, by go_num, Hy⟩
        case measure => simp [intOf]; omega
    · have hy : ign p c = false := by unfold ign; rw [hs.out, drop_end (by rw [bytesI_length]; exact hlt)]; rfl
      have Hy := Lib.hid hy; clear hy
      go_wp2
      go_ret
      exact ⟨ret_bool Hy.out.symm, rfl⟩

theorem ignFrom_cons (p : ByteArray) (x : Int) (l : List Int) (k : Nat) : ignFrom p (x :: l) k = (plainC x && decide ((k : Int) ≤ atF p x) && ignFrom p l (k + 1)) := rfl
set_option maxRecDepth 100000 in
set_option maxHeartbeats 1000000 in
theorem ignorable_calls (p : ByteArray) (w : World) (hp : p.size ≤ 1000) : Calls Tryd.prog 39 #[.string p] w (BoolPost (ignF p) w) := by
  have hd0 : ignF p = (ignFrom p (bytesI p) 0 && decide (p.size ≤ 20)) := rfl
  have Hd0 := Lib.hid hd0; clear hd0
  go_enter Tryd.func39, Tryd.ntmps39
  go_wp2
  go_loopw [6] (fun i wr => ∃ k : Nat, k ≤ p.size ∧ i = .int .i64 k ∧ Hid (Below w.heap.size w wr) ∧ w.heap.size ≤ wr.heap.size ∧ Hid (ignF p = (ignFrom p ((bytesI p).drop k) k && decide (p.size ≤ 20)))) (fun i _ => p.size - (intOf i).toNat)
  case atStart => exact ⟨0, Nat.zero_le _, rfl, Below.refl _ _, Nat.le_refl _, Hd0⟩
  case round =>
    obtain ⟨k, hk, rfl, hb, hsz, hs⟩ := hrel
    obtain ⟨wo, rfl⟩ : ∃ wo : World, wo = wr := ⟨_, rfl⟩
    by_cases hlt : k < p.size
    · have hf := byte_fits hlt
      obtain ⟨x, hx⟩ : ∃ x, (p[k].toNat : Int) = x := ⟨_, rfl⟩
      have hd : (bytesI p).drop k = x :: (bytesI p).drop (k + 1) := by rw [drop_bytesI hlt, hx]
      have step : ignF p = ((plainC x && decide ((k : Int) ≤ atF p x) && ignFrom p ((bytesI p).drop (k + 1)) (k + 1)) && decide (p.size ≤ 20)) := by rw [hs.out, hd, ignFrom_cons]
      rw [hx] at hf
      have hcp := cPlain_calls x wo hf
      have hrg := atF_rng p x
      clear hd
      cases hpl : plainC x
      · have hy : ignF p = false := by rw [step, hpl]; rfl
        rw [hpl] at hcp
        have Hy := Lib.hid hy; clear hy
        have Hcp := Lib.hid hcp; clear hcp
        clear step
        go_wp2_with fail
        refine Hcp.out.mono ?_
        rintro e w1 ⟨rfl, hb1⟩
        have hbw := hb.out.trans (hb1.mono hsz)
        have Hbw := Lib.hid hbw; clear hbw
        clear hb1
        go_wp2
        go_ret
        exact ⟨ret_bool Hy.out.symm, Hbw.out⟩
      · rw [hpl] at hcp
        by_cases ha : atF p x < k
        · have hy : ignF p = false := by rw [step, hpl, decide_eq_false (by omega)]; rfl
          have Hy := Lib.hid hy; clear hy
          have Hcp := Lib.hid hcp; clear hcp
          clear step
          go_wp2_with fail
          refine Hcp.out.mono ?_
          rintro e w1 ⟨rfl, hb1⟩
          have hbw := hb.out.trans (hb1.mono hsz)
          have Hbw := Lib.hid hbw; clear hbw
          clear hb1
          go_wp2_with (go_at_call 48; refine (ixb_calls _ _ _ hf).mono ?_; rintro e w' ⟨rfl, rfl⟩)
          go_ret
          exact ⟨ret_bool Hy.out.symm, Hbw.out⟩
        · have hy : ignF p = (ignFrom p ((bytesI p).drop (k + 1)) (k + 1) && decide (p.size ≤ 20)) := by rw [step, hpl, decide_eq_true (by omega)]; rfl
          have Hy := Lib.hid hy; clear hy
          have Hcp := Lib.hid hcp; clear hcp
          clear step
          go_wp2_with fail
          refine Hcp.out.mono ?_
          rintro e w1 ⟨rfl, hb1⟩
          have hz1 := hb1.size
          have hbw := hb.out.trans (hb1.mono hsz)
          have Hbw := Lib.hid hbw; clear hbw
          clear hb1
          go_wp2_with (go_at_call 48; refine (ixb_calls _ _ _ hf).mono ?_; rintro e w' ⟨rfl, rfl⟩)
          go_roundw
          case rel => exact ⟨k + 1, by omega, by go_num, Hbw, by omega, Hy⟩
          case measure => simp [intOf]; omega
    · have hy : ignF p = decide ((p.size : Int) ≤ 20) := by
        rw [hs.out, drop_end (by rw [bytesI_length]; exact hlt)]
        show (true && decide (p.size ≤ 20)) = _
        rw [Bool.true_and, decide_eq_decide]; omega
      have Hy := Lib.hid hy; clear hy
      go_wp2
      go_ret
      exact ⟨ret_bool Hy.out.symm, hb.out⟩

/-- a byte is among those ahead of its place just where it has an earlier place -/
theorem atFrom_take (c : Int) : ∀ (l : List Int) (k i : Nat), (0 ≤ atFrom c (l.take i) k) ↔ (0 ≤ atFrom c l k ∧ atFrom c l k < (k + i : Nat))
  | [], k, i => by simp [atFrom]
  | x :: l, k, 0 => by
    simp only [List.take_zero, Nat.add_zero]
    have := atFrom_cases c (x :: l) k
    constructor
    · intro h; unfold atFrom at h; omega
    · rcases this with ⟨h, _⟩ | ⟨j, h, h1, _⟩ <;> omega
  | x :: l, k, i + 1 => by
    have h1 : atFrom c (x :: l) k = if x = c then (k : Int) else atFrom c l (k + 1) := rfl
    have h2 : atFrom c (x :: l.take i) k = if x = c then (k : Int) else atFrom c (l.take i) (k + 1) := rfl
    rw [List.take_succ_cons, h1, h2]
    by_cases h : x = c
    · rw [if_pos h, if_pos h]; omega
    · rw [if_neg h, if_neg h, atFrom_take c l (k + 1) i, show k + 1 + i = k + (i + 1) from by omega]
end Go.Proofs.YtpeknefmjdipmaaDoor
