/-
  Layer 8: the walks of Ignored, of the two questions for a neighbour's name, of Before and Behind.
-/
import Derived.Test.YtpeknefmjdipmaaGreatDoorM1
namespace Go.Proofs.YtpeknefmjdipmaaGreatDoor
open Go.RowKit Go.Sort

theorem quiet_of {P : Program} {f : FuncId} {args : Array Value} {v : Value} {wo : World} (h : ∀ w, Calls P f args w fun e w' => e = .returned v ∧ w = w') (q : Nat) : Calls P f args (wo.drewN q) fun e w' => e = .returned v ∧ ∃ j, w' = wo.drewN j :=
  (h (wo.drewN q)).mono fun _ _ ⟨he, hw⟩ => ⟨he, q, hw.symm⟩
theorem bytesI_extract (p : ByteArray) (k : Nat) : bytesI (p.extract 0 k) = (bytesI p).take k := by
  unfold bytesI
  rw [ByteArray.data_extract, Array.toList_extract, List.map_take]
  simp
theorem ign_extract (p : ByteArray) (x : Int) (k : Nat) : ign (p.extract 0 k) x = true ↔ (0 ≤ atF p x ∧ atF p x < k) := by
  unfold ign
  rw [decide_eq_true_iff]
  show 0 ≤ atFrom x (bytesI (p.extract 0 k)) 0 ↔ _
  rw [bytesI_extract p k, atFrom_take]
  simp [atF]

set_option maxRecDepth 100000 in
set_option maxHeartbeats 1000000 in
theorem ignored_calls (p : ByteArray) (w : World) (hp : p.size ≤ 1000) : Calls Tryz.prog 37 #[.string p] w (BoolPost (ignF p) w) := by
  have hd0 : ignF p = (ignFrom p (bytesI p) 0 && decide (p.size ≤ 20)) := rfl
  have Hd0 := Lib.hid hd0; clear hd0
  go_enter Tryz.func37, Tryz.ntmps37
  go_wp2
  go_loopw [3] (fun i wr => ∃ k : Nat, k ≤ p.size ∧ i = .int .i64 k ∧ Hid (∃ n, wr = w.drewN n) ∧ Hid (ignF p = (ignFrom p ((bytesI p).drop k) k && decide (p.size ≤ 20)))) (fun i _ => p.size - (intOf i).toNat)
  case atStart => exact ⟨0, Nat.zero_le _, rfl, ⟨0, rfl⟩, Hd0⟩
  case round =>
    obtain ⟨k, hk, rfl, hdr, hs⟩ := hrel
    obtain ⟨wo, rfl⟩ : ∃ wo : World, wo = wr := ⟨_, rfl⟩
    have hbw : ∀ n, Below w.heap.size w (wo.drewN n) := fun n => by obtain ⟨m, rfl⟩ := hdr.out; exact below_drewN (below_drewN (Below.refl _ _) m) n
    by_cases hlt : k < p.size
    · have hf := byte_fits hlt
      obtain ⟨x, hx⟩ : ∃ x, (p[k].toNat : Int) = x := ⟨_, rfl⟩
      have hd : (bytesI p).drop k = x :: (bytesI p).drop (k + 1) := by rw [drop_bytesI hlt, hx]
      have step : ignF p = ((plainC x && decide ((k : Int) ≤ atF p x) && ignFrom p ((bytesI p).drop (k + 1)) (k + 1)) && decide (p.size ≤ 20)) := by rw [hs.out, hd, ignFrom_cons]
      have hx0 : 0 ≤ atF p x := by
        rcases atF_cases p x with ⟨_, h⟩ | ⟨j, h, _⟩
        · exact absurd (mem_of_drop hd) h
        · omega
      have hcp := fun q => quiet_of (wo := wo) (refPlain_calls x) q
      have hch := fun q => quiet_of (wo := wo) (fun W => has_calls (p.extract 0 k) x W (by simp; omega)) q
      have hie := ign_extract p x k
      have hk0 : (0 : Int) ≤ (k : Int) := Int.natCast_nonneg _
      clear hd
      cases hpl : plainC x
      · have hy : ignF p = false := by rw [step, hpl]; rfl
        rw [hpl] at hcp
        have Hy := Lib.hid hy; clear hy
        have Hcp := Lib.hid hcp; clear hcp
        have Hch := Lib.hid hch; clear hch
        have Hbw := Lib.hid hbw; clear hbw
        clear step hie
        go_wp2
        go_quiet ((first | (go_at_call 36; exact Hcp.out _) | (go_at_call 55; exact Hch.out _)))
        go_wp2
        go_ret
        exact ⟨ret_bool Hy.out.symm, Hbw.out _⟩
      · rw [hpl] at hcp
        by_cases ha : atF p x < k
        · have hy : ignF p = false := by rw [step, hpl, decide_eq_false (by omega)]; rfl
          rw [hie.2 ⟨hx0, ha⟩] at hch
          have Hy := Lib.hid hy; clear hy
          have Hcp := Lib.hid hcp; clear hcp
          have Hch := Lib.hid hch; clear hch
          have Hbw := Lib.hid hbw; clear hbw
          clear step hie
          go_wp2
          go_quiet ((first | (go_at_call 36; exact Hcp.out _) | (go_at_call 55; exact Hch.out _)))
          go_wp2
          go_ret
          exact ⟨ret_bool Hy.out.symm, Hbw.out _⟩
        · have hy : ignF p = (ignFrom p ((bytesI p).drop (k + 1)) (k + 1) && decide (p.size ≤ 20)) := by rw [step, hpl, decide_eq_true (by omega)]; rfl
          have hif : ign (p.extract 0 k) x = false := by
            cases h : ign (p.extract 0 k) x
            · rfl
            · exact absurd (hie.1 h).2 ha
          rw [hif] at hch
          have Hy := Lib.hid hy; clear hy
          have Hcp := Lib.hid hcp; clear hcp
          have Hch := Lib.hid hch; clear hch
          have Hbw := Lib.hid hbw; clear hbw
          have Hif := Lib.hid hif; clear hif
          clear step hie
          go_wp2
          go_quiet ((first | (go_at_call 36; exact Hcp.out _) | (go_at_call 55; exact Hch.out _)))
          go_wp2
          go_roundw
          case rel =>
            refine ⟨k + 1, by omega, by go_num, ?_, Hy⟩
            obtain ⟨n, hn⟩ := hdr.out
            exact ⟨_, by rw [hn]; exact World.drewN_drewN _ _ _⟩
          case measure => simp [intOf]; omega
    · have hy : ignF p = decide ((p.size : Int) ≤ 20) := by
        rw [hs.out, drop_end (by rw [bytesI_length]; exact hlt)]
        show (true && decide (p.size ≤ 20)) = _
        rw [Bool.true_and, decide_eq_decide]; omega
      have Hy := Lib.hid hy; clear hy
      go_wp2
      go_ret
      exact ⟨ret_bool Hy.out.symm, hbw 0⟩

/-! ### is there a neighbour with a name? -/
theorem atB_zero (ms : List Mod) (k : Int) : atB ms k 0 = true := rfl
theorem atB_neg {ms : List Mod} {k c : Int} (hc : (c == 0) = false) (hk : k < 0) : atB ms k c = false := by unfold atB; rw [hc, decide_eq_false (by omega)]; rfl
theorem atB_at {ms : List Mod} {k : Nat} {c : Int} (hc : (c == 0) = false) : atB ms (k : Int) c = (nameAt ms k == c) := by unfold atB; rw [hc, decide_eq_true (by omega)]; simp
set_option maxRecDepth 100000 in
theorem at_calls (v0 : Value) (A : Option Addr) (cb : Nat) (ms : List Mod) (v2 v3 : Value) (k c : Int) (w : World) (h : SlAt pMod (Old w) w A cb ms) (hk : k < ms.length) (_h0 : v0.oneCell' = true) (_h2 : v2.oneCell' = true) (_h3 : v3.oneCell' = true) :
    Calls Tryz.prog 47 #[.agg #[v0, .slice A ms.length cb, v2, v3], .int .i64 k, .int .u8 c] w (BoolPost (atB ms k c) w) := by
  have hmx := h.lenle
  have hb0 : Below w.heap.size w (w.alloc (.cells #[v0, .slice A ms.length cb, v2, v3] 55)) := (Below.refl _ _).alloc (Nat.le_refl _) _
  obtain ⟨W0, hW0⟩ : ∃ W0, W0 = w.alloc (.cells #[v0, .slice A ms.length cb, v2, v3] 55) := ⟨_, rfl⟩
  have hbl0 : Blk W0 w.heap.size 55 #[v0, .slice A ms.length cb, v2, v3] := by rw [hW0]; exact Blk.new _ _ _
  rw [← hW0] at hb0
  have h1 := h.later hb0
  have y1 := hbl0.cell 1
  cases hc : (c == 0)
  · by_cases h0 : k < 0
    · have hy := atB_neg (ms := ms) hc h0
      have Hy := Lib.hid hy; clear hy
      have H1 := Lib.hid h1; clear h1
      have Hb0 := Lib.hid hb0; clear hb0
      have Hbl0 := Lib.hid hbl0; clear hbl0
      have HW0 := Lib.hid hW0; clear hW0
      go_enter Tryz.func47, Tryz.ntmps47
      go_wp2
      go_ret
      exact ⟨ret_bool Hy.out.symm, by rw [← HW0.out]; exact Hb0.out⟩
    · obtain ⟨j, rfl⟩ := Int.eq_ofNat_of_zero_le (Int.not_lt.1 h0)
      obtain ⟨b, o, D, d, m, hd, rfl, hob, q0, q1, hx8, hxa, hxl⟩ := h.getMod (i := j) (by omega)
      have hob' : b < w.heap.size := hob
      have hy := atB_at (ms := ms) (k := j) hc
      rw [nameAt_drop hd.out] at hy
      have hj0 : (0 : Int) ≤ (j : Int) := Int.natCast_nonneg _
      have Hy := Lib.hid hy; clear hy
      have H1 := Lib.hid h1; clear h1
      have Hb0 := Lib.hid hb0; clear hb0
      have Hbl0 := Lib.hid hbl0; clear hbl0
      have HW0 := Lib.hid hW0; clear hW0
      go_enter Tryz.func47, Tryz.ntmps47
      go_wp2
      go_ret
      exact ⟨ret_bool Hy.out.symm, by rw [← HW0.out]; exact Hb0.out⟩
  · have hc0 : c = 0 := by simpa using hc
    subst hc0
    have H1 := Lib.hid h1; clear h1
    have Hb0 := Lib.hid hb0; clear hb0
    have Hbl0 := Lib.hid hbl0; clear hbl0
    have HW0 := Lib.hid hW0; clear hW0
    go_enter Tryz.func47, Tryz.ntmps47
    go_wp2
    go_ret
    exact ⟨rfl, by rw [← HW0.out]; exact Hb0.out⟩

/-! ### Before and Behind -/
theorem befAt_succ (p : ByteArray) (ms : List Mod) (k c : Nat) : befAt p ms (k + 1) c = if nameAt ms k = 93 then befAt p ms k (c + 1) else if nameAt ms k = 91 then befAt p ms k (c - 1) else if c = 0 ∧ ign p (nameAt ms k) = false then (k : Int) else befAt p ms k c := rfl
theorem behAt_cons (p : ByteArray) (m : Mod) (r : List Mod) (k o : Nat) : behAt p (m :: r) k o = if m.name = 91 then behAt p r (k + 1) (o + 1) else if m.name = 93 then (if o = 0 then -1 else behAt p r (k + 1) (o - 1)) else if o = 0 ∧ ign p m.name = false then (k : Int) else behAt p r (k + 1) o := rfl
end Go.Proofs.YtpeknefmjdipmaaGreatDoor
