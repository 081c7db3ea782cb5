/-
  Layer 5: the walks of Draw, Sum.
-/
import Derived.Test.YtcdmmejicmbagaaDoorSa
namespace Go.Proofs.YtcdmmejicmbagaaDoor
open Go.RowKit

def drawF (s : Int) (p : ByteArray) (n : Int) : Int × Int := if n < 1 ∨ 1000000000 < n then (0, 2) else (wrap64 (ofF s p % n), 0)

set_option maxHeartbeats 1000000 in
theorem draw_calls (s : Int) (p : ByteArray) (n : Int) (w : World) (hs : Fits .i64 s) (hp : p.size ≤ 500) (hn : Fits .i64 n) :
    Calls Tryd.prog 16 #[.int .i64 s, .string p, .int .i64 n] w (PairPost (drawF s p n) w) := by
  have hn' := hn.i64
  by_cases h1 : n < 1
  · go_enter Tryd.func16, Tryd.ntmps16
    go_wp2
    go_ret2
    exact ⟨by unfold drawF; rw [if_pos (.inl h1)]; rfl, Below.refl _ _⟩
  · by_cases h2 : 1000000000 < n
    · go_enter Tryd.func16, Tryd.ntmps16
      go_wp2
      go_ret2
      exact ⟨by unfold drawF; rw [if_pos (.inr h2)]; rfl, Below.refl _ _⟩
    · have hw : IntKind.u64.wrap n = n := by rw [IntKind.wrap_u64]; omega
      have hx := ofF_range s p
      have hd : drawF s p n = (wrap64 (ofF s p % n), 0) := by unfold drawF; rw [if_neg (by omega)]
      have Hd := Lib.hid hd; clear hd
      go_enter Tryd.func16, Tryd.ntmps16
      go_wp2_with fail
      refine (of_calls s p w hs hp).mono ?_
      rintro e w1 ⟨rfl, hb1⟩
      have Hb1 := Lib.hid hb1; clear hb1
      go_wp2
      go_ret2
      exact ⟨by rw [Hd.out]; rfl, Hb1.out⟩

def allW (l : List Int) : Bool := l.all (fun x => decide (0 ≤ x) && decide (x ≤ 1000000000))
def sumW (l : List Int) : Int := if 200 < l.length then 0 else if allW l then (if 1000000000 < l.sum then 0 else l.sum) else 0
theorem sum_le (l : List Int) (h : allW l = true) : 0 ≤ l.sum ∧ l.sum ≤ l.length * 1000000000 := by
  induction l with
  | nil => simp
  | cons x l ih =>
    simp only [allW, List.all_cons, Bool.and_eq_true, decide_eq_true_eq] at h
    have := ih h.2
    simp only [List.sum_cons, List.length_cons]
    omega
theorem allW_take {l : List Int} (h : allW l = true) (k : Nat) : allW (l.take k) = true := by
  unfold allW at *
  rw [List.all_eq_true] at *
  exact fun x hx => h x (List.mem_of_mem_take hx)

set_option maxHeartbeats 1000000 in
theorem sum_calls {F : Nat → Prop} (A : Option Addr) (c : Nat) (l : List Int) (w : World) (h : SlAt (pI .i64) F w A c l) :
    Calls Tryd.prog 13 #[.slice A l.length c] w (IntPost (sumW l) w) := by
  have hmx := h.lenle
  have H := Lib.hid h; clear h
  by_cases hbig : 200 < l.length
  · go_enter Tryd.func13, Tryd.ntmps13
    go_wp2
    go_ret
    exact ⟨ret_int (by unfold sumW; rw [if_pos hbig]), Below.refl _ _⟩
  · have hle : l.length ≤ 200 := by omega
    have Hbig := Lib.hid hbig; clear hbig
    go_enter Tryd.func13, Tryd.ntmps13
    go_wp2
    go_loop [4, 3] (fun i n => ∃ k : Nat, k ≤ l.length ∧ i = .int .i64 k ∧ ∃ x : Int, n = .int .i64 x ∧ Hid (allW l = allW (l.drop k)) ∧ Hid (l.sum = x + (l.drop k).sum) ∧ 0 ≤ x ∧ x ≤ k * 1000000000) (fun i _ => l.length - (intOf i).toNat)
    case atStart => exact ⟨0, Nat.zero_le _, rfl, 0, rfl, rfl, by unfold Hid; simp, by omega, by omega⟩
    case round =>
      obtain ⟨k, hk, rfl, x, rfl, hall, hsum, hx0, hx1⟩ := hrel
      by_cases hlt : k < l.length
      · obtain ⟨b, o, y, hd, rfl, _, hc, _⟩ := H.out.getI hlt
        by_cases hy0 : y < 0
        · go_wp2
          go_ret
          refine ⟨ret_int ?_, Below.refl _ _⟩
          unfold sumW; rw [if_neg Hbig.out, if_neg]
          rw [hall.out, hd.out]; simp [allW]; omega
        · by_cases hy1 : 1000000000 < y
          · go_wp2
            go_ret
            refine ⟨ret_int ?_, Below.refl _ _⟩
            unfold sumW; rw [if_neg Hbig.out, if_neg]
            rw [hall.out, hd.out]; simp [allW]; omega
          · go_wp2
            go_round
            case rel =>
              refine ⟨k + 1, by omega, by go_num, x + y, by go_num, ?_, ?_, by omega, by omega⟩
              · unfold Hid; rw [hall.out, hd.out]
                have : (decide (0 ≤ y) && decide (y ≤ 1000000000)) = true := by simp; omega
                simp only [allW, List.all_cons, this, Bool.true_and]
              · unfold Hid; rw [hsum.out, hd.out, List.sum_cons]; omega
            case measure => simp [intOf]; omega
      · have hs : l.sum = x := by rw [hsum.out, drop_end hlt]; simp
        have ha : allW l = true := by rw [hall.out, drop_end hlt]; rfl
        have Hs := Lib.hid hs; have Ha := Lib.hid ha; clear hs ha
        by_cases hb : 1000000000 < x
        · go_wp2
          go_ret
          exact ⟨ret_int (by unfold sumW; rw [if_neg Hbig.out, if_pos Ha.out, Hs.out, if_pos hb]), Below.refl _ _⟩
        · go_wp2
          go_ret
          exact ⟨ret_int (by unfold sumW; rw [if_neg Hbig.out, if_pos Ha.out, Hs.out, if_neg (by omega)]), Below.refl _ _⟩
end Go.Proofs.YtcdmmejicmbagaaDoor
