/-
  Layer 10: the walks of square, Square, Great, Same, SameRows over matrices.
-/
import Derived.Test.YtflojbohcippnaaProg
import Derived.Test.YtflojbohcippnaaBase
import Derived.Deep.QuietTactic
import Derived.BigQuiet
namespace Go.Proofs.Ytflojbohcippnaa
open Go.RowKit

abbrev pMat := pSl (pSl (pI .i64))

def inRange (x : Int) : Bool := decide (0 ≤ x) && decide (x ≤ 1000000000000000)
def rowOk (n : Nat) (r : List Int) : Bool := r.length == n && r.all inRange
def squareF (a : List (List Int)) : Bool := a.all (rowOk a.length) && decide (a.length ≤ 12)

theorem rowOk_len {n : Nat} {r : List Int} (h : r.length ≠ n) : rowOk n r = false := by unfold rowOk; simp [h]
theorem inRange_no {x : Int} (h : x < 0 ∨ 1000000000000000 < x) : inRange x = false := by unfold inRange; simp; omega
theorem inRange_yes {x : Int} (h0 : ¬ x < 0) (h1 : ¬ 1000000000000000 < x) : inRange x = true := by unfold inRange; simp; omega

/-! ### comparing -/
def sameF (a b : List Int) : Bool := a == b
set_option maxHeartbeats 400000 in
theorem same_calls {F G : Nat → Prop} (A B : Option Addr) (cap cap' : Nat) (xs ys : List Int) (w : World) (h : SlAt (pI .i64) F w A cap xs) (h' : SlAt (pI .i64) G w B cap' ys) :
    Calls Try.prog 30 #[.slice A xs.length cap, .slice B ys.length cap'] w fun e w' => e = .returned (.bool (xs == ys)) ∧ ∃ n, w' = w.drewN n := by
  have hmx := h.lenle
  have hmy := h'.lenle
  by_cases hl : xs.length = ys.length
  · have e0 : ((xs.length : Int) != (ys.length : Int)) = false := by simp [hl]
    have Hl := Lib.hid hl; clear hl
    go_enter Try.func30, Try.ntmps30
    go_wp2
    go_loopw [5] (fun i wr => ∃ k : Nat, k ≤ xs.length ∧ i = .int .i64 k ∧ Hid ((xs == ys) = (xs.drop k == ys.drop k)) ∧ ∃ n, wr = w.drewN n) (fun i _ => xs.length - (intOf i).toNat)
    case atStart => exact ⟨0, Nat.zero_le _, rfl, rfl, 0, rfl⟩
    case round =>
      obtain ⟨k, hk, rfl, hin, n, rfl⟩ := hrel
      by_cases hlt : k < xs.length
      · have hlt' : k < ys.length := by rw [← Hl.out]; exact hlt
        obtain ⟨b, o, x, hdx, rfl, _, hc, _⟩ := h.getI hlt
        obtain ⟨b', o', y, hdy, rfl, _, hc', _⟩ := h'.getI hlt'
        by_cases hxy : x = y
        · have e1 : (x != y) = false := by simp [hxy]
          have Hxy := Lib.hid hxy; clear hxy
          go_wp2
          go_quiet (fail)
          go_wp2
          go_roundw
          case rel =>
            refine ⟨k + 1, by omega, by go_num, ?_, _, rfl⟩
            unfold Hid; rw [hin.out, hdx.out, hdy.out, Hxy.out]; simp
          case measure => simp [intOf]; omega
        · have e1 : (x != y) = true := by simp [hxy]
          have Hxy := Lib.hid hxy; clear hxy
          go_wp2
          go_quiet (fail)
          go_wp2
          go_ret
          refine ⟨ret_bool ?_, _, World.drewN_drewN _ _ _⟩
          rw [hin.out, hdx.out, hdy.out, List.cons_beq_cons, beq_false_of_ne Hxy.out]; rfl
      · go_wp2
        go_ret
        refine ⟨ret_bool ?_, n, rfl⟩
        rw [hin.out, drop_end hlt, drop_end (by rw [← Hl.out]; exact hlt)]; rfl
  · have e0 : ((xs.length : Int) != (ys.length : Int)) = true := by simp; omega
    go_enter Try.func30, Try.ntmps30
    go_wp2
    go_ret
    refine ⟨ret_bool ?_, 0, rfl⟩
    cases hb : xs == ys
    · rfl
    · exact absurd (congrArg List.length (eq_of_beq hb)) hl

set_option maxHeartbeats 400000 in
theorem sameRows_calls {F G : Nat → Prop} (A B : Option Addr) (cap cap' : Nat) (xs ys : List (List Int)) (w : World) (h : SlAt (pSl (pI .i64)) F w A cap xs) (h' : SlAt (pSl (pI .i64)) G w B cap' ys) :
    Calls Try.prog 16 #[.slice A xs.length cap, .slice B ys.length cap'] w fun e w' => e = .returned (.bool (xs == ys)) ∧ ∃ n, w' = w.drewN n := by
  have hmx := h.lenle
  have hmy := h'.lenle
  by_cases hl : xs.length = ys.length
  · have e0 : ((xs.length : Int) != (ys.length : Int)) = false := by simp [hl]
    have Hl := Lib.hid hl; clear hl
    go_enter Try.func16, Try.ntmps16
    go_wp2
    go_loopw [5] (fun i wr => ∃ k : Nat, k ≤ xs.length ∧ i = .int .i64 k ∧ Hid ((xs == ys) = (xs.drop k == ys.drop k)) ∧ ∃ n, wr = w.drewN n) (fun i _ => xs.length - (intOf i).toNat)
    case atStart => exact ⟨0, Nat.zero_le _, rfl, rfl, 0, rfl⟩
    case round =>
      obtain ⟨k, hk, rfl, hin, hw⟩ := hrel
      have Hw := Lib.hid hw; clear hw
      by_cases hlt : k < xs.length
      · have hlt' : k < ys.length := by rw [← Hl.out]; exact hlt
        have kp : ∀ b : Nat, wr.heap[b]? = w.heap[b]? := by obtain ⟨n, rfl⟩ := Hw.out; intro b; rfl
        obtain ⟨b, o, A', c', x, hdx, rfl, _, hc, hrx, hlx⟩ := (h.keep (w' := wr) fun b _ => kp b).getSl hlt
        obtain ⟨b', o', B', c2', y, hdy, rfl, _, hc', hry, hly⟩ := (h'.keep (w' := wr) fun b _ => kp b).getSl hlt'
        have Hh := Lib.hid h; clear h
        have Hh' := Lib.hid h'; clear h'
        clear kp
        have key : ∀ n, Calls Try.prog 30 #[.slice A' x.length c', .slice B' y.length c2'] (wr.drewN n) fun e w' => e = .returned (.bool (x == y)) ∧ ∃ m, w' = wr.drewN m := fun n =>
          (same_calls A' B' c' c2' x y (wr.drewN n) (hrx.out.keep (w' := wr.drewN n) fun _ _ => rfl) (hry.out.keep (w' := wr.drewN n) fun _ _ => rfl)).mono fun e w' ⟨he, m, hm⟩ => ⟨he, n + m, by rw [hm, World.drewN_drewN]⟩
        have Key := Lib.hid key; clear key
        generalize hxy : (x == y) = t at Key
        have Hxy := Lib.hid hxy; clear hxy
        go_wp2
        go_quiet ((go_at_call 30; exact Key.out _))
        cases t
        · go_wp2
          go_ret
          refine ⟨ret_bool ?_, ?_⟩
          · rw [hin.out, hdx.out, hdy.out, List.cons_beq_cons, Hxy.out]; rfl
          · obtain ⟨n, rfl⟩ := Hw.out
            exact ⟨_, World.drewN_drewN _ _ _⟩
        · go_wp2
          go_roundw
          case rel =>
            refine ⟨k + 1, by omega, by go_num, ?_, ?_⟩
            · unfold Hid; rw [hin.out, hdx.out, hdy.out, List.cons_beq_cons, Hxy.out]; rfl
            · obtain ⟨n, rfl⟩ := Hw.out
              exact ⟨_, World.drewN_drewN _ _ _⟩
          case measure => simp [intOf]; omega
      · go_wp2
        go_ret
        refine ⟨ret_bool ?_, Hw.out⟩
        rw [hin.out, drop_end hlt, drop_end (by rw [← Hl.out]; exact hlt)]; rfl
  · have e0 : ((xs.length : Int) != (ys.length : Int)) = true := by simp; omega
    go_enter Try.func16, Try.ntmps16
    go_wp2
    go_ret
    refine ⟨ret_bool ?_, 0, rfl⟩
    cases hb : xs == ys
    · rfl
    · exact absurd (congrArg List.length (eq_of_beq hb)) hl

/-! ### Great -/
def greatMat (a : List (List Int)) : Bool := a.any (fun r => decide (30 < r.length)) || decide (30 < a.length)
end Go.Proofs.Ytflojbohcippnaa
