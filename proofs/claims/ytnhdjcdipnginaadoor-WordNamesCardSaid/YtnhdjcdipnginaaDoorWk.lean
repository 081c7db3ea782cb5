/-
  Layer 6: the walks of equal, word.Same, Count, Depth.
-/
import Derived.Test.YtnhdjcdipnginaaDoorWj
namespace Go.Proofs.YtnhdjcdipnginaaDoor
open Go.RowKit

set_option maxHeartbeats 1000000 in
theorem equal_calls {F G : Nat → Prop} (A B : Option Addr) (cap cap' : Nat) (xs ys : List Int) (w : World) (h : SlAt (pI .i64) F w A cap xs) (h' : SlAt (pI .i64) G w B cap' ys) :
    Calls Tryd.prog 41 #[.slice A xs.length cap, .slice B ys.length cap'] w fun e w' => e = .returned (.bool (xs == ys)) ∧ ∃ n, w' = w.drewN n := by
  have hmx := h.lenle
  have hmy := h'.lenle
  by_cases hl : xs.length = ys.length
  · have e0 : ((xs.length : Int) != (ys.length : Int)) = false := by simp [hl]
    have Hl := Lib.hid hl; clear hl
    go_enter Tryd.func41, Tryd.ntmps41
    go_wp2
    go_loopw [13] (fun i wr => ∃ k : Nat, k ≤ xs.length ∧ i = .int .i64 k ∧ Hid ((xs == ys) = (xs.drop k == ys.drop k)) ∧ ∃ n, wr = w.drewN n) (fun i _ => xs.length - (intOf i).toNat)
    case atStart => exact ⟨0, Nat.zero_le _, rfl, rfl, 0, rfl⟩
    case round =>
      obtain ⟨k, hk, rfl, hin, n, rfl⟩ := hrel
      by_cases hlt : k < xs.length
      · have hlt' : k < ys.length := by rw [← Hl.out]; exact hlt
        obtain ⟨b, o, x, hdx, rfl, _, hc, _⟩ := h.getI hlt
        obtain ⟨b', o', y, hdy, rfl, _, hc', _⟩ := h'.getI hlt'
        by_cases hxy : x = y
        · have e1 : (x != y) = false := by simp [hxy]
          have Hxy := Lib.hid hxy; clear hxy
          go_wp2
          go_quiet (fail)
          go_wp2
          go_roundw
          case rel =>
            refine ⟨k + 1, by omega, by go_num, ?_, _, rfl⟩
            unfold Hid; rw [hin.out, hdx.out, hdy.out, Hxy.out]; simp
          case measure => simp [intOf]; omega
        · have e1 : (x != y) = true := by simp [hxy]
          have Hxy := Lib.hid hxy; clear hxy
          go_wp2
          go_quiet (fail)
          go_wp2
          go_ret
          refine ⟨ret_bool ?_, _, World.drewN_drewN _ _ _⟩
          rw [hin.out, hdx.out, hdy.out, List.cons_beq_cons, beq_false_of_ne Hxy.out]; rfl
      · go_wp2
        go_ret
        refine ⟨ret_bool ?_, n, rfl⟩
        rw [hin.out, drop_end hlt, drop_end (by rw [← Hl.out]; exact hlt)]; rfl
  · have e0 : ((xs.length : Int) != (ys.length : Int)) = true := by simp; omega
    go_enter Tryd.func41, Tryd.ntmps41
    go_wp2
    go_ret
    refine ⟨ret_bool ?_, 0, rfl⟩
    cases hb : xs == ys
    · rfl
    · exact absurd (congrArg List.length (eq_of_beq hb)) hl

set_option maxRecDepth 100000 in
set_option maxHeartbeats 1000000 in
theorem wordSame_calls {F G : Nat → Prop} (A B : Option Addr) (cap cap' : Nat) (xs ys : List Mod) (w : World) (h : SlAt pMod F w A cap xs) (h' : SlAt pMod G w B cap' ys) :
    Calls Tryd.prog 25 #[.slice A xs.length cap, .slice B ys.length cap'] w (BoolPost (xs == ys) w) := by
  have hmx := h.lenle
  have hmy := h'.lenle
  have H := Lib.hid h; clear h
  have H' := Lib.hid h'; clear h'
  by_cases hl : xs.length = ys.length
  · have e0 : ((xs.length : Int) != (ys.length : Int)) = false := by simp [hl]
    have Hl := Lib.hid hl; clear hl
    go_enter Tryd.func25, Tryd.ntmps25
    go_wp2
    go_loopw [13] (fun i wr => ∃ k : Nat, k ≤ xs.length ∧ i = .int .i64 k ∧ Hid ((xs == ys) = (xs.drop k == ys.drop k)) ∧ ∃ n, wr = w.drewN n) (fun i _ => xs.length - (intOf i).toNat)
    case atStart => exact ⟨0, Nat.zero_le _, rfl, rfl, 0, rfl⟩
    case round =>
      obtain ⟨k, hk, rfl, hin, hw⟩ := hrel
      have Hw := Lib.hid hw; clear hw
      have hbw : ∀ n : Nat, Below w.heap.size w (wr.drewN n) := fun n => by obtain ⟨m, rfl⟩ := Hw.out; exact below_drewN (below_drewN (Below.refl _ _) m) n
      have Hbw := Lib.hid hbw; clear hbw
      by_cases hlt : k < xs.length
      · have hlt' : k < ys.length := by rw [← Hl.out]; exact hlt
        have kp : ∀ b : Nat, wr.heap[b]? = w.heap[b]? := by obtain ⟨n, rfl⟩ := Hw.out; intro b; rfl
        obtain ⟨b, o, A', c', m, hdx, rfl, _, hx0, hx1, _, hrx, hlx⟩ := (H.out.keep (w' := wr) fun b _ => kp b).getMod hlt
        obtain ⟨b', o', B', c2', m', hdy, rfl, _, hy0, hy1, _, hry, hly⟩ := (H'.out.keep (w' := wr) fun b _ => kp b).getMod hlt'
        clear kp
        by_cases hn : m.name = m'.name
        · have e1 : (m.name != m'.name) = false := by simp [hn]
          have Hn := Lib.hid hn; clear hn
          have key : ∀ n, Calls Tryd.prog 41 #[.slice A' m.args.length c', .slice B' m'.args.length c2'] (wr.drewN n) fun e w' => e = .returned (.bool (m.args == m'.args)) ∧ ∃ j, w' = wr.drewN j := fun n =>
            (equal_calls A' B' c' c2' m.args m'.args (wr.drewN n) (hrx.out.keep (w' := wr.drewN n) fun _ _ => rfl) (hry.out.keep (w' := wr.drewN n) fun _ _ => rfl)).mono fun e w' ⟨he, j, hj⟩ => ⟨he, n + j, by rw [hj, World.drewN_drewN]⟩
          have Key := Lib.hid key; clear key
          generalize hxy : (m.args == m'.args) = t at Key
          have Hxy := Lib.hid hxy; clear hxy
          have hmm : (m == m') = t := by rw [beq_mod, Hn.out, Hxy.out]; simp
          have Hmm := Lib.hid hmm; clear hmm
          go_wp2
          go_quiet ((go_at_call 41; exact Key.out _))
          cases t
          · go_wp2
            go_ret
            refine ⟨ret_bool ?_, Hbw.out _⟩
            rw [hin.out, hdx.out, hdy.out, List.cons_beq_cons, Hmm.out]; rfl
          · go_wp2
            go_roundw
            case rel =>
              refine ⟨k + 1, by omega, by go_num, ?_, ?_⟩
              · unfold Hid; rw [hin.out, hdx.out, hdy.out, List.cons_beq_cons, Hmm.out]; rfl
              · obtain ⟨n, rfl⟩ := Hw.out
                exact ⟨_, World.drewN_drewN _ _ _⟩
            case measure => simp [intOf]; omega
        · have e1 : (m.name != m'.name) = true := by simp [hn]
          have Hn := Lib.hid hn; clear hn
          go_wp2
          go_quiet (fail)
          go_wp2
          go_ret
          refine ⟨ret_bool ?_, Hbw.out _⟩
          rw [hin.out, hdx.out, hdy.out, List.cons_beq_cons, beq_mod, beq_false_of_ne Hn.out]; rfl
      · go_wp2
        go_ret
        refine ⟨ret_bool ?_, Hbw.out 0⟩
        rw [hin.out, drop_end hlt, drop_end (by rw [← Hl.out]; exact hlt)]; rfl
  · have e0 : ((xs.length : Int) != (ys.length : Int)) = true := by simp; omega
    have Hl := Lib.hid hl; clear hl
    go_enter Tryd.func25, Tryd.ntmps25
    go_wp2
    go_ret
    refine ⟨ret_bool ?_, Below.refl _ _⟩
    cases hb : xs == ys
    · rfl
    · exact absurd (congrArg List.length (eq_of_beq hb)) Hl.out

/-! ### Count -/
def countF (c : Int) (ms : List Mod) : Nat := ms.countP (fun m => m.name == c)
set_option maxRecDepth 100000 in
set_option maxHeartbeats 1000000 in
theorem count_calls (A : Option Addr) (c : Nat) (ms : List Mod) (nm : Int) (w : World) (h : SlAt pMod (Old w) w A c ms) :
    Calls Tryd.prog 24 #[.slice A ms.length c, .int .u8 nm] w (IntPost (countF nm ms) w) := by
  have hmx := h.lenle
  have H := Lib.hid h; clear h
  go_enter Tryd.func24, Tryd.ntmps24
  go_wp2
  go_loopw [10, 5] (fun i n wr => ∃ k q : Nat, k ≤ ms.length ∧ q ≤ k ∧ i = .int .i64 k ∧ n = .int .i64 q ∧ Hid (countF nm ms = q + countF nm (ms.drop k)) ∧ Hid (Below w.heap.size w wr)) (fun i _ _ => ms.length - (intOf i).toNat)
  case atStart => exact ⟨0, 0, Nat.zero_le _, Nat.le_refl _, rfl, rfl, by unfold Hid; simp, Below.refl _ _⟩
  case round =>
    obtain ⟨k, q, hk, hq, rfl, rfl, hc, hb⟩ := hrel
    obtain ⟨wo, rfl⟩ : ∃ wo : World, wo = wr := ⟨_, rfl⟩
    by_cases hlt : k < ms.length
    · obtain ⟨b, o, A', c', m, hd, rfl, _, hx0, hx1, _, _, _⟩ := (H.out.below hb.out).getMod hlt
      cases hn : (m.name == nm)
      · go_wp2
        go_roundw
        case rel =>
          refine ⟨k + 1, q, by omega, by omega, by go_num, rfl, ?_, hb.out.alloc hb.out.size _⟩
          unfold Hid; rw [hc.out, hd.out]; unfold countF; rw [List.countP_cons, hn]; simp
        case measure => simp [intOf]; omega
      · go_wp2
        go_roundw
        case rel =>
          refine ⟨k + 1, q + 1, by omega, by omega, by go_num, by go_num, ?_, hb.out.alloc hb.out.size _⟩
          unfold Hid; rw [hc.out, hd.out]; unfold countF; rw [List.countP_cons, hn]; simp; omega
        case measure => simp [intOf]; omega
    · go_wp2
      go_ret
      exact ⟨ret_int (by rw [hc.out, drop_end hlt]; simp [countF]), hb.out⟩
end Go.Proofs.YtnhdjcdipnginaaDoor
