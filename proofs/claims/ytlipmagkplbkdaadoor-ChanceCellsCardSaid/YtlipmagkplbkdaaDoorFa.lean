/-
  Layer 7: the walks of form, Form, worth, Worth.
-/
import Derived.Test.YtlipmagkplbkdaaDoorFp
import Derived.Deep.QuietTactic
import Derived.BigQuiet
namespace Go.Proofs.YtlipmagkplbkdaaDoor
open Go.RowKit


set_option maxRecDepth 100000 in
set_option maxHeartbeats 1000000 in
theorem form_calls {F : Nat → Prop} (A : Option Addr) (c : Nat) (f : Frm) (n : Nat) (w : World) (h : SlAt (pI .i64) F w A c f.coefs) (hF : ∀ k, F k → k < w.heap.size) (hc : Fits .i64 f.const) (_hn : n ≤ 9223372036854775807) :
    Calls Tryd.prog 76 #[.agg #[.int .i64 f.const, .slice A f.coefs.length c], .int .i64 n] w (BoolPost (formF f n) w) := by
  obtain ⟨co, xs⟩ := f
  simp only at h hc ⊢
  have hmx := h.lenle
  have hc' := hc.i64
  have hb0 : Below w.heap.size w (w.alloc (.cells #[.int .i64 co, .slice A xs.length c] 70)) := (Below.refl _ _).alloc (Nat.le_refl _) _
  have h2 := h.keep (w' := w.alloc (.cells #[.int .i64 co, .slice A xs.length c] 70)) fun k hk => Below.heap_alloc _ _ _ (hF k hk)
  have H2 := Lib.hid h2; have Hb0 := Lib.hid hb0
  clear h h2 hb0 hF
  go_enter Tryd.func76, Tryd.ntmps76
  go_wp2
  go_loop [10] (fun i => ∃ k : Nat, k ≤ xs.length ∧ i = .int .i64 k ∧ Hid (xs.all inC = (xs.drop k).all inC)) (fun i => xs.length - (intOf i).toNat)
  case atStart => exact ⟨0, Nat.zero_le _, rfl, rfl⟩
  case round =>
    obtain ⟨k, hk, rfl, hall⟩ := hrel
    by_cases hlt : k < xs.length
    · obtain ⟨b, o, x, hd, rfl, _, hcx, hfx⟩ := H2.out.getI hlt
      have hfx' := hfx.i64
      by_cases h0 : x < -1000000
      · have hno : formF ⟨co, xs⟩ n = false := by
          unfold formF; rw [hall.out, hd.out, List.all_cons, show inC x = false from by unfold inC; simp; omega]; simp
        have Hno := Lib.hid hno; clear hno
        go_wp2
        go_ret
        exact ⟨by rw [Hno.out]; rfl, Hb0.out⟩
      · by_cases h1 : 1000000 < x
        · have hno : formF ⟨co, xs⟩ n = false := by
            unfold formF; rw [hall.out, hd.out, List.all_cons, show inC x = false from by unfold inC; simp; omega]; simp
          have Hno := Lib.hid hno; clear hno
          go_wp2
          go_ret
          exact ⟨by rw [Hno.out]; rfl, Hb0.out⟩
        · go_wp2
          go_round
          case rel =>
            refine ⟨k + 1, by omega, by go_num, ?_⟩
            unfold Hid; rw [hall.out, hd.out, List.all_cons, show inC x = true from by unfold inC; simp; omega]; rfl
          case measure => simp [intOf]; omega
    · have ha : xs.all inC = true := by rw [hall.out, drop_end hlt]; rfl
      have Ha := Lib.hid ha; clear ha
      by_cases h0 : co < -1000000
      · have hno : formF ⟨co, xs⟩ n = false := by
          unfold formF; rw [show inC co = false from by unfold inC; simp; omega]; simp
        have Hno := Lib.hid hno; clear hno
        go_wp2
        go_ret
        exact ⟨by rw [Hno.out]; rfl, Hb0.out⟩
      · by_cases h1 : 1000000 < co
        · have hno : formF ⟨co, xs⟩ n = false := by
            unfold formF; rw [show inC co = false from by unfold inC; simp; omega]; simp
          have Hno := Lib.hid hno; clear hno
          go_wp2
          go_ret
          exact ⟨by rw [Hno.out]; rfl, Hb0.out⟩
        · have hyes : formF ⟨co, xs⟩ n = (xs.length == n) := by
            unfold formF; rw [show inC co = true from by unfold inC; simp; omega, Ha.out]; simp
          have Hyes := Lib.hid hyes; clear hyes
          by_cases hl : xs.length = n
          · have e1 : ((xs.length : Int) == (n : Int)) = true := by simp [hl]
            have e2 : (xs.length == n) = true := by simp [hl]
            clear hl
            go_wp2
            go_ret
            exact ⟨by rw [Hyes.out, e2]; rfl, Hb0.out⟩
          · have e1 : ((xs.length : Int) == (n : Int)) = false := by simp; omega
            have e2 : (xs.length == n) = false := by simp [hl]
            clear hl
            go_wp2
            go_ret
            exact ⟨by rw [Hyes.out, e2]; rfl, Hb0.out⟩
end Go.Proofs.YtlipmagkplbkdaaDoor
