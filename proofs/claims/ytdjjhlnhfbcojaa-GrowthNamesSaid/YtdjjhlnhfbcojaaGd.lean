/-
  GrowthTimes, the walk of the law: it returns true.
-/
import Derived.Test.YtdjjhlnhfbcojaaGc
namespace Go.Proofs.Ytdjjhlnhfbcojaa
open Go.RowKit

/-- what both products return: the error and the matrix (empty with an error) -/
def timesRes (xs ys : List (List Int)) : Int × List (List Int) :=
  if timesOk xs ys = false then (8, []) else match timesGo ys xs with
  | none => (16, [])
  | some r => (0, r)
theorem times_uniform {xs ys : List (List Int)} {w0 w1 : World} {e : Ending} (h : TimesPost xs ys w0 e w1) :
    Below w0.heap.size w0 w1 ∧ ∃ (A : Option Addr) (c : Nat), e = .returned (.tuple #[.slice A (timesRes xs ys).2.length c, .int .i64 (timesRes xs ys).1]) ∧ SlAt (pSl (pI .i64)) (Old w1) w1 A c (timesRes xs ys).2 := by
  have nil : ∀ w : World, SlAt (pSl (pI .i64)) (Old w) w none 0 ([] : List (List Int)) := fun w => ⟨Nat.le_refl _, Nat.zero_le _, (fun _ => rfl), fun i x hx => by simp at hx⟩
  obtain ⟨hb, ⟨h1, rfl⟩ | ⟨h1, h2, rfl⟩ | ⟨h1, r, A, c, h2, rfl, h3⟩⟩ := h
  · have : timesRes xs ys = (8, []) := by unfold timesRes; rw [if_pos h1]
    rw [this]; exact ⟨hb, none, 0, rfl, nil _⟩
  · have : timesRes xs ys = (16, []) := by unfold timesRes; rw [if_neg (by rw [h1]; decide), h2]
    rw [this]; exact ⟨hb, none, 0, rfl, nil _⟩
  · have : timesRes xs ys = (0, r) := by unfold timesRes; rw [if_neg (by rw [h1]; decide), h2]
    rw [this]; exact ⟨hb, A, c, rfl, h3.wide fun k hk => hk.2⟩

theorem greatMat_no {a : List (List Int)} (h : greatMat a = false) : a.length ≤ 30 ∧ ∀ r ∈ a, r.length ≤ 30 := by
  unfold greatMat at h
  rw [Bool.or_eq_false_iff, List.any_eq_false] at h
  refine ⟨by simpa using h.2, fun r hr => by simpa using h.1 r hr⟩

set_option maxRecDepth 100000 in
set_option maxHeartbeats 1000000 in
theorem growthTimes_walk (A B : Option Addr) (cap cap' : Nat) (xs ys : List (List Int)) (w : World) (h : SlAt (pSl (pI .i64)) (Old w) w A cap xs) (h' : SlAt (pSl (pI .i64)) (Old w) w B cap' ys) :
    Calls Try.prog 3 #[.slice A xs.length cap, .slice B ys.length cap'] w fun e w' => e = .returned (.bool true) ∧ Below w.heap.size w w' := by
  have hmx := h.lenle
  have hmy := h'.lenle
  have H := Lib.hid h; clear h
  have H' := Lib.hid h'; clear h'
  cases hga : greatMat xs
  · cases hgb : greatMat ys
    · obtain ⟨hx30, hxr⟩ := greatMat_no hga
      have Hxr := Lib.hid hxr; clear hxr
      go_enter Try.func3, Try.ntmps3
      go_wp2_with (go_at_call 9; first | ((with_reducible refine (greatMat_calls _ _ _ _ H.out).mono ?_); rintro e w' ⟨rfl, rfl⟩) | ((with_reducible refine (greatMat_calls _ _ _ _ H'.out).mono ?_); rintro e w' ⟨rfl, rfl⟩))
      clear hga hgb
      go_loopw [6, 5] (fun i out wr => ∃ k : Nat, k ≤ xs.length ∧ i = .int .i64 k ∧ Hid (Below w.heap.size w wr) ∧ w.heap.size ≤ wr.heap.size ∧ ∃ done : List (List Int), Hid (done = xs.take k) ∧
        Hid (Own (pSl (pI .i64)) 24 w.heap.size (w.heap.size ≤ ·) wr out done)) (fun i _ _ => xs.length - (intOf i).toNat)
      case atStart => exact ⟨0, Nat.zero_le _, rfl, Below.refl _ _, Nat.le_refl _, [], by unfold Hid; simp, Own.nil⟩
      case round =>
        obtain ⟨k, hk, rfl, hb, hsz, done, Hdl, hown⟩ := hrel
        obtain ⟨out, rfl⟩ : ∃ out, out = u5 := ⟨_, rfl⟩
        obtain ⟨wo, rfl⟩ : ∃ wo : World, wo = wr := ⟨_, rfl⟩
        by_cases hlt : k < xs.length
        · obtain ⟨b, o, A', c', r, hd, rfl, hob, hcell, hrow, hrl⟩ := (H.out.below hb.out).getSl hlt
          have hob' : b < wo.heap.size := Nat.lt_of_lt_of_le hob hsz
          have hr30 : r.length ≤ 30 := Hxr.out _ (mem_of_drop hd.out)
          have hd30 : done.length ≤ 30 := by rw [Hdl.out]; simp; omega
          go_wp2_with (first
            | (at_builtin; refine wpList_cat (E := pI .i64) (xs := []) (v := .slice (some ⟨wo.heap.size, 0, none⟩) 0 0) (base := wo.heap.size) (G := fun _ => True) 24 2 (.int .i64 0) 8 (.tmp 24) (.tmp 28) rfl rfl Try.underlying24 info_int64 rfl (by decide) rfl (Own.empty (Nat.le_refl _)) A' c' r rfl (fun k => k < w.heap.size) ?a1 ?a2 r.length rfl ?a3 ?a4 ?a5 ?_; rotate_right; intro A1 c1 w1 hown1 hb1 hk1; have Hown1 := Lib.hid hown1; clear hown1)
            | (refine wpList_push (E := pSl (pI .i64)) (xs := done) (v := out) (base := w.heap.size) (G := (w.heap.size ≤ ·)) 22 24 (.slice none 0 0) 24 30 (.tmp 23) (.tmp 29) rfl rfl rfl rfl rfl Try.underlying22 info_sl64 rfl (by decide) (fun _ => rfl) (fun _ => rfl) ?b0 (.slice A1 r.length c1) rfl r (fun q => wo.heap.size ≤ q ∧ q < w1.heap.size) ?b2 ?b3 ?b4 ?b5 ?b6 ?_; rotate_right; intro A2 c2 w2 hown2 hb2 hk2))
          case b0 => exact hown.out.keep (fun q hq => (hb1.block q hq).trans (Below.heap_alloc _ _ _ hq)) (Nat.le_trans (by simp) hb1.size)
          case b2 => exact ⟨A1, c1, rfl, by obtain ⟨A3, c3, h3, h4⟩ := (Hown1.out.flat (pI_flat _)).fresh; cases h3; exact h4⟩
          case b3 =>
            intro q hq
            refine ⟨by omega, hq.2, fun he => ?_⟩
            have := hown.out.lt q he.symm
            omega
          case b4 => exact room_of (by omega)
          case b5 => exact ⟨by decide, by decide⟩
          case b6 => have := hb1.size; simp at this; omega
          case a1 => exact (hrow.out.wide fun q hq => hq).keep fun q hq => Below.heap_alloc _ _ _ (Nat.lt_of_lt_of_le hq hsz)
          case a2 =>
            intro q hq
            refine ⟨trivial, by simp; omega, fun he => ?_⟩
            simp [Value.ownBlock] at he
            omega
          case a3 => exact room_of (by omega)
          case a4 => decide
          case a5 => simp
          have hsz1 := hb1.size
          simp at hsz1
          have hbw : Below w.heap.size w w2 := ((hb.out.alloc hsz _).trans (hb1.mono hsz)).trans hb2
          go_roundw
          case rel =>
            refine ⟨k + 1, by omega, by go_num, hbw, hbw.size, done ++ [r], ?_, hown2⟩
            unfold Hid; rw [take_of_drop hd.out, Hdl.out]
          case measure => simp [intOf]; omega
        · obtain rfl : k = xs.length := by omega
          obtain ⟨Aw, cw, hv, hsw⟩ := hown.out.sl
          subst hv
          have hdx : done = xs := by rw [Hdl.out, List.take_length]
          have Hdx := Lib.hid hdx; clear hdx
          have Hsw := Lib.hid hsw; clear hsw
          have h1 := (H.out.below hb.out).wide (F' := Old wo) fun q hq => Nat.lt_of_lt_of_le hq hsz
          have h2 := (H'.out.below hb.out).wide (F' := Old wo) fun q hq => Nat.lt_of_lt_of_le hq hsz
          have H1 := Lib.hid h1; clear h1
          have H2 := Lib.hid h2; clear h2
          go_wp2_with fail
          refine (times_calls _ _ _ _ _ _ _ H1.out H2.out).mono ?_
          intro e1 w1 ht1
          obtain ⟨hb1, A3, c3, rfl, hr3⟩ := times_uniform ht1
          clear ht1
          have H1' := Lib.hid (H1.out.later hb1)
          have H2' := Lib.hid (H2.out.later hb1)
          have Hb1 := Lib.hid hb1
          have hs1 := hb1.size
          clear hb1
          generalize hT : timesRes xs ys = T at hr3
          have HT := Lib.hid hT; clear hT
          have Hr3 := Lib.hid hr3; clear hr3
          go_wp2_with fail
          refine (refTimes_calls _ _ _ _ _ _ _ H1'.out H2'.out).mono ?_
          intro e2 w2 ht2
          obtain ⟨hb2, A4, c4, rfl, hr4⟩ := times_uniform ht2
          clear ht2
          rw [HT.out] at hr4 ⊢
          have Hr4 := Lib.hid hr4; clear hr4
          have hs2 := hb2.size
          have Hb2 := Lib.hid hb2; clear hb2
          go_wp2_with fail
          refine (sameRows_calls A3 A4 c3 c4 T.2 T.2 w2 (Hr3.out.later Hb2.out) Hr4.out).mono ?_
          rintro e3 w3 ⟨rfl, n3, rfl⟩
          rw [show (T.2 == T.2) = true from beq_self_eq_true _]
          go_wp2_with fail
          refine (sameRows_calls _ _ _ _ xs done (w2.drewN n3) ((H1'.out.later Hb2.out).keep fun _ _ => rfl) ((((Hsw.out.keep (fun q hq => Hb1.out.block q hq.2)).keep (fun q hq => Hb2.out.block q (Nat.lt_of_lt_of_le hq.2 hs1))).keep (w' := w2.drewN n3) fun _ _ => rfl))).mono ?_
          rintro e4 w4 ⟨rfl, n4, rfl⟩
          rw [show (xs == done) = true from by rw [Hdx.out]; exact beq_self_eq_true _]
          go_wp2_with fail
          go_ret
          exact ⟨rfl, below_drewN ((hb.out.trans (Hb1.out.mono hsz)).trans (Hb2.out.mono (Nat.le_trans hsz hs1))) _⟩
    · go_enter Try.func3, Try.ntmps3
      go_wp2_with (go_at_call 9; first | ((with_reducible refine (greatMat_calls _ _ _ _ H.out).mono ?_); rintro e w' ⟨rfl, rfl⟩) | ((with_reducible refine (greatMat_calls _ _ _ _ H'.out).mono ?_); rintro e w' ⟨rfl, rfl⟩))
      go_ret
      exact ⟨rfl, Below.refl _ _⟩
  · go_enter Try.func3, Try.ntmps3
    go_wp2_with (go_at_call 9; refine (greatMat_calls _ _ _ _ H.out).mono ?_; rintro e w' ⟨rfl, rfl⟩)
    go_ret
    exact ⟨rfl, Below.refl _ _⟩

theorem opens_mat : Opens Try.prog 22 (pSl (pSl (pI .i64))) :=
  opens_slice Try.underlying22 (by kernel_rfl) (by decide) (opens_slice Try.underlying24 (by kernel_rfl) (by decide) (opens_int Try.underlying2))

end Go.Proofs.Ytdjjhlnhfbcojaa
