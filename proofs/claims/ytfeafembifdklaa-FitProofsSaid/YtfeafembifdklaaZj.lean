/-
  Layer 43: the walks of Clone, Next, SameInts.
-/
import Derived.Test.YtfeafembifdklaaZi
namespace Go.Proofs.Ytfeafembifdklaa
open Go.RowKit Go.Sort

def ClonePost (xs : List Int) (w : World) (e : Ending) (w' : World) : Prop :=
  ∃ A c, e = .returned (.slice A xs.length c) ∧ Own (pI .i64) 3 w.heap.size (fun _ => True) w' (.slice A xs.length c) xs ∧ Below w.heap.size w w'
theorem own_empty (w : World) : Own (pI .i64) 3 w.heap.size (fun _ => True) (w.alloc (.cells #[] 3)) (.slice (some ⟨w.heap.size, 0, none⟩) 0 0) [] := Own.empty (Nat.le_refl _)
set_option maxRecDepth 100000 in
set_option maxHeartbeats 1000000 in
theorem clone_calls (A : Option Addr) (c : Nat) (xs : List Int) (w : World) (h : SlAt (pI .i64) (Old w) w A c xs) (hne : xs ≠ []) (hr : xs.length ≤ 1000000) :
    Calls Try.prog 17 #[.slice A xs.length c] w (ClonePost xs w) := by
  obtain ⟨b, o, x, _, hA, _⟩ := h.getI (i := 0) (List.length_pos_iff.2 hne)
  subst hA
  have hs : SlAt (pI .i64) (Old w) (w.alloc (.cells #[] 3)) (some ⟨b, o, none⟩) c xs := h.keep fun q hq => Below.heap_alloc _ _ _ hq
  have hF : ∀ q, Old w q → True ∧ q < (w.alloc (.cells #[] 3)).heap.size ∧ some q ≠ (Value.slice (some ⟨w.heap.size, 0, none⟩) 0 0).ownBlock := fun q hq => by
    have : q < w.heap.size := hq
    exact ⟨trivial, by simp; omega, fun he => by simp [Value.ownBlock] at he; omega⟩
  have hem := own_empty w
  have hroom : Room xs.length := room_of hr
  have hbase : w.heap.size ≤ (w.alloc (.cells #[] 3)).heap.size := by simp
  have he : ∀ w : World, (binOp .eql 22 (.slice (some ⟨b, o, none⟩) xs.length c) (.slice none 0 0)).run Try.prog w = .ok (.bool false) w := fun _ => rfl
  have Hs := Lib.hid hs; clear hs
  have HF := Lib.hid hF; clear hF
  have Hem := Lib.hid hem; clear hem
  have Hroom := Lib.hid hroom; clear hroom
  clear h hr hne
  go_enter Try.func17, Try.ntmps17
  go_wp2_with (at_builtin; refine wpList_catG (E := pI .i64) (xs := []) (v := .slice (some ⟨w.heap.size, 0, none⟩) 0 0) (base := w.heap.size) (G := fun _ => True) 22 3 (.int .i64 0) 8 (.tmp 5) (.tmp 6) rfl rfl Try.underlying22 info_intZ rfl (by decide) rfl Hem.out (some ⟨b, o, none⟩) c xs rfl (Old w) Hs.out HF.out xs.length rfl Hroom.out (by decide) hbase ?_; intro A1 c1 w1 hown hg)
  go_ret
  exact ⟨A1, c1, rfl, hown.out, ((Below.refl _ _).alloc (Nat.le_refl _) _).trans hg.out.bel⟩

def NextPost (lo hi x : List Int) (w : World) (e : Ending) (w' : World) : Prop :=
  Below w.heap.size w w' ∧ ((nextF lo hi x = none ∧ e = .returned (.tuple #[.slice none 0 0, .bool false])) ∨
    ∃ y A c, nextF lo hi x = some y ∧ e = .returned (.tuple #[.slice A y.length c, .bool true]) ∧ SlAt (pI .i64) (fun k => w.heap.size ≤ k ∧ k < w'.heap.size) w' A c y)
theorem set_take (x l : List Int) {i : Nat} (v : Int) (h : i < x.length) : (x.take (i + 1) ++ l).set i v = x.take i ++ (v :: l) := by
  apply List.ext_getElem?
  intro j
  rw [List.getElem?_set]
  have h1 : (x.take (i + 1)).length = i + 1 := by simp; omega
  have h2 : (x.take i).length = i := by simp; omega
  by_cases hij : i = j
  · subst hij
    rw [if_pos rfl, if_pos (by simp; omega), List.getElem?_append_right (by omega), h2, Nat.sub_self]; rfl
  · rw [if_neg hij]
    by_cases hj : j < i
    · rw [List.getElem?_append_left (by omega), List.getElem?_append_left (by omega), List.getElem?_take, List.getElem?_take, if_pos (by omega), if_pos hj]
    · rw [List.getElem?_append_right (by omega), List.getElem?_append_right (by omega), h1, h2, show j - i = (j - (i + 1)) + 1 from by omega]; rfl
theorem drop_cons' {l : List Int} {i : Nat} {a : Int} (h : l.drop i = a :: l.drop (i + 1)) : a :: l.drop (i + 1) = l.drop i := h.symm

set_option maxRecDepth 100000 in
set_option maxHeartbeats 4000000 in
theorem next_calls (lo hi x : List Int) (A1 : Option Addr) (c1 : Nat) (A2 : Option Addr) (c2 : Nat) (A3 : Option Addr) (c3 : Nat) (w : World) (hl : SlAt (pI .i64) (Old w) w A1 c1 lo) (hh : SlAt (pI .i64) (Old w) w A2 c2 hi) (hx : SlAt (pI .i64) (Old w) w A3 c3 x)
    (hab : allB lo hi = true) (hbox : InBox lo hi x) (hne : lo ≠ []) (h4 : lo.length ≤ 4) :
    Calls Try.prog 32 #[.slice A1 lo.length c1, .slice A2 hi.length c2, .slice A3 x.length c3] w (NextPost lo hi x w) := by
  have m1 := hl.lenle
  have m2 := hh.lenle
  have m3 := hx.lenle
  obtain ⟨hxl, hhl⟩ := inBox_len hbox
  have hxne : x ≠ [] := by intro e; rw [e] at hxl; exact hne (List.eq_nil_of_length_eq_zero hxl.symm)
  obtain ⟨b0, o0, _, _, hA, _⟩ := hx.getI (i := 0) (List.length_pos_iff.2 hxne)
  subst hA
  have hs : SlAt (pI .i64) (Old w) (w.alloc (.cells #[] 3)) (some ⟨b0, o0, none⟩) c3 x := hx.keep fun q hq => Below.heap_alloc _ _ _ hq
  have hF : ∀ q, Old w q → True ∧ q < (w.alloc (.cells #[] 3)).heap.size ∧ some q ≠ (Value.slice (some ⟨w.heap.size, 0, none⟩) 0 0).ownBlock := fun q hq => by
    have : q < w.heap.size := hq
    exact ⟨trivial, by simp; omega, fun he => by simp [Value.ownBlock] at he; omega⟩
  have hem := own_empty w
  have hroom : Room x.length := room_of (by omega)
  have hbase : w.heap.size ≤ (w.alloc (.cells #[] 3)).heap.size := by simp
  have Hs := Lib.hid hs; clear hs
  have HF := Lib.hid hF; clear hF
  have Hem := Lib.hid hem; clear hem
  have Hroom := Lib.hid hroom; clear hroom
  have Hl := Lib.hid hl; clear hl
  have Hh := Lib.hid hh; clear hh
  have Hab := Lib.hid hab; clear hab
  have Hbox := Lib.hid hbox; clear hbox
  have Hxl := Lib.hid hxl; clear hxl
  have Hhl := Lib.hid hhl; clear hhl
  have Hxne := Lib.hid hxne; clear hxne
  clear hx hne
  go_enter Try.func32, Try.ntmps32
  go_wp2_with (at_builtin; refine wpList_catG (E := pI .i64) (xs := []) (v := .slice (some ⟨w.heap.size, 0, none⟩) 0 0) (base := w.heap.size) (G := fun _ => True) 22 3 (.int .i64 0) 8 (.tmp 10) (.tmp 11) rfl rfl Try.underlying22 info_intZ rfl (by decide) rfl Hem.out (some ⟨b0, o0, none⟩) c3 x rfl (Old w) Hs.out HF.out x.length rfl Hroom.out (by decide) hbase ?_; intro A4 c4 w1 hown hg)
  have hb1 : Below w.heap.size w w1 := ((Below.refl _ _).alloc (Nat.le_refl _) _).trans hg.out.bel
  have hown' : Own (pI .i64) 3 w.heap.size (fun _ => True) w1 (.slice A4 x.length c4) x := hown.out
  obtain ⟨g, rfl, hgb, _, hc1, hc2, hrow, hfit⟩ := hown'.row Hxne.out
  have Hb1 := Lib.hid hb1; clear hb1
  have Hrow := Lib.hid hrow; clear hrow
  have Hfit := Lib.hid hfit; clear hfit
  clear hg hown hown'
  have hxlen : x.length ≤ 4 := by have := Hxl.out; omega
  have hx0 : 0 < x.length := List.length_pos_iff.2 Hxne.out
  obtain ⟨n0, hn0⟩ : ∃ n0 : Nat, x.length = n0 + 1 := ⟨x.length - 1, by omega⟩
  have hidx : (x.length : Int) - 1 = (n0 : Int) := by omega
  have Hn0 := Lib.hid hn0; clear hn0
  have Hidx := Lib.hid hidx; clear hidx
  go_loopw [9] (fun i wr => ∃ j : Nat, j ≤ x.length ∧ ((j = 0 ∧ i = .int .i64 (-1)) ∨ ∃ m : Nat, j = m + 1 ∧ i = .int .i64 m) ∧ Hid (Below w.heap.size w wr) ∧ w.heap.size ≤ wr.heap.size ∧ Hid (RowAt wr g 3 (x.take j ++ lo.drop j)) ∧ Hid (nextF (lo.drop j) (hi.drop j) (x.drop j) = none)) (fun i _ => (intOf i + 1).toNat)
  case atStart =>
    refine ⟨x.length, Nat.le_refl _, .inr ⟨n0, Hn0.out, congrArg (Value.int .i64) Hidx.out⟩, Hb1, Hb1.out.size, ?_, ?_⟩
    · unfold Hid; rw [List.take_length, List.drop_eq_nil_of_le (by rw [Hxl.out]; exact Nat.le_refl _), List.append_nil]; exact Hrow.out
    · unfold Hid; rw [List.drop_eq_nil_of_le (by rw [Hxl.out]; exact Nat.le_refl _)]; rfl
  case round =>
    obtain ⟨j, hj, hi', hb, hsz, hro, hnx⟩ := hrel
    obtain ⟨wo, rfl⟩ : ∃ wo : World, wo = wr := ⟨_, rfl⟩
    rcases hi' with ⟨rfl, rfl⟩ | ⟨m, rfl, rfl⟩
    · have hn : nextF lo hi x = none := by simpa using hnx.out
      have Hn := Lib.hid hn; clear hn
      go_wp2
      go_ret2
      exact ⟨hb.out, .inl ⟨Hn.out, rfl⟩⟩
    · have hml : m < lo.length := by have := Hxl.out; omega
      have hmh : m < hi.length := by have := Hxl.out; have := Hhl.out; omega
      obtain ⟨b1, o1, a, hd0, rfl, hob1, hca, hfa⟩ := (Hl.out.below hb.out).getI hml
      obtain ⟨b2, o2, b, hd1, rfl, hob2, hcb, hfb⟩ := (Hh.out.below hb.out).getI hmh
      obtain ⟨v, hd2⟩ : ∃ v, x.drop m = v :: x.drop (m + 1) := ⟨x[m], drop_cons (List.getElem?_eq_getElem (by omega))⟩
      have hv : (x.take (m + 1) ++ lo.drop (m + 1))[m]? = some v := by
        rw [List.getElem?_append_left (by simp; omega), List.getElem?_take, if_pos (Nat.lt_succ_self _)]
        exact get_of_drop hd2
      have hcv := hro.out.cell hv
      have hfz := hro.out.free m
      obtain ⟨ka, kb⟩ := inBox_get Hbox.out m a b v (get_of_drop hd0.out) (get_of_drop hd1.out) (get_of_drop hd2)
      have hga := hfa.i64
      have hgb' := hfb.i64
      obtain ⟨k1, k2, k3⟩ := okB_iff.1 (allB_get Hab.out m a b (get_of_drop hd0.out) (get_of_drop hd1.out))
      have step := nextF_step hd0.out hd1.out hd2 hnx.out
      have hm0 : (0 : Int) ≤ (m : Int) := Int.natCast_nonneg _
      have hm1 : (m : Int) < (x.length : Int) := by omega
      have hm2 : (m : Int) < (hi.length : Int) := by omega
      have hm3 : (m : Int) < (lo.length : Int) := by omega
      have hbg : Below w.heap.size w wo := hb.out
      have Hv := Lib.hid hv; clear hv
      have Step := Lib.hid step; clear step
      have Hbg := Lib.hid hbg; clear hbg
      have Hd2 := Lib.hid hd2; clear hd2
      by_cases hlt : v < b
      · have hy : nextF lo hi x = some (x.take m ++ (v + 1) :: lo.drop (m + 1)) := by
          refine nextF_take m (by omega) (by omega) (by omega) ?_
          rw [Step.out, if_pos hlt]
        have hyl : (x.take m ++ (v + 1) :: lo.drop (m + 1)).length = x.length := by
          have := Hxl.out
          simp; omega
        have hyf : ∀ z ∈ x.take m ++ (v + 1) :: lo.drop (m + 1), Fits .i64 z := by
          intro z hz
          rcases List.mem_append.1 hz with hz | hz
          · exact Hfit.out z (List.mem_of_mem_take hz)
          · rcases List.mem_cons.1 hz with rfl | hz
            · exact fits_i64 (by omega)
            · exact Hl.out.fits z (List.mem_of_mem_drop hz)
        have hw : ∀ n, RowAt ((wo.drewN n).setCell ⟨g, m, none⟩ (.int .i64 (v + 1))) g 3 (x.take m ++ (v + 1) :: lo.drop (m + 1)) := fun n => by
          have h1 := (hro.out.same (w' := wo.drewN n) rfl).set m (v + 1)
          rwa [set_take x (lo.drop (m + 1)) (v + 1) (by omega)] at h1
        have hbw : ∀ n, Below w.heap.size w ((wo.drewN n).setCell ⟨g, m, none⟩ (.int .i64 (v + 1))) := fun n => (below_drewN Hbg.out n).setCell hgb _
        have Hy := Lib.hid hy; clear hy
        have Hyl := Lib.hid hyl; clear hyl
        have Hyf := Lib.hid hyf; clear hyf
        have Hw := Lib.hid hw; clear hw
        have Hbw := Lib.hid hbw; clear hbw
        go_wp2
        go_quiet (fail)
        go_wp2
        go_ret2
        refine ⟨Hbw.out _, .inr ⟨_, some ⟨g, 0, none⟩, c4, Hy.out, by rw [Hyl.out]; rfl, ?_⟩⟩
        exact (Hw.out _).sl (by rw [Hyl.out]; exact hc1) hc2 Hyf.out ⟨hgb, (Hw.out _).lt⟩
      · have hn : nextF (lo.drop m) (hi.drop m) (x.drop m) = none := by rw [Step.out, if_neg hlt]
        have hw : ∀ n, RowAt ((wo.drewN n).setCell ⟨g, m, none⟩ (.int .i64 a)) g 3 (x.take m ++ lo.drop m) := fun n => by
          have h1 := (hro.out.same (w' := wo.drewN n) rfl).set m a
          rwa [set_take x (lo.drop (m + 1)) a (by omega), ← hd0.out] at h1
        have hbw : ∀ n, Below w.heap.size w ((wo.drewN n).setCell ⟨g, m, none⟩ (.int .i64 a)) := fun n => (below_drewN Hbg.out n).setCell hgb _
        have Hn := Lib.hid hn; clear hn
        have Hw := Lib.hid hw; clear hw
        have Hbw := Lib.hid hbw; clear hbw
        go_wp2
        go_quiet (fail)
        go_wp2
        go_roundw
        case rel =>
          refine ⟨m, by omega, ?_, Hbw.out _, (Hbw.out _).size, Hw.out _, Hn⟩
          cases m with
          | zero => exact .inl ⟨rfl, congrArg (Value.int .i64) (by omega)⟩
          | succ m' => exact .inr ⟨m', rfl, congrArg (Value.int .i64) (by omega)⟩
        case measure => simp [intOf]
end Go.Proofs.Ytfeafembifdklaa
