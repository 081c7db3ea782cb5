/-
  Layer 8: the walks of asked, Left, Right and of their references.
-/
import Derived.Test.YtpeknefmjdipmaaGreatDoorCc
import Derived.Test.YtpeknefmjdipmaaGreatDoorM1
namespace Go.Proofs.YtpeknefmjdipmaaGreatDoor
open Go.RowKit Go.Sort

theorem asked_bad {ms : List Mod} {i : Int} {p : ByteArray} (h : checkF ms ≠ 0) : askedF ms i p = checkF ms := by unfold askedF; rw [if_neg h]
theorem asked_out {ms : List Mod} {i : Int} {p : ByteArray} (h : checkF ms = 0) (hi : i < 0 ∨ (ms.length : Int) ≤ i) : askedF ms i p = 2 := by unfold askedF; rw [if_pos h, if_neg (by omega)]
theorem asked_brk {ms : List Mod} {i : Nat} {p : ByteArray} (h : checkF ms = 0) (hb : nameAt ms i = 91 ∨ nameAt ms i = 93) : askedF ms (i : Int) p = 2 := by
  unfold askedF
  rw [if_pos h, if_neg]
  rintro ⟨_, _, h3⟩
  rw [Int.toNat_natCast] at h3
  unfold brkB at h3
  rcases hb with hb | hb <;> rw [hb] at h3 <;> cases h3
theorem asked_in {ms : List Mod} {i : Nat} {p : ByteArray} (h : checkF ms = 0) (hi : i < ms.length) (h1 : nameAt ms i ≠ 91) (h3 : nameAt ms i ≠ 93) : askedF ms (i : Int) p = if ignF p = true then 0 else 8 := by
  unfold askedF
  rw [if_pos h, if_pos]
  refine ⟨by omega, by omega, ?_⟩
  rw [Int.toNat_natCast]
  unfold brkB
  simp [h1, h3]
theorem plain_brk {ms : List Mod} {i : Nat} (h : checkF ms = 0) (hi : i < ms.length) : plainC (nameAt ms i) = !brkB (nameAt ms i) := by
  obtain ⟨m, hd, hm⟩ := drop_name hi
  have hl := letter_byte (checkF_fine h m (mem_of_drop hd))
  rw [hm]
  unfold plainC brkB
  rw [hl]
  cases h1 : (m.name == 91) <;> cases h2 : (m.name == 93) <;> simp_all
theorem asked_zero {ms : List Mod} {i : Int} {p : ByteArray} (h : askedF ms i p = 0) : checkF ms = 0 ∧ ∃ j : Nat, i = (j : Int) ∧ j < ms.length ∧ nameAt ms j ≠ 91 ∧ nameAt ms j ≠ 93 := by
  by_cases hc : checkF ms = 0
  · refine ⟨hc, ?_⟩
    by_cases hi : i < 0 ∨ (ms.length : Int) ≤ i
    · rw [asked_out hc hi] at h; cases h
    · obtain ⟨j, rfl⟩ := Int.eq_ofNat_of_zero_le (show 0 ≤ i by omega)
      refine ⟨j, rfl, by omega, fun hb => ?_, fun hb => ?_⟩
      · rw [asked_brk hc (.inl hb)] at h; cases h
      · rw [asked_brk hc (.inr hb)] at h; cases h
  · rw [asked_bad hc] at h; exact absurd h hc

set_option maxRecDepth 100000 in
set_option maxHeartbeats 1000000 in
theorem asked_calls (A : Option Addr) (cb : Nat) (ms : List Mod) (i : Int) (p : ByteArray) (w : World) (h : SlAt pMod (Old w) w A cb ms) (hi : Fits .i64 i) (hp : p.size ≤ 1000) :
    Calls Tryz.prog 22 #[.slice A ms.length cb, .int .i64 i, .string p] w (IntPost (askedF ms i p) w) := by
  have hmx := h.lenle
  have hck := wordCheck_calls A cb ms w h
  have hi64 := hi.i64
  have H := Lib.hid h; clear h
  have Hck := Lib.hid hck; clear hck
  have Hi := Lib.hid hi; clear hi
  go_enter Tryz.func22, Tryz.ntmps22
  go_wp2_with fail
  refine Hck.out.mono ?_
  rintro e w1 ⟨rfl, hb1⟩
  have hz1 := hb1.size
  by_cases hc : checkF ms = 0
  case neg =>
    have e0 : (checkF ms != 0) = true := by simp [hc]
    have hy := asked_bad (i := i) (p := p) hc
    have Hb1 := Lib.hid hb1; clear hb1
    have Hy := Lib.hid hy; clear hy
    have Hc := Lib.hid hc; clear hc
    go_wp2
    go_ret
    exact ⟨ret_int Hy.out.symm, Hb1.out⟩
  case pos =>
  have e0 : (checkF ms != 0) = false := by simp [hc]
  by_cases h0 : i < 0
  · have hy := asked_out (p := p) hc (.inl h0)
    have Hb1 := Lib.hid hb1; clear hb1
    have Hy := Lib.hid hy; clear hy
    have Hc := Lib.hid hc; clear hc
    go_wp2
    go_ret
    exact ⟨ret_int Hy.out.symm, Hb1.out⟩
  by_cases h1 : (ms.length : Int) ≤ i
  · have hy := asked_out (p := p) hc (.inr h1)
    have Hb1 := Lib.hid hb1; clear hb1
    have Hy := Lib.hid hy; clear hy
    have Hc := Lib.hid hc; clear hc
    go_wp2
    go_ret
    exact ⟨ret_int Hy.out.symm, Hb1.out⟩
  obtain ⟨j, rfl⟩ := Int.eq_ofNat_of_zero_le (Int.not_lt.1 h0)
  have hj : j < ms.length := by omega
  obtain ⟨b, o, D, d, m, hd, rfl, hob, q0, q1, hx8, hxa, hxl⟩ := (H.out.below hb1).getMod hj
  have hob' : b < w1.heap.size := by have : b < w.heap.size := hob; omega
  have hnm := nameAt_drop hd.out
  by_cases h91 : m.name = 91
  · have e91 : (m.name == 91) = true := by simp [h91]
    have hy := asked_brk (p := p) hc (.inl (hnm.trans h91))
    have Hb1 := Lib.hid hb1; clear hb1
    have Hy := Lib.hid hy; clear hy
    have Hc := Lib.hid hc; clear hc
    have Hnm := Lib.hid hnm; clear hnm
    clear h91
    go_wp2
    go_ret
    exact ⟨ret_int Hy.out.symm, Hb1.out⟩
  have e91 : (m.name == 91) = false := by simp [h91]
  by_cases h93 : m.name = 93
  · have e93 : (m.name == 93) = true := by simp [h93]
    have hy := asked_brk (p := p) hc (.inr (hnm.trans h93))
    have Hb1 := Lib.hid hb1; clear hb1
    have Hy := Lib.hid hy; clear hy
    have Hc := Lib.hid hc; clear hc
    have Hnm := Lib.hid hnm; clear hnm
    clear h91 h93
    go_wp2
    go_ret
    exact ⟨ret_int Hy.out.symm, Hb1.out⟩
  have e93 : (m.name == 93) = false := by simp [h93]
  have hy := asked_in (p := p) hc hj (by rw [hnm]; exact h91) (by rw [hnm]; exact h93)
  have hig := ignorable_calls p w1 hp
  cases hg : ignF p
  all_goals
    rw [hg] at hy hig
    have Hb1 := Lib.hid hb1; clear hb1
    have Hy := Lib.hid hy; clear hy
    have Hc := Lib.hid hc; clear hc
    have Hnm := Lib.hid hnm; clear hnm
    have Hig := Lib.hid hig; clear hig
    have Hg := Lib.hid hg; clear hg
    clear h91 h93
    go_wp2_with fail
    refine Hig.out.mono ?_
    rintro e w2 ⟨rfl, hb2⟩
    have hbw := Hb1.out.trans (hb2.mono hz1)
    have Hbw := Lib.hid hbw; clear hbw
    clear hb2
    go_wp2
    go_ret
    exact ⟨ret_int (by rw [Hy.out]; rfl), Hbw.out⟩
  done

theorem leftL_get {p : ByteArray} {ms : List Mod} {j : Nat} (h : j < ms.length) : (leftL p ms)[j]? = some (leftF p ms j) := by unfold leftL; simp [h]
theorem rightL_get {p : ByteArray} {ms : List Mod} {j : Nat} (h : j < ms.length) : (rightL p ms)[j]? = some (rightF p ms j) := by unfold rightL; simp [h]
theorem leftL_len {p : ByteArray} {ms : List Mod} : (leftL p ms).length = ms.length := by unfold leftL; simp
theorem rightL_len {p : ByteArray} {ms : List Mod} : (rightL p ms).length = ms.length := by unfold rightL; simp
/-- an element of a list of integers, by its place -/
theorem SlAt.intAt {F : Nat → Prop} {w : World} {A : Option Addr} {cap : Nat} {xs : List Int} (h : SlAt (pI .i64) F w A cap xs) {i : Nat} {x : Int} (hx : xs[i]? = some x) : ∃ b o, A = some ⟨b, o, none⟩ ∧ F b ∧ w.cell? ⟨b, o + i, none⟩ = some (.int .i64 x) ∧ Fits .i64 x := by
  obtain ⟨b, o, y, hd, h1, h2, h3, h4⟩ := h.getI (List.getElem?_eq_some_iff.1 hx).1
  have : x = y := by have := get_of_drop hd.out; rw [hx] at this; exact Option.some.inj this
  subst this
  exact ⟨b, o, h1, h2, h3, h4⟩

set_option maxRecDepth 100000 in
theorem left_calls (A : Option Addr) (cb : Nat) (ms : List Mod) (i : Int) (p : ByteArray) (w : World) (h : SlAt pMod (Old w) w A cb ms) (hi : Fits .i64 i) (hp : p.size ≤ 1000) :
    Calls Tryz.prog 8 #[.slice A ms.length cb, .int .i64 i, .string p] w (PairPost (sideF (leftF p ms) ms i p) w) := by
  have hmx := h.lenle
  have hck := asked_calls A cb ms i p w h hi hp
  have hi64 := hi.i64
  have H := Lib.hid h; clear h
  have Hck := Lib.hid hck; clear hck
  have Hi := Lib.hid hi; clear hi
  go_enter Tryz.func8, Tryz.ntmps8
  go_wp2_with fail
  refine Hck.out.mono ?_
  rintro e w1 ⟨rfl, hb1⟩
  have hz1 := hb1.size
  by_cases hc : askedF ms i p = 0
  case neg =>
    have e0 : (askedF ms i p != 0) = true := by simp [hc]
    have hy : sideF (leftF p ms) ms i p = (0, askedF ms i p) := by unfold sideF; rw [if_neg hc]
    have Hb1 := Lib.hid hb1; clear hb1
    have Hy := Lib.hid hy; clear hy
    have Hc := Lib.hid hc; clear hc
    go_wp2
    go_ret2
    exact ⟨by rw [Hy.out]; rfl, Hb1.out⟩
  case pos =>
  have e0 : (askedF ms i p != 0) = false := by simp [hc]
  obtain ⟨hc0, j, rfl, hj, _, _⟩ := asked_zero hc
  have hy : sideF (leftF p ms) ms (j : Int) p = (leftF p ms j, 0) := by unfold sideF; rw [if_pos hc, Int.toNat_natCast]
  have hnb := neighbours_calls A cb ms p w1 (H.out.later hb1) (bal_of hc0) (checkF_le hc0)
  have Hb1 := Lib.hid hb1; clear hb1
  have Hy := Lib.hid hy; clear hy
  have Hc := Lib.hid hc; clear hc
  have Hc0 := Lib.hid hc0; clear hc0
  have Hnb := Lib.hid hnb; clear hnb
  go_wp2_with fail
  refine Hnb.out.mono ?_
  rintro e w2 ⟨A2, c2, A3, c3, rfl, hs2, hs3, hb2⟩
  obtain ⟨b2, o2, rfl, _, hcell, _⟩ := hs2.intAt (leftL_get hj)
  have hbw := Hb1.out.trans (hb2.mono hz1)
  have hj0 : (0 : Int) ≤ (j : Int) := Int.natCast_nonneg _
  have Hbw := Lib.hid hbw; clear hbw
  have Hs2 := Lib.hid hs2; clear hs2
  have Hs3 := Lib.hid hs3; clear hs3
  clear hb2
  go_wp2
  go_ret2
  exact ⟨by rw [Hy.out]; rfl, Hbw.out⟩
set_option maxRecDepth 100000 in
theorem right_calls (A : Option Addr) (cb : Nat) (ms : List Mod) (i : Int) (p : ByteArray) (w : World) (h : SlAt pMod (Old w) w A cb ms) (hi : Fits .i64 i) (hp : p.size ≤ 1000) :
    Calls Tryz.prog 9 #[.slice A ms.length cb, .int .i64 i, .string p] w (PairPost (sideF (rightF p ms) ms i p) w) := by
  have hmx := h.lenle
  have hck := asked_calls A cb ms i p w h hi hp
  have hi64 := hi.i64
  have H := Lib.hid h; clear h
  have Hck := Lib.hid hck; clear hck
  have Hi := Lib.hid hi; clear hi
  go_enter Tryz.func9, Tryz.ntmps9
  go_wp2_with fail
  refine Hck.out.mono ?_
  rintro e w1 ⟨rfl, hb1⟩
  have hz1 := hb1.size
  by_cases hc : askedF ms i p = 0
  case neg =>
    have e0 : (askedF ms i p != 0) = true := by simp [hc]
    have hy : sideF (rightF p ms) ms i p = (0, askedF ms i p) := by unfold sideF; rw [if_neg hc]
    have Hb1 := Lib.hid hb1; clear hb1
    have Hy := Lib.hid hy; clear hy
    have Hc := Lib.hid hc; clear hc
    go_wp2
    go_ret2
    exact ⟨by rw [Hy.out]; rfl, Hb1.out⟩
  case pos =>
  have e0 : (askedF ms i p != 0) = false := by simp [hc]
  obtain ⟨hc0, j, rfl, hj, _, _⟩ := asked_zero hc
  have hy : sideF (rightF p ms) ms (j : Int) p = (rightF p ms j, 0) := by unfold sideF; rw [if_pos hc, Int.toNat_natCast]
  have hnb := neighbours_calls A cb ms p w1 (H.out.later hb1) (bal_of hc0) (checkF_le hc0)
  have Hb1 := Lib.hid hb1; clear hb1
  have Hy := Lib.hid hy; clear hy
  have Hc := Lib.hid hc; clear hc
  have Hc0 := Lib.hid hc0; clear hc0
  have Hnb := Lib.hid hnb; clear hnb
  go_wp2_with fail
  refine Hnb.out.mono ?_
  rintro e w2 ⟨A2, c2, A3, c3, rfl, hs2, hs3, hb2⟩
  obtain ⟨b2, o2, rfl, _, hcell, _⟩ := hs3.intAt (rightL_get hj)
  have hbw := Hb1.out.trans (hb2.mono hz1)
  have hj0 : (0 : Int) ≤ (j : Int) := Int.natCast_nonneg _
  have Hbw := Lib.hid hbw; clear hbw
  have Hs2 := Lib.hid hs2; clear hs2
  have Hs3 := Lib.hid hs3; clear hs3
  clear hb2
  go_wp2
  go_ret2
  exact ⟨by rw [Hy.out]; rfl, Hbw.out⟩
end Go.Proofs.YtpeknefmjdipmaaGreatDoor
