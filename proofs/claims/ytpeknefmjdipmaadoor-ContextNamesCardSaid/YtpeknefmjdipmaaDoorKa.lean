/-
  Layer 8, plain: neighbours belong to each other (ContextBack), and a branch that is put in changes none outside (ContextBranch). No walk.
-/
import Derived.Test.YtpeknefmjdipmaaDoorM1
import Derived.Test.YtpeknefmjdipmaaDoorRp
namespace Go.Proofs.YtpeknefmjdipmaaDoor
open Go.RowKit

theorem befAt_next (p : ByteArray) (ms : List Mod) (k c : Nat) : befAt p ms (k + 1) c = if nameAt ms k = 93 then befAt p ms k (c + 1) else if nameAt ms k = 91 then befAt p ms k (c - 1) else if c = 0 ∧ ign p (nameAt ms k) = false then (k : Int) else befAt p ms k c := rfl
theorem behAt_next (p : ByteArray) (m : Mod) (r : List Mod) (k o : Nat) : behAt p (m :: r) k o = if m.name = 91 then behAt p r (k + 1) (o + 1) else if m.name = 93 then (if o = 0 then -1 else behAt p r (k + 1) (o - 1)) else if o = 0 ∧ ign p m.name = false then (k : Int) else behAt p r (k + 1) o := rfl
/-- what a place must be to be a neighbour -/
def Nb (p : ByteArray) (ms : List Mod) (b : Nat) : Prop := nameAt ms b ≠ 91 ∧ nameAt ms b ≠ 93 ∧ ign p (nameAt ms b) = false
theorem befAt_nb {p : ByteArray} {ms : List Mod} : ∀ {k c : Nat} {b : Nat}, befAt p ms k c = (b : Int) → b < k ∧ Nb p ms b
  | 0, c, b, h => by have : befAt p ms 0 c = -1 := rfl
                     rw [this] at h; omega
  | k + 1, c, b, h => by
    rw [befAt_next] at h
    by_cases h1 : nameAt ms k = 93
    · rw [if_pos h1] at h
      have := befAt_nb h
      exact ⟨by omega, this.2⟩
    · rw [if_neg h1] at h
      by_cases h2 : nameAt ms k = 91
      · rw [if_pos h2] at h
        have := befAt_nb h
        exact ⟨by omega, this.2⟩
      · rw [if_neg h2] at h
        by_cases h3 : c = 0 ∧ ign p (nameAt ms k) = false
        · rw [if_pos h3] at h
          have : k = b := by omega
          subst this
          exact ⟨by omega, h2, h1, h3.2⟩
        · rw [if_neg h3] at h
          have := befAt_nb h
          exact ⟨by omega, this.2⟩
/-- what is found ahead: its place, and what is found from there back -/
theorem behAt_nb {p : ByteArray} {ms : List Mod} : ∀ (n k o : Nat) {b : Nat}, k + n = ms.length → behAt p (ms.drop k) k o = (b : Int) → k ≤ b ∧ b < ms.length ∧ Nb p ms b ∧ befAt p ms b 0 = befAt p ms k o
  | 0, k, o, b, hn, h => by
    rw [List.drop_eq_nil_of_le (by omega)] at h
    have : behAt p [] k o = -1 := rfl
    rw [this] at h; omega
  | n + 1, k, o, b, hn, h => by
    obtain ⟨m, hd, hm⟩ := drop_name (ms := ms) (i := k) (by omega)
    rw [hd, behAt_next, ← hm] at h
    by_cases h1 : nameAt ms k = 91
    · rw [if_pos h1] at h
      obtain ⟨i1, i2, i3, i4⟩ := behAt_nb n (k + 1) (o + 1) (by omega) h
      refine ⟨by omega, i2, i3, ?_⟩
      rw [i4, befAt_next, if_neg (by omega), if_pos h1, Nat.add_sub_cancel]
    · rw [if_neg h1] at h
      by_cases h2 : nameAt ms k = 93
      · rw [if_pos h2] at h
        by_cases h0 : o = 0
        · rw [if_pos h0] at h; omega
        · rw [if_neg h0] at h
          obtain ⟨i1, i2, i3, i4⟩ := behAt_nb n (k + 1) (o - 1) (by omega) h
          refine ⟨by omega, i2, i3, ?_⟩
          rw [i4, befAt_next, if_pos h2, Nat.sub_add_cancel (by omega)]
      · rw [if_neg h2] at h
        by_cases h3 : o = 0 ∧ ign p (nameAt ms k) = false
        · rw [if_pos h3] at h
          have : k = b := by omega
          subst this
          exact ⟨Nat.le_refl _, by omega, ⟨h1, h2, h3.2⟩, by rw [h3.1]⟩
        · rw [if_neg h3] at h
          obtain ⟨i1, i2, i3, i4⟩ := behAt_nb n (k + 1) o (by omega) h
          refine ⟨by omega, i2, i3, ?_⟩
          rw [i4, befAt_next, if_neg h2, if_neg h1, if_neg h3]
theorem brkB_of {c : Int} (h : brkB c = false) : c ≠ 91 ∧ c ≠ 93 := by
  unfold brkB at h
  rw [Bool.or_eq_false_iff] at h
  exact ⟨by simpa using h.1, by simpa using h.2⟩
theorem Nb.brk {p : ByteArray} {ms : List Mod} {b : Nat} (h : Nb p ms b) : brkB (nameAt ms b) = false := by
  unfold brkB; rw [Bool.or_eq_false_iff]; exact ⟨by simpa using h.1, by simpa using h.2.1⟩
/-- the left neighbour -/
theorem left_law {p : ByteArray} {ms : List Mod} {i : Nat} (hb : brkB (nameAt ms i) = false) : leftF p ms i = -1 ∨ ∃ a : Nat, leftF p ms i = (a : Int) ∧ a < i ∧ Nb p ms a := by
  unfold leftF
  rw [hb, if_neg (by decide)]
  have h := befAt_rng p ms i 0
  by_cases h1 : befAt p ms i 0 = -1
  · exact .inl h1
  · obtain ⟨a, ha⟩ : ∃ a : Nat, befAt p ms i 0 = (a : Int) := ⟨(befAt p ms i 0).toNat, by omega⟩
    have := befAt_nb ha
    exact .inr ⟨a, ha, this.1, this.2⟩
/-- the right neighbour, and back -/
theorem right_law {p : ByteArray} {ms : List Mod} {i : Nat} (hi : i < ms.length) (hb : brkB (nameAt ms i) = false) : rightF p ms i = -1 ∨ ∃ b : Nat, rightF p ms i = (b : Int) ∧ i < b ∧ b < ms.length ∧ Nb p ms b ∧ (ign p (nameAt ms i) = false → leftF p ms b = (i : Int)) := by
  unfold rightF
  rw [hb, if_neg (by decide)]
  have h := behAt_rng p (ms.drop (i + 1)) (i + 1) 0
  by_cases h1 : behAt p (ms.drop (i + 1)) (i + 1) 0 = -1
  · exact .inl h1
  · obtain ⟨b, hbb⟩ : ∃ b : Nat, behAt p (ms.drop (i + 1)) (i + 1) 0 = (b : Int) := ⟨(behAt p (ms.drop (i + 1)) (i + 1) 0).toNat, by omega⟩
    obtain ⟨h2, h3, h4, h5⟩ := behAt_nb (ms.length - (i + 1)) (i + 1) 0 (by omega) hbb
    refine .inr ⟨b, hbb, by omega, h3, h4, fun hg => ?_⟩
    obtain ⟨n1, n2⟩ := brkB_of hb
    unfold leftF
    rw [h4.brk, if_neg (by decide), h5, befAt_next, if_neg n2, if_neg n1, if_pos ⟨rfl, hg⟩]

/-! ### a branch that is put in -/
def putF (ms br : List Mod) (at_ : Nat) : List Mod := ms.take at_ ++ (⟨91, []⟩ :: (br ++ (⟨93, []⟩ :: ms.drop at_)))
def mvd (at_ n : Nat) (k : Int) : Int := if (at_ : Int) ≤ k then k + n else k
theorem mvd_lt {at_ n : Nat} {k : Int} (h : k < at_) : mvd at_ n k = k := by unfold mvd; rw [if_neg (by omega)]
theorem mvd_ge {at_ n : Nat} {k : Int} (h : (at_ : Int) ≤ k) : mvd at_ n k = k + n := by unfold mvd; rw [if_pos h]
theorem put_len {ms br : List Mod} {a : Nat} (ha : a ≤ ms.length) : (putF ms br a).length = ms.length + (br.length + 2) := by
  unfold putF; simp; omega
theorem nameAt_get {ms : List Mod} {k : Nat} : nameAt ms k = ((ms[k]?).map Mod.name).getD 0 := rfl
theorem put_lo {ms br : List Mod} {a k : Nat} (ha : a ≤ ms.length) (hk : k < a) : nameAt (putF ms br a) k = nameAt ms k := by
  unfold nameAt putF
  rw [List.getElem?_append_left (by rw [List.length_take]; omega), List.getElem?_take_of_lt hk]
theorem put_open {ms br : List Mod} {a : Nat} (ha : a ≤ ms.length) : nameAt (putF ms br a) a = 91 := by
  unfold nameAt putF
  rw [List.getElem?_append_right (by rw [List.length_take]; omega), List.length_take, Nat.min_eq_left ha, Nat.sub_self]; rfl
theorem put_mid {ms br : List Mod} {a j : Nat} (ha : a ≤ ms.length) (hj : j < br.length) : nameAt (putF ms br a) (a + 1 + j) = nameAt br j := by
  unfold nameAt putF
  rw [List.getElem?_append_right (by rw [List.length_take]; omega), List.length_take, Nat.min_eq_left ha, show a + 1 + j - a = j + 1 from by omega, List.getElem?_cons_succ, List.getElem?_append_left hj]
theorem put_close {ms br : List Mod} {a : Nat} (ha : a ≤ ms.length) : nameAt (putF ms br a) (a + 1 + br.length) = 93 := by
  unfold nameAt putF
  rw [List.getElem?_append_right (by rw [List.length_take]; omega), List.length_take, Nat.min_eq_left ha, show a + 1 + br.length - a = br.length + 1 from by omega, List.getElem?_cons_succ, List.getElem?_append_right (Nat.le_refl _), Nat.sub_self]; rfl
theorem put_hi {ms br : List Mod} {a k : Nat} (ha : a ≤ ms.length) (hk : a ≤ k) : nameAt (putF ms br a) (k + (br.length + 2)) = nameAt ms k := by
  unfold nameAt putF
  rw [List.getElem?_append_right (by rw [List.length_take]; omega), List.length_take, Nat.min_eq_left ha, show k + (br.length + 2) - a = (k - a + br.length + 1) + 1 from by omega, List.getElem?_cons_succ,
    List.getElem?_append_right (by omega), show k - a + br.length + 1 - br.length = (k - a) + 1 from by omega, List.getElem?_cons_succ, List.getElem?_drop, show a + (k - a) = k from by omega]
theorem put_drop {ms br : List Mod} {a k : Nat} (ha : a ≤ ms.length) (hk : a ≤ k) : (putF ms br a).drop (k + (br.length + 2)) = ms.drop k := by
  apply List.ext_getElem?
  intro i
  rw [List.getElem?_drop, List.getElem?_drop]
  unfold putF
  rw [List.getElem?_append_right (by rw [List.length_take]; omega), List.length_take, Nat.min_eq_left ha, show k + (br.length + 2) + i - a = (k + i - a + br.length + 1) + 1 from by omega, List.getElem?_cons_succ,
    List.getElem?_append_right (by omega), show k + i - a + br.length + 1 - br.length = (k + i - a) + 1 from by omega, List.getElem?_cons_succ, List.getElem?_drop, show a + (k + i - a) = k + i from by omega]
theorem put_dropL {ms br : List Mod} {a k : Nat} (ha : a ≤ ms.length) (hk : k ≤ a) : (putF ms br a).drop k = (ms.take a).drop k ++ (⟨91, []⟩ :: (br ++ (⟨93, []⟩ :: ms.drop a))) := by
  unfold putF
  rw [List.drop_append_of_le_length (by rw [List.length_take]; omega)]

theorem befAt_lo {p : ByteArray} {ms br : List Mod} {a : Nat} (ha : a ≤ ms.length) : ∀ (k c : Nat), k ≤ a → befAt p (putF ms br a) k c = befAt p ms k c
  | 0, _, _ => rfl
  | k + 1, c, hk => by
    rw [befAt_next, befAt_next, put_lo ha (by omega), befAt_lo ha k _ (by omega), befAt_lo ha k _ (by omega), befAt_lo ha k _ (by omega)]
theorem befAt_mid {p : ByteArray} {ms br : List Mod} {a : Nat} (ha : a ≤ ms.length) (hb : Bal br) (c : Nat) : ∀ (j : Nat), j ≤ br.length → befAt p (putF ms br a) (a + 1 + j) (c + 1 + opn br j) = befAt p (putF ms br a) (a + 1) (c + 1)
  | 0, _ => rfl
  | j + 1, hj => by
    have ih := befAt_mid (p := p) ha hb c j (by omega)
    have hn := put_mid (br := br) ha (show j < br.length by omega)
    rw [show a + 1 + (j + 1) = (a + 1 + j) + 1 from by omega, befAt_next, hn, opn_succ]
    by_cases h1 : nameAt br j = 93
    · have h0 := hb.pos j (by omega) h1
      rw [if_pos h1, if_neg (by omega), if_pos h1, show c + 1 + (opn br j - 1) + 1 = c + 1 + opn br j from by omega, ih]
    · rw [if_neg h1, if_neg h1]
      by_cases h2 : nameAt br j = 91
      · rw [if_pos h2, if_pos h2, show c + 1 + (opn br j + 1) - 1 = c + 1 + opn br j from by omega, ih]
      · rw [if_neg h2, if_neg h2, if_neg (by omega), ih]
theorem befAt_cross {p : ByteArray} {ms br : List Mod} {a : Nat} (ha : a ≤ ms.length) (hb : Bal br) (c : Nat) : befAt p (putF ms br a) (a + (br.length + 2)) c = befAt p ms a c := by
  have h1 := befAt_mid (p := p) ha hb c br.length (Nat.le_refl _)
  rw [hb.fin, Nat.add_zero] at h1
  rw [show a + (br.length + 2) = (a + 1 + br.length) + 1 from by omega, befAt_next, put_close ha, if_pos rfl, h1, befAt_next, put_open ha, if_neg (by decide), if_pos rfl, Nat.add_sub_cancel, befAt_lo ha a c (Nat.le_refl _)]
theorem befAt_hi {p : ByteArray} {ms br : List Mod} {a : Nat} (ha : a ≤ ms.length) (hb : Bal br) : ∀ (d c : Nat), befAt p (putF ms br a) (a + d + (br.length + 2)) c = mvd a (br.length + 2) (befAt p ms (a + d) c)
  | 0, c => by
    rw [Nat.add_zero, befAt_cross ha hb, mvd_lt (befAt_rng p ms a c).2]
  | d + 1, c => by
    rw [show a + (d + 1) + (br.length + 2) = (a + d + (br.length + 2)) + 1 from by omega, show a + (d + 1) = (a + d) + 1 from by omega, befAt_next, befAt_next, put_hi ha (by omega), befAt_hi ha hb d, befAt_hi ha hb d, befAt_hi ha hb d]
    split
    · rfl
    · split
      · rfl
      · split
        · rw [mvd_ge (by omega)]; omega
        · rfl

theorem behAt_shift (p : ByteArray) (n : Nat) : ∀ (l : List Mod) (k o : Nat), behAt p l (k + n) o = if behAt p l k o = -1 then -1 else behAt p l k o + n
  | [], k, o => rfl
  | m :: r, k, o => by
    rw [behAt_next, behAt_next, show k + n + 1 = (k + 1) + n from by omega, behAt_shift p n r (k + 1) (o + 1), behAt_shift p n r (k + 1) (o - 1), behAt_shift p n r (k + 1) o]
    split
    · rfl
    · split
      · split
        · rfl
        · rfl
      · split
        · rw [if_neg (by omega)]; omega
        · rfl
theorem behAt_in (p : ByteArray) (R : List Mod) : ∀ (b : List Mod) (k o d d' : Nat), scan d b = some d' → behAt p (b ++ R) k (o + 1 + d) = behAt p R (k + b.length) (o + 1 + d')
  | [], k, o, d, d', h => by
    unfold scan at h
    cases h
    rfl
  | m :: b, k, o, d, d', h => by
    rw [scan_consC] at h
    rw [List.cons_append, behAt_next, List.length_cons, show k + (b.length + 1) = (k + 1) + b.length from by omega]
    by_cases h1 : m.name = 91
    · rw [if_pos h1] at h ⊢
      exact behAt_in p R b (k + 1) o (d + 1) d' h
    · rw [if_neg h1] at h ⊢
      by_cases h2 : m.name = 93
      · rw [if_pos h2] at h ⊢
        by_cases h0 : d = 0
        · rw [if_pos h0] at h; cases h
        · rw [if_neg h0] at h
          rw [if_neg (by omega), show o + 1 + d - 1 = o + 1 + (d - 1) from by omega]
          exact behAt_in p R b (k + 1) o (d - 1) d' h
      · rw [if_neg h2] at h ⊢
        rw [if_neg (by omega)]
        exact behAt_in p R b (k + 1) o d d' h
theorem behAt_branch {p : ByteArray} {br R : List Mod} (hb : scan 0 br = some 0) (k o : Nat) : behAt p (⟨91, []⟩ :: (br ++ (⟨93, []⟩ :: R))) k o = behAt p R (k + (br.length + 2)) o := by
  rw [behAt_next, if_pos rfl, behAt_in p _ br (k + 1) o 0 0 hb, behAt_next, if_neg (by decide), if_pos rfl, if_neg (by omega), show o + 1 + 0 - 1 = o from by omega, show k + 1 + br.length + 1 = k + (br.length + 2) from by omega]
theorem behAt_ge {p : ByteArray} : ∀ {l : List Mod} {k o : Nat}, behAt p l k o ≠ -1 → (k : Int) ≤ behAt p l k o
  | [], _, _, h => absurd rfl h
  | m :: r, k, o, h => by
    rw [behAt_next] at h ⊢
    split
    · rename_i h1
      rw [if_pos h1] at h
      have := behAt_ge h; omega
    · rename_i h1
      rw [if_neg h1] at h
      split
      · rename_i h2
        rw [if_pos h2] at h
        split
        · rename_i h3
          rw [if_pos h3] at h; omega
        · rename_i h3
          rw [if_neg h3] at h
          have := behAt_ge h; omega
      · rename_i h2
        rw [if_neg h2] at h
        split
        · omega
        · rename_i h3
          rw [if_neg h3] at h
          have := behAt_ge h; omega
theorem behAt_lo {p : ByteArray} {br R : List Mod} (hb : scan 0 br = some 0) : ∀ (L : List Mod) (k o : Nat), behAt p (L ++ (⟨91, []⟩ :: (br ++ (⟨93, []⟩ :: R)))) k o = mvd (k + L.length) (br.length + 2) (behAt p (L ++ R) k o)
  | [], k, o => by
    rw [List.nil_append, List.nil_append, List.length_nil, Nat.add_zero, behAt_branch hb, behAt_shift]
    by_cases h : behAt p R k o = -1
    · rw [if_pos h, h, mvd_lt (by omega)]
    · rw [if_neg h, mvd_ge]
      exact behAt_ge h
  | m :: L, k, o => by
    rw [List.cons_append, List.cons_append, behAt_next, behAt_next, List.length_cons, behAt_lo hb L (k + 1) (o + 1), behAt_lo hb L (k + 1) (o - 1), behAt_lo hb L (k + 1) o, show k + (L.length + 1) = k + 1 + L.length from by omega]
    split
    · rfl
    · split
      · split
        · rw [mvd_lt (by omega)]
        · rfl
      · split
        · rw [mvd_lt (by omega)]
        · rfl
theorem scan_of_check {ms : List Mod} (h : checkF ms = 0) : scan 0 ms = some 0 := by
  unfold checkF at h
  split at h
  · cases h
  · split at h
    · cases h
    · split at h
      · cases h
      · split at h
        · cases h
        · rename_i n hn h0
          have : n = 0 := by omega
          rw [hn, this]
def mvN (a n i : Nat) : Nat := if a ≤ i then i + n else i
theorem put_name {ms br : List Mod} {a i : Nat} (ha : a ≤ ms.length) : nameAt (putF ms br a) (mvN a (br.length + 2) i) = nameAt ms i := by
  unfold mvN
  by_cases h : a ≤ i
  · rw [if_pos h, put_hi ha h]
  · rw [if_neg h, put_lo ha (by omega)]
theorem left_put {p : ByteArray} {ms br : List Mod} {a i : Nat} (ha : a ≤ ms.length) (hb : checkF br = 0) : leftF p (putF ms br a) (mvN a (br.length + 2) i) = mvd a (br.length + 2) (leftF p ms i) := by
  unfold leftF
  rw [put_name ha]
  split
  · rw [mvd_lt (by omega)]
  · unfold mvN
    by_cases h : a ≤ i
    · rw [if_pos h]
      obtain ⟨d, rfl⟩ : ∃ d, i = a + d := ⟨i - a, by omega⟩
      exact befAt_hi ha (bal_of hb) d 0
    · rw [if_neg h, befAt_lo ha i 0 (by omega), mvd_lt (by have := (befAt_rng p ms i 0).2; omega)]
theorem right_put {p : ByteArray} {ms br : List Mod} {a i : Nat} (ha : a ≤ ms.length) (hb : checkF br = 0) : rightF p (putF ms br a) (mvN a (br.length + 2) i) = mvd a (br.length + 2) (rightF p ms i) := by
  have hs := scan_of_check hb
  unfold rightF
  rw [put_name ha]
  split
  · rw [mvd_lt (by omega)]
  · unfold mvN
    by_cases h : a ≤ i
    · rw [if_pos h, show i + (br.length + 2) + 1 = i + 1 + (br.length + 2) from by omega, put_drop ha (by omega), behAt_shift]
      by_cases h1 : behAt p (ms.drop (i + 1)) (i + 1) 0 = -1
      · rw [if_pos h1, h1, mvd_lt (by omega)]
      · rw [if_neg h1, mvd_ge]
        have := behAt_ge h1
        omega
    · rw [if_neg h, put_dropL ha (by omega), behAt_lo hs, ← List.drop_append_of_le_length (by rw [List.length_take]; omega), List.take_append_drop, List.length_drop, List.length_take, Nat.min_eq_left ha, show i + 1 + (a - (i + 1)) = a from by omega]
/-- the word with the branch is valid (its brackets; its names) -/
theorem scan_appendK : ∀ (x y : List Mod) (d : Nat), scan d (x ++ y) = (scan d x).bind fun e => scan e y
  | [], y, d => by rfl
  | m :: x, y, d => by
    rw [List.cons_append, scan_consC, scan_consC]
    split
    · exact scan_appendK x y _
    · split
      · split
        · rfl
        · exact scan_appendK x y _
      · exact scan_appendK x y _
theorem scan_moreK : ∀ {x : List Mod} {d e : Nat} (k : Nat), scan d x = some e → scan (d + k) x = some (e + k)
  | [], d, e, k, h => by unfold scan at h; cases h; rfl
  | m :: x, d, e, k, h => by
    rw [scan_consC] at h ⊢
    split
    · rename_i h1
      rw [if_pos h1] at h
      rw [show d + k + 1 = d + 1 + k from by omega]
      exact scan_moreK k h
    · rename_i h1
      rw [if_neg h1] at h
      split
      · rename_i h2
        rw [if_pos h2] at h
        by_cases h0 : d = 0
        · rw [if_pos h0] at h; cases h
        · rw [if_neg h0] at h
          rw [if_neg (by omega), show d + k - 1 = d - 1 + k from by omega]
          exact scan_moreK k h
      · rename_i h2
        rw [if_neg h2] at h
        exact scan_moreK k h
theorem put_scan {ms br : List Mod} {a : Nat} (h : scan 0 ms = some 0) (hb : scan 0 br = some 0) : scan 0 (putF ms br a) = some 0 := by
  rw [← List.take_append_drop a ms, scan_appendK] at h
  unfold putF
  rw [scan_appendK]
  cases hx : scan 0 (ms.take a) with
  | none => rw [hx] at h; cases h
  | some e =>
    rw [hx] at h
    show scan e (⟨91, []⟩ :: (br ++ (⟨93, []⟩ :: ms.drop a))) = some 0
    have h1 := scan_moreK (e + 1) hb
    rw [Nat.zero_add] at h1
    rw [scan_consC, if_pos rfl, scan_appendK, h1]
    show scan (e + 1) (⟨93, []⟩ :: ms.drop a) = some 0
    rw [scan_consC, if_neg (by decide), if_pos rfl, if_neg (by omega), Nat.add_sub_cancel]
    exact h
theorem put_check {ms br : List Mod} {a : Nat} (ha : a ≤ ms.length) (h : checkF ms = 0) (hb : checkF br = 0) (hl : ms.length + br.length + 2 ≤ 2000) : checkF (putF ms br a) = 0 := by
  have h1 := checkF_fine h
  have h2 := checkF_fine hb
  have hf : ∀ m ∈ putF ms br a, fineF m = true := by
    intro m hm
    unfold putF at hm
    simp only [List.mem_append, List.mem_cons] at hm
    rcases hm with hm | rfl | hm | rfl | hm
    · exact h1 m (List.mem_of_mem_take hm)
    · decide
    · exact h2 m hm
    · decide
    · exact h1 m (List.mem_of_mem_drop hm)
  have hlen := put_len (br := br) ha
  have hs := put_scan (a := a) (scan_of_check h) (scan_of_check hb)
  exact checkF_iff.2 ⟨by omega, List.all_eq_true.2 hf, hs⟩
end Go.Proofs.YtpeknefmjdipmaaDoor
