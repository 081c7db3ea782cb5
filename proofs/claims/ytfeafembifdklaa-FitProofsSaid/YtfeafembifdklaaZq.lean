/-
  Layer 43, plain: the search for a certificate.
-/
import Derived.Test.YtfeafembifdklaaZp
namespace Go.Proofs.Ytfeafembifdklaa
open Go.RowKit Go.Sort

/-- the first widest place, from place i on; k is the widest so far, m its width -/
def wideGo (k : Nat) (m : Int) : Nat → List Int → List Int → Nat
  | i, x :: xs, y :: ys => if m < y - x then wideGo i (y - x) (i + 1) xs ys else wideGo k m (i + 1) xs ys
  | _, _, _ => k
def wid (lo hi : List Int) (k : Nat) : Int := hi.getD k 0 - lo.getD k 0
def widest (lo hi : List Int) : Nat := wideGo 0 (wid lo hi 0) 0 lo hi
def midF (lo hi : List Int) (k : Nat) : Int := lo.getD k 0 + (hi.getD k 0 - lo.getD k 0) / 2
def lookF (f : Fit) (least : Int) : Nat → List Int → List Int → List Cub → List Cub
  | 0, _, _, out => out
  | n + 1, lo, hi, out => if 2000 < out.length then out else if least ≤ boundF f.terms f.goals lo hi then out ++ [⟨lo, hi⟩] else
      lookF f least n (lo.set (widest lo hi) (midF lo hi (widest lo hi) + 1)) hi (lookF f least n lo (hi.set (widest lo hi) (midF lo hi (widest lo hi))) out)
def span : List Int → List Int → Nat
  | x :: xs, y :: ys => (y - x).toNat + span xs ys
  | _, _ => 0
theorem wideGo_step {k i : Nat} {m x y : Int} {lo hi : List Int} (h1 : lo.drop i = x :: lo.drop (i + 1)) (h2 : hi.drop i = y :: hi.drop (i + 1)) :
    wideGo k m i (lo.drop i) (hi.drop i) = if m < y - x then wideGo i (y - x) (i + 1) (lo.drop (i + 1)) (hi.drop (i + 1)) else wideGo k m (i + 1) (lo.drop (i + 1)) (hi.drop (i + 1)) := by
  rw [h1, h2]; rfl
theorem getD_drop {l : List Int} {i : Nat} {x : Int} (h : l.drop i = x :: l.drop (i + 1)) : l.getD i 0 = x := by
  have := get_of_drop h
  rw [List.getD_eq_getElem?_getD, this]; rfl
/-- what the search for the widest place finds -/
theorem wideGo_spec (lo hi : List Int) : ∀ (n k i : Nat), i + n = lo.length → hi.length = lo.length → k < lo.length → (∀ j, j < i → wid lo hi j ≤ wid lo hi k) →
    wideGo k (wid lo hi k) i (lo.drop i) (hi.drop i) < lo.length ∧ ∀ j, j < lo.length → wid lo hi j ≤ wid lo hi (wideGo k (wid lo hi k) i (lo.drop i) (hi.drop i))
  | 0, k, i, hi1, hl, hk, hm => by
    rw [List.drop_eq_nil_of_le (by omega : lo.length ≤ i)]
    exact ⟨hk, fun j hj => hm j (by omega)⟩
  | n + 1, k, i, hi1, hl, hk, hm => by
    have h1 : lo.drop i = lo[i] :: lo.drop (i + 1) := List.drop_eq_getElem_cons (by omega)
    have h2 : hi.drop i = hi[i] :: hi.drop (i + 1) := List.drop_eq_getElem_cons (by omega)
    have hw : wid lo hi i = hi[i] - lo[i] := by unfold wid; rw [getD_drop h1, getD_drop h2]
    rw [wideGo_step h1 h2, ← hw]
    by_cases hlt : wid lo hi k < wid lo hi i
    · rw [if_pos hlt]
      exact wideGo_spec lo hi n i (i + 1) (by omega) hl (by omega) fun j hj => by
        by_cases hji : j = i
        · rw [hji]; exact Int.le_refl _
        · have := hm j (by omega); omega
    · rw [if_neg hlt]
      exact wideGo_spec lo hi n k (i + 1) (by omega) hl hk fun j hj => by
        by_cases hji : j = i
        · rw [hji]; omega
        · exact hm j (by omega)
theorem widest_spec {lo hi : List Int} (hl : hi.length = lo.length) (h0 : 0 < lo.length) : widest lo hi < lo.length ∧ ∀ j, j < lo.length → wid lo hi j ≤ wid lo hi (widest lo hi) := by
  have := wideGo_spec lo hi lo.length 0 0 (by omega) hl h0 (fun j hj => by omega)
  simpa [widest] using this
theorem span_set_hi : ∀ (lo hi : List Int) (k : Nat) (a b v : Int), lo[k]? = some a → hi[k]? = some b → a ≤ v → v < b → span lo (hi.set k v) < span lo hi
  | [], hi, k, a, b, v, h1, _, _, _ => by simp at h1
  | x :: lo, [], k, a, b, v, _, h2, _, _ => by simp at h2
  | x :: lo, y :: hi, 0, a, b, v, h1, h2, h3, h4 => by
    simp at h1 h2; subst h1 h2
    simp only [List.set_cons_zero, span]; omega
  | x :: lo, y :: hi, k + 1, a, b, v, h1, h2, h3, h4 => by
    have := span_set_hi lo hi k a b v (by simpa using h1) (by simpa using h2) h3 h4
    simp only [List.set_cons_succ, span]; omega
theorem span_set_lo : ∀ (lo hi : List Int) (k : Nat) (a b v : Int), lo[k]? = some a → hi[k]? = some b → a < v → v ≤ b → span (lo.set k v) hi < span lo hi
  | [], hi, k, a, b, v, h1, _, _, _ => by simp at h1
  | x :: lo, [], k, a, b, v, _, h2, _, _ => by simp at h2
  | x :: lo, y :: hi, 0, a, b, v, h1, h2, h3, h4 => by
    simp at h1 h2; subst h1 h2
    simp only [List.set_cons_zero, span]; omega
  | x :: lo, y :: hi, k + 1, a, b, v, h1, h2, h3, h4 => by
    have := span_set_lo lo hi k a b v (by simpa using h1) (by simpa using h2) h3 h4
    simp only [List.set_cons_succ, span]; omega
theorem allB_set_hi : ∀ (lo hi : List Int) (k : Nat) (a b v : Int), allB lo hi = true → lo[k]? = some a → hi[k]? = some b → a ≤ v → v ≤ b → allB lo (hi.set k v) = true
  | [], hi, k, a, b, v, _, h1, _, _, _ => by simp at h1
  | x :: lo, [], k, a, b, v, _, _, h2, _, _ => by simp at h2
  | x :: lo, y :: hi, 0, a, b, v, h, h1, h2, h3, h4 => by
    simp at h1 h2; subst h1 h2
    unfold allB at h
    rw [Bool.and_eq_true] at h
    simp only [List.set_cons_zero, allB]
    rw [Bool.and_eq_true]
    have := okB_iff.1 h.1
    exact ⟨okB_iff.2 ⟨by omega, by omega, by omega⟩, h.2⟩
  | x :: lo, y :: hi, k + 1, a, b, v, h, h1, h2, h3, h4 => by
    unfold allB at h
    rw [Bool.and_eq_true] at h
    simp only [List.set_cons_succ, allB]
    rw [Bool.and_eq_true]
    exact ⟨h.1, allB_set_hi lo hi k a b v h.2 (by simpa using h1) (by simpa using h2) h3 h4⟩
theorem allB_set_lo : ∀ (lo hi : List Int) (k : Nat) (a b v : Int), allB lo hi = true → lo[k]? = some a → hi[k]? = some b → a ≤ v → v ≤ b → allB (lo.set k v) hi = true
  | [], hi, k, a, b, v, _, h1, _, _, _ => by simp at h1
  | x :: lo, [], k, a, b, v, _, _, h2, _, _ => by simp at h2
  | x :: lo, y :: hi, 0, a, b, v, h, h1, h2, h3, h4 => by
    simp at h1 h2; subst h1 h2
    unfold allB at h
    rw [Bool.and_eq_true] at h
    simp only [List.set_cons_zero, allB]
    rw [Bool.and_eq_true]
    have := okB_iff.1 h.1
    exact ⟨okB_iff.2 ⟨by omega, by omega, by omega⟩, h.2⟩
  | x :: lo, y :: hi, k + 1, a, b, v, h, h1, h2, h3, h4 => by
    unfold allB at h
    rw [Bool.and_eq_true] at h
    simp only [List.set_cons_succ, allB]
    rw [Bool.and_eq_true]
    exact ⟨h.1, allB_set_lo lo hi k a b v h.2 (by simpa using h1) (by simpa using h2) h3 h4⟩
/-- a list of a part of a cube is one of the cube -/
theorem inBox_set_hi : ∀ {lo hi : List Int} {k : Nat} {b v : Int} {y : List Int}, hi[k]? = some b → v ≤ b → InBox lo (hi.set k v) y → InBox lo hi y
  | lo, [], k, b, v, y, h, _, _ => by simp at h
  | [], z :: hi, 0, b, v, y, _, _, h3 => by simp [InBox] at h3
  | [], z :: hi, k + 1, b, v, y, _, _, h3 => by simp [InBox] at h3
  | x :: lo, z :: hi, 0, b, v, [], _, _, h3 => by simp [InBox] at h3
  | x :: lo, z :: hi, k + 1, b, v, [], _, _, h3 => by simp [InBox] at h3
  | x :: lo, z :: hi, 0, b, v, y :: ys, h1, h2, h3 => by
    simp at h1; subst h1
    simp only [List.set_cons_zero] at h3
    exact ⟨h3.1, by have := h3.2.1; omega, h3.2.2⟩
  | x :: lo, z :: hi, k + 1, b, v, y :: ys, h1, h2, h3 => by
    simp only [List.set_cons_succ] at h3
    exact ⟨h3.1, h3.2.1, inBox_set_hi (by simpa using h1) h2 h3.2.2⟩
theorem inBox_set_lo : ∀ {lo hi : List Int} {k : Nat} {a v : Int} {y : List Int}, lo[k]? = some a → a ≤ v → InBox (lo.set k v) hi y → InBox lo hi y
  | [], hi, k, a, v, y, h, _, _ => by simp at h
  | x :: lo, [], 0, a, v, y, _, _, h3 => by simp [InBox] at h3
  | x :: lo, [], k + 1, a, v, y, _, _, h3 => by simp [InBox] at h3
  | x :: lo, z :: hi, 0, a, v, [], _, _, h3 => by simp [InBox] at h3
  | x :: lo, z :: hi, k + 1, a, v, [], _, _, h3 => by simp [InBox] at h3
  | x :: lo, z :: hi, 0, a, v, y :: ys, h1, h2, h3 => by
    simp at h1; subst h1
    simp only [List.set_cons_zero] at h3
    exact ⟨by have := h3.1; omega, h3.2.1, h3.2.2⟩
  | x :: lo, z :: hi, k + 1, a, v, y :: ys, h1, h2, h3 => by
    simp only [List.set_cons_succ] at h3
    exact ⟨h3.1, h3.2.1, inBox_set_lo (by simpa using h1) h2 h3.2.2⟩
/-- a cube without width is one list -/
theorem point_of_wid : ∀ {lo hi : List Int}, hi.length = lo.length → allB lo hi = true → (∀ j, j < lo.length → wid lo hi j ≤ 0) → hi = lo
  | [], [], _, _, _ => rfl
  | x :: lo, y :: hi, hl, hb, hw => by
    unfold allB at hb
    rw [Bool.and_eq_true] at hb
    have h1 := okB_iff.1 hb.1
    have h2 := hw 0 (by simp)
    have h3 : y = x := by simp [wid] at h2; omega
    rw [h3, point_of_wid (by simpa using hl) hb.2 fun j hj => by
      have := hw (j + 1) (by simp; omega)
      simpa [wid] using this]
/-- what a cube that is split at its widest place gives -/
structure Split (f : Fit) (least : Int) (lo hi : List Int) (k : Nat) (a b m : Int) : Prop where
  ka : lo[k]? = some a
  kb : hi[k]? = some b
  em : m = a + (b - a) / 2
  le : a ≤ m ∧ m < b
  c1 : CubOk f lo (hi.set k m)
  c2 : CubOk f (lo.set k (m + 1)) hi
  s1 : span lo (hi.set k m) < span lo hi
  s2 : span (lo.set k (m + 1)) hi < span lo hi
  m1 : ∀ y, InBox lo (hi.set k m) y → least ≤ costF f y
  m2 : ∀ y, InBox (lo.set k (m + 1)) hi y → least ≤ costF f y
theorem split_of {f : Fit} {least : Int} {lo hi : List Int} (hc : CubOk f lo hi) (hm : ∀ y, InBox lo hi y → least ≤ costF f y) (hb : ¬ least ≤ boundF f.terms f.goals lo hi) :
    ∃ a b, Split f least lo hi (widest lo hi) a b (midF lo hi (widest lo hi)) := by
  have hl : hi.length = lo.length := hc.h.trans hc.l.symm
  have h0 : 0 < lo.length := by rw [hc.l]; exact (valid_parts hc.v).1
  obtain ⟨h1, h2⟩ := widest_spec hl h0
  have ha : lo[widest lo hi]? = some lo[widest lo hi] := List.getElem?_eq_getElem h1
  have hb' : hi[widest lo hi]? = some (hi[widest lo hi]'(by omega)) := List.getElem?_eq_getElem (by omega)
  obtain ⟨k, hk⟩ : ∃ k, widest lo hi = k := ⟨_, rfl⟩
  obtain ⟨a, hae⟩ : ∃ a, lo[widest lo hi] = a := ⟨_, rfl⟩
  obtain ⟨b, hbe⟩ : ∃ b, hi[widest lo hi]'(by omega) = b := ⟨_, rfl⟩
  rw [hae] at ha
  rw [hbe] at hb'
  rw [hk] at ha hb' h1 h2 ⊢
  have hok := okB_iff.1 (allB_get hc.b k a b ha hb')
  have hwk : wid lo hi k = b - a := by unfold wid; rw [List.getD_eq_getElem?_getD, List.getD_eq_getElem?_getD, ha, hb']; rfl
  have hmid : midF lo hi k = a + (b - a) / 2 := by unfold midF; rw [List.getD_eq_getElem?_getD, List.getD_eq_getElem?_getD, ha, hb']; rfl
  have hpos : a < b := by
    refine Int.lt_of_not_ge fun hge => hb ?_
    have hpt := point_of_wid hl hc.b fun j hj => by have := h2 j hj; omega
    have hin : InBox lo hi lo := inBox_lo hl hc.b
    have := hm lo hin
    unfold costF at this
    rw [hpt]; exact this
  have hd : 0 ≤ (b - a) / 2 ∧ (b - a) / 2 < b - a := by omega
  refine ⟨a, b, ha, hb', hmid, by omega, ?_, ?_, ?_, ?_, ?_, ?_⟩
  · exact ⟨hc.v, hc.l, by rw [List.length_set]; exact hc.h, allB_set_hi lo hi k a b _ hc.b ha hb' (by omega) (by omega)⟩
  · exact ⟨hc.v, by rw [List.length_set]; exact hc.l, hc.h, allB_set_lo lo hi k a b _ hc.b ha hb' (by omega) (by omega)⟩
  · exact span_set_hi lo hi k a b _ ha hb' (by omega) (by omega)
  · exact span_set_lo lo hi k a b _ ha hb' (by omega) (by omega)
  · exact fun y hy => hm y (inBox_set_hi hb' (by omega) hy)
  · exact fun y hy => hm y (inBox_set_lo ha (by omega) hy)
end Go.Proofs.Ytfeafembifdklaa
