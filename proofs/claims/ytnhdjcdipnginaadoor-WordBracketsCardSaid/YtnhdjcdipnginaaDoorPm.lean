/-
  Layer 6, plain: brackets belong to each other; a part of a slice. No walk.
-/
import Derived.Test.YtnhdjcdipnginaaDoorPk
namespace Go.Proofs.YtnhdjcdipnginaaDoor
open Go.RowKit

theorem slAt_cut {α : Type} {E : Rp α} {F : Nat → Prop} {w : World} {A : Option Addr} {cap : Nat} {xs : List α} (h : SlAt E F w A cap xs) {l hi : Nat} (h1 : l ≤ hi) (h2 : hi ≤ xs.length) :
    SlAt E F w (if cap = l then A else A.map (·.add (l * E.n))) (cap - l) ((xs.drop l).take (hi - l)) := by
  have hle := h.le
  refine ⟨by rw [List.length_take, List.length_drop]; omega, by have := h.mx; omega, fun hn => ?_, fun i x hx => ?_⟩
  · by_cases hc : cap = l
    · omega
    · rw [if_neg hc] at hn
      have := h.nil (by cases A with | none => rfl | some a => cases hn)
      omega
  · have hi' := (List.getElem?_eq_some_iff.1 hx).1
    rw [List.length_take, List.length_drop] at hi'
    rw [List.getElem?_take_of_lt (by omega), List.getElem?_drop] at hx
    obtain ⟨b, o, cs, rfl, h3, h4, h5⟩ := h.el _ _ hx
    refine ⟨b, o + l * E.n, cs, ?_, h3, h4, fun j c hc => ?_⟩
    · rw [if_neg (by omega)]
      rw [Option.map_some, Addr.add_lit]
    · rw [Nat.add_assoc o, ← Nat.add_mul]; exact h5 j c hc

theorem dep_at {ms : List Mod} {j : Nat} {m : Mod} (h : ms[j]? = some m) : dep ms (j + 1) = dep ms j + delta m := by
  obtain ⟨hj, rfl⟩ := List.getElem?_eq_some_iff.1 h
  exact dep_succ (List.drop_eq_getElem_cons hj)
theorem dep_drop : ∀ (ms : List Mod) (a j : Nat), dep (ms.drop a) j = dep ms (a + j) - dep ms a
  | ms, 0, j => by simp [dep_zero]
  | [], a + 1, j => by simp [dep_nil]
  | m :: ms, a + 1, j => by
    rw [List.drop_succ_cons, dep_drop ms a j, show a + 1 + j = (a + j) + 1 from by omega, dep_cons, dep_cons]; omega
theorem dep_take {ms : List Mod} {k j : Nat} (h : j ≤ k) : dep (ms.take k) j = dep ms j := by
  unfold dep
  rw [List.take_take, show min j k = j from by omega]
theorem deep_up : ∀ (ms : List Mod) (op mo : Int), op ≤ mo → ∀ j, j ≤ ms.length → op + dep ms j ≤ deep op mo ms
  | [], op, mo, h, j, hj => by rw [dep_nil]; unfold deep; omega
  | m :: ms, op, mo, h, 0, hj => by rw [dep_zero]; have := deep_ge (m :: ms) op mo; omega
  | m :: ms, op, mo, h, j + 1, hj => by
    have hj' : j ≤ ms.length := by simpa using hj
    rw [dep_cons, deep_cons]
    by_cases h1 : m.name = 91
    · rw [if_pos h1, delta_open h1]
      have := deep_up ms (op + 1) (max mo (op + 1)) (by omega) j hj'
      omega
    · by_cases h2 : m.name = 93
      · rw [if_neg h1, if_pos h2, delta_close h2]
        have := deep_up ms (op - 1) mo (by omega) j hj'
        omega
      · rw [if_neg h1, if_neg h2, delta_else h1 h2]
        have := deep_up ms op mo h j hj'
        omega
theorem deep_is : ∀ (ms : List Mod) (op mo : Int), deep op mo ms = mo ∨ ∃ j, j ≤ ms.length ∧ deep op mo ms = op + dep ms j
  | [], op, mo => .inl rfl
  | m :: ms, op, mo => by
    rw [deep_cons]
    by_cases h1 : m.name = 91
    · rw [if_pos h1]
      rcases deep_is ms (op + 1) (max mo (op + 1)) with h | ⟨j, hj, h⟩
      · by_cases h3 : op + 1 ≤ mo
        · exact .inl (by omega)
        · exact .inr ⟨1, by simp, by rw [show (1 : Nat) = 0 + 1 from rfl, dep_cons, dep_zero, delta_open h1]; omega⟩
      · exact .inr ⟨j + 1, by simpa using hj, by rw [dep_cons, delta_open h1]; omega⟩
    · by_cases h2 : m.name = 93
      · rw [if_neg h1, if_pos h2]
        rcases deep_is ms (op - 1) mo with h | ⟨j, hj, h⟩
        · exact .inl h
        · exact .inr ⟨j + 1, by simpa using hj, by rw [dep_cons, delta_close h2]; omega⟩
      · rw [if_neg h1, if_neg h2]
        rcases deep_is ms op mo with h | ⟨j, hj, h⟩
        · exact .inl h
        · exact .inr ⟨j + 1, by simpa using hj, by rw [dep_cons, delta_else h1 h2]; omega⟩
theorem scan_of_dep : ∀ (ms : List Mod) (n : Nat), (∀ j, j ≤ ms.length → 0 ≤ (n : Int) + dep ms j) → ∃ k : Nat, scan n ms = some k ∧ (k : Int) = n + dep ms ms.length
  | [], n, _ => ⟨n, rfl, by rw [dep_nil]; omega⟩
  | m :: ms, n, h => by
    rw [scan_cons, List.length_cons, dep_cons]
    have hs : ∀ j, j ≤ ms.length → 0 ≤ (n : Int) + delta m + dep ms j := fun j hj => by have := h (j + 1) (by simpa using hj); rw [dep_cons] at this; omega
    by_cases h1 : m.name = 91
    · rw [delta_open h1] at hs ⊢
      rw [if_pos h1]
      obtain ⟨k, e, ek⟩ := scan_of_dep ms (n + 1) (fun j hj => by have := hs j hj; omega)
      exact ⟨k, e, by omega⟩
    · by_cases h2 : m.name = 93
      · rw [delta_close h2] at hs ⊢
        have h0 := hs 0 (by omega)
        rw [dep_zero] at h0
        rw [if_neg h1, if_pos h2, if_neg (by omega)]
        obtain ⟨k, e, ek⟩ := scan_of_dep ms (n - 1) (fun j hj => by have := hs j hj; omega)
        exact ⟨k, e, by omega⟩
      · rw [delta_else h1 h2] at hs ⊢
        rw [if_neg h1, if_neg h2]
        obtain ⟨k, e, ek⟩ := scan_of_dep ms n (fun j hj => by have := hs j hj; omega)
        exact ⟨k, e, by omega⟩
theorem delta_ge (m : Mod) : -1 ≤ delta m ∧ delta m ≤ 1 := by
  unfold delta
  split
  · omega
  · split <;> omega
theorem delta_up {m : Mod} (h : 0 < delta m) : m.name = 91 := by
  unfold delta at h
  split at h
  · assumption
  · split at h <;> omega
theorem delta_down {m : Mod} (h : delta m < 0) : m.name = 93 := by
  unfold delta at h
  split at h
  · omega
  · split at h
    · assumption
    · omega

/-- what a bracket and its partner say of each other -/
theorem fwd_pair {w : List Mod} {n k : Nat} {m : Mod} (hm : w[n]? = some m) (h91 : m.name = 91) (h : Fwd w n k) : n < k ∧ k < w.length ∧ ∃ m2, w[k]? = some m2 ∧ m2.name = 93 ∧ Bwd w k n ∧ dep w k = dep w n + 1 := by
  obtain ⟨a1, a2, a3, a4⟩ := h
  have hd := dep_at hm
  rw [delta_open h91] at hd
  have hnk : n < k := by
    rcases Nat.lt_or_ge n k with h | h
    · exact h
    · have : k = n := by omega
      subst this; omega
  have hget : w[k]? = some w[k] := List.getElem?_eq_getElem a2
  have hd2 := dep_at hget
  have hb := a4 (k - 1) (by omega) (by omega)
  rw [show k - 1 + 1 = k from by omega] at hb
  have hbd := delta_ge w[k]
  refine ⟨hnk, a2, _, hget, delta_down (by omega), ⟨by omega, by omega, fun j j1 j2 => ?_⟩, by omega⟩
  have := a4 (j - 1) (by omega) (by omega)
  rw [show j - 1 + 1 = j from by omega] at this
  omega
theorem bwd_pair {w : List Mod} {n k : Nat} {m : Mod} (hm : w[n]? = some m) (h93 : m.name = 93) (h : Bwd w n k) : k < n ∧ k < w.length ∧ ∃ m2, w[k]? = some m2 ∧ m2.name = 91 ∧ Fwd w k n := by
  obtain ⟨a1, a3, a4⟩ := h
  have hn := (List.getElem?_eq_some_iff.1 hm).1
  have hd := dep_at hm
  rw [delta_close h93] at hd
  have hkn : k < n := by
    rcases Nat.lt_or_ge k n with h | h
    · exact h
    · have : k = n := by omega
      subst this; omega
  have hk : k < w.length := by omega
  have hget : w[k]? = some w[k] := List.getElem?_eq_getElem hk
  have hd2 := dep_at hget
  have hb := a4 (k + 1) (by omega) (by omega)
  refine ⟨hkn, hk, _, hget, delta_up (by omega), by omega, hn, by omega, fun j j1 j2 => ?_⟩
  have := a4 (j + 1) (by omega) (by omega)
  omega
theorem closeIs_at {w : List Mod} {n : Nat} {m : Mod} {r : Int × Int} (hk : checkF w = 0) (hm : w[n]? = some m) (h : CloseIs w n r) : (¬ m.name = 91 ∧ ¬ m.name = 93 ∧ r = (0, 2)) ∨ (m.name = 91 ∧ ∃ k : Nat, Fwd w n k ∧ r = ((k : Int), 0)) ∨ (m.name = 93 ∧ ∃ k : Nat, Bwd w n k ∧ r = ((k : Int), 0)) := by
  have hn := (List.getElem?_eq_some_iff.1 hm).1
  rcases h with ⟨h1, _⟩ | ⟨_, h2, _⟩ | ⟨_, n', m', h3, h4, h5⟩
  · exact absurd hk h1
  · omega
  · have : n' = n := by omega
    subst this
    rw [hm] at h4; cases h4
    exact h5
/-- the inside of two brackets is a word -/
theorem inside_ok {w : List Mod} {n k : Nat} {m : Mod} (hk : checkF w = 0) (hm : w[n]? = some m) (h91 : m.name = 91) (h : Fwd w n k) : checkF ((w.drop (n + 1)).take (k - (n + 1))) = 0 := by
  obtain ⟨h1, h2, h3⟩ := check_parts.1 hk
  obtain ⟨p1, p2, m2, p3, p4, p5, p6⟩ := fwd_pair hm h91 h
  obtain ⟨a1, a2, a3, a4⟩ := h
  have hd := dep_at hm
  rw [delta_open h91] at hd
  have hlen : ((w.drop (n + 1)).take (k - (n + 1))).length = k - (n + 1) := by rw [List.length_take, List.length_drop]; omega
  obtain ⟨q, e, eq⟩ := scan_of_dep ((w.drop (n + 1)).take (k - (n + 1))) 0 (fun j hj => by
    rw [hlen] at hj
    rw [dep_take hj, dep_drop]
    have := a4 (n + j) (by omega) (by omega)
    rw [show n + 1 + j = n + j + 1 from by omega]
    omega)
  refine check_parts.2 ⟨by omega, ?_, ?_⟩
  · rw [List.all_eq_true]
    exact fun x hx => List.all_eq_true.1 h2 x (List.mem_of_mem_drop (List.mem_of_mem_take hx))
  · rw [e, hlen, dep_take (Nat.le_refl _), dep_drop, show n + 1 + (k - (n + 1)) = k from by omega] at *
    congr 1; omega
theorem inside_deep {w : List Mod} {n k : Nat} {m : Mod} (hm : w[n]? = some m) (h91 : m.name = 91) (h : Fwd w n k) : let d := deep 0 0 ((w.drop (n + 1)).take (k - (n + 1)))
    0 ≤ d ∧ d + 1 + dep w n ≤ deep 0 0 w ∧ ∀ j, n < j → j ≤ k → dep w j - dep w n ≤ d + 1 := by
  obtain ⟨p1, p2, m2, p3, p4, p5, p6⟩ := fwd_pair hm h91 h
  obtain ⟨a1, a2, a3, a4⟩ := h
  have hd := dep_at hm
  rw [delta_open h91] at hd
  have hlen : ((w.drop (n + 1)).take (k - (n + 1))).length = k - (n + 1) := by rw [List.length_take, List.length_drop]; omega
  refine ⟨deep_ge _ 0 0, ?_, fun j j1 j2 => ?_⟩
  · rcases deep_is ((w.drop (n + 1)).take (k - (n + 1))) 0 0 with e | ⟨j, hj, e⟩
    · rw [e]
      have := deep_up w 0 0 (by omega) (n + 1) (by omega)
      omega
    · rw [e]
      rw [hlen] at hj
      rw [dep_take hj, dep_drop]
      have := deep_up w 0 0 (by omega) (n + 1 + j) (by omega)
      omega
  · have := deep_up ((w.drop (n + 1)).take (k - (n + 1))) 0 0 (by omega) (j - (n + 1)) (by rw [hlen]; omega)
    rw [dep_take (by omega), dep_drop, show n + 1 + (j - (n + 1)) = j from by omega] at this
    omega

/-- the greatest depth so far -/
def MostIs (w : List Mod) (i : Nat) (p : Int) : Prop := 0 ≤ p ∧ p ≤ deep 0 0 w ∧ ∀ n, n < i → ∀ k m, w[n]? = some m → m.name = 91 → Fwd w n k → ∀ j, n < j → j ≤ k → dep w j - dep w n ≤ p
theorem mostIs_zero (w : List Mod) : MostIs w 0 0 := ⟨by omega, deep_ge _ _ _, fun n h => by omega⟩
theorem mostIs_keep {w : List Mod} {i : Nat} {p : Int} {m : Mod} (h : MostIs w i p) (hm : w[i]? = some m) (h91 : ¬ m.name = 91) : MostIs w (i + 1) p := by
  obtain ⟨h1, h2, h3⟩ := h
  refine ⟨h1, h2, fun n hn k m' hm' hb => ?_⟩
  rcases Nat.lt_succ_iff_lt_or_eq.1 hn with h | h
  · exact h3 n h k m' hm' hb
  · subst h
    rw [hm] at hm'; cases hm'
    exact absurd hb h91
theorem mostIs_open {w : List Mod} {i k : Nat} {p : Int} {m : Mod} (hk : checkF w = 0) (h : MostIs w i p) (hm : w[i]? = some m) (h91 : m.name = 91) (hf : Fwd w i k) : MostIs w (i + 1) (max p (deep 0 0 ((w.drop (i + 1)).take (k - (i + 1))) + 1)) := by
  obtain ⟨h1, h2, h3⟩ := h
  obtain ⟨d1, d2, d3⟩ := inside_deep hm h91 hf
  have hi := (List.getElem?_eq_some_iff.1 hm).1
  have hp : 0 ≤ dep w i := by obtain ⟨_, _, _, _, _, hpos, _⟩ := check_zero hk; exact hpos i (by omega)
  refine ⟨by omega, by omega, fun n hn k' m' hm' hb hf' j j1 j2 => ?_⟩
  rcases Nat.lt_succ_iff_lt_or_eq.1 hn with h | h
  · have := h3 n h k' m' hm' hb hf' j j1 j2
    omega
  · subst h
    have := fwd_one hf hf'
    subst this
    have := d3 j j1 j2
    omega
theorem last_zero {w : List Mod} (hp : ∀ j, j ≤ w.length → 0 ≤ dep w j) : ∀ j, j ≤ w.length → 0 < dep w j → ∃ n, n < j ∧ dep w n = 0 ∧ ∀ i, n < i → i ≤ j → 0 < dep w i
  | 0, _, h => by rw [dep_zero] at h; omega
  | j + 1, hj, h => by
    have h0 := hp j (by omega)
    by_cases hz : dep w j = 0
    · exact ⟨j, by omega, hz, fun i i1 i2 => (show i = j + 1 from by omega) ▸ h⟩
    · obtain ⟨n, a, b, c⟩ := last_zero hp j (by omega) (by omega)
      refine ⟨n, by omega, b, fun i i1 i2 => ?_⟩
      rcases Nat.lt_succ_iff_lt_or_eq.1 (Nat.lt_succ_of_le i2) with h3 | h3
      · exact c i i1 (by omega)
      · subst h3; exact h
theorem next_zero {w : List Mod} (hp : ∀ j, j ≤ w.length → 0 ≤ dep w j) (hz : dep w w.length = 0) : ∀ d j, d = w.length - j → j ≤ w.length → 0 < dep w j → ∃ k, j ≤ k ∧ k < w.length ∧ dep w (k + 1) = 0 ∧ ∀ i, j ≤ i → i ≤ k → 0 < dep w i
  | 0, j, hd, hj, h => by
    have : j = w.length := by omega
    subst this; omega
  | d + 1, j, hd, hj, h => by
    have h0 := hp (j + 1) (by omega)
    by_cases h1 : dep w (j + 1) = 0
    · exact ⟨j, by omega, by omega, h1, fun i i1 i2 => (show i = j from by omega) ▸ h⟩
    · obtain ⟨k, a, b, c, e⟩ := next_zero hp hz d (j + 1) (by omega) (by omega) (by omega)
      refine ⟨k, by omega, b, c, fun i i1 i2 => ?_⟩
      by_cases h2 : i = j
      · subst h2; exact h
      · exact e i (by omega) i2
theorem mostIs_end {w : List Mod} {p : Int} (hk : checkF w = 0) (h : MostIs w w.length p) : p = deep 0 0 w := by
  obtain ⟨h1, h2, h3⟩ := h
  obtain ⟨_, _, _, _, _, hpos, hend⟩ := check_zero hk
  rcases deep_is w 0 0 with e | ⟨j, hj, e⟩
  · omega
  · by_cases hz : dep w j = 0
    · omega
    · have := hpos j hj
      obtain ⟨n, a, b, c⟩ := last_zero hpos j hj (by omega)
      obtain ⟨k, a', b', c', d'⟩ := next_zero hpos hend _ j rfl hj (by omega)
      have hn : n < w.length := by omega
      have hget : w[n]? = some w[n] := List.getElem?_eq_getElem hn
      have hd := dep_at hget
      have h4 := c (n + 1) (by omega) (by omega)
      have hf : Fwd w n k := ⟨by omega, b', by omega, fun i i1 i2 => by
        by_cases hi : i + 1 ≤ j
        · have := c (i + 1) (by omega) hi; omega
        · have := d' (i + 1) (by omega) (by omega); omega⟩
      have := h3 n hn k _ hget (delta_up (by omega)) hf j a a'
      omega
theorem deep_le (ms : List Mod) (h : ms.length ≤ 2000) : deep 0 0 ms ≤ 2000 := by
  rcases deep_is ms 0 0 with e | ⟨j, hj, e⟩
  · omega
  · have := dep_le ms j; omega
end Go.Proofs.YtnhdjcdipnginaaDoor
