/-
  Layer 43, plain: the order of tries is complete and sorted; the best is the least, and the first of its cost.
-/
import Derived.Test.YtfeafembifdklaaZi
namespace Go.Proofs.Ytfeafembifdklaa
open Go.RowKit Go.Sort

def lexLt : List Int → List Int → Prop
  | x :: xs, y :: ys => x < y ∨ (x = y ∧ lexLt xs ys)
  | _, _ => False
theorem mem_upN : ∀ (n : Nat) (x v : Int), x < v → v ≤ x + n → v ∈ upN x n
  | 0, x, v, h1, h2 => by omega
  | n + 1, x, v, h1, h2 => by
    unfold upN
    by_cases h : v = x + 1
    · subst h; simp
    · exact List.mem_cons_of_mem _ (mem_upN n (x + 1) v (by omega) (by omega))
theorem upN_mem : ∀ (n : Nat) (x v : Int), v ∈ upN x n → x < v ∧ v ≤ x + n
  | 0, x, v, h => by simp [upN] at h
  | n + 1, x, v, h => by
    unfold upN at h
    rcases List.mem_cons.1 h with rfl | h
    · omega
    · have := upN_mem n (x + 1) v h; omega
theorem lo_least : ∀ {lo hi y : List Int}, InBox lo hi y → y = lo ∨ lexLt lo y
  | [], [], [], _ => .inl rfl
  | a :: lo, b :: hi, y :: ys, h => by
    rcases lo_least h.2.2 with e | e
    · by_cases hy : a = y
      · left; rw [hy, e]
      · right; exact .inl (by have := h.1; omega)
    · right
      by_cases hy : a = y
      · exact .inr ⟨hy, e⟩
      · exact .inl (by have := h.1; omega)
theorem mem_succs : ∀ {lo hi x y : List Int}, InBox lo hi lo → InBox lo hi x → InBox lo hi y → lexLt x y → y ∈ succs lo hi x
  | [], [], [], [], _, _, _, h => h.elim
  | a :: lo, b :: hi, x :: xs, y :: ys, h0, h1, h2, h => by
    unfold succs
    rw [List.mem_append]
    rcases h with h | ⟨rfl, h⟩
    · right
      rw [List.mem_flatMap]
      refine ⟨y, mem_upN _ _ _ h (by have := h2.2.1; have := h1.2.1; omega), List.mem_map.2 ⟨ys, ?_, rfl⟩⟩
      rcases lo_least h2.2.2 with e | e
      · rw [e]; exact List.mem_cons_self
      · exact List.mem_cons_of_mem _ (mem_succs h0.2.2 h0.2.2 h2.2.2 e)
    · left
      exact List.mem_map.2 ⟨ys, mem_succs h0.2.2 h1.2.2 h2.2.2 h, rfl⟩
theorem succs_box : ∀ {lo hi x y : List Int}, InBox lo hi lo → InBox lo hi x → y ∈ succs lo hi x → InBox lo hi y ∧ lexLt x y
  | [], [], [], y, _, _, h => by simp [succs] at h
  | a :: lo, b :: hi, x :: xs, y, h0, h1, h => by
    unfold succs at h
    rw [List.mem_append] at h
    rcases h with h | h
    · obtain ⟨ys, h2, rfl⟩ := List.mem_map.1 h
      have := succs_box h0.2.2 h1.2.2 h2
      exact ⟨⟨h1.1, h1.2.1, this.1⟩, .inr ⟨rfl, this.2⟩⟩
    · obtain ⟨v, h2, h3⟩ := List.mem_flatMap.1 h
      obtain ⟨ys, h4, rfl⟩ := List.mem_map.1 h3
      have hv := upN_mem _ _ _ h2
      have hy : InBox lo hi ys := by
        rcases List.mem_cons.1 h4 with rfl | h4
        · exact h0.2.2
        · exact (succs_box h0.2.2 h0.2.2 h4).1
      exact ⟨⟨by have := h1.1; omega, by have := h1.2.1; omega, hy⟩, .inl hv.1⟩
theorem lexLt_trans : ∀ {x y z : List Int}, lexLt x y → lexLt y z → lexLt x z
  | x :: xs, y :: ys, z :: zs, h1, h2 => by
    rcases h1 with h1 | ⟨rfl, h1⟩
    · rcases h2 with h2 | ⟨rfl, h2⟩
      · exact .inl (by omega)
      · exact .inl h1
    · rcases h2 with h2 | ⟨rfl, h2⟩
      · exact .inl h2
      · exact .inr ⟨rfl, lexLt_trans h1 h2⟩
theorem lexLt_irrefl : ∀ (x : List Int), ¬ lexLt x x
  | [], h => h
  | x :: xs, h => by
    rcases h with h | ⟨_, h⟩
    · omega
    · exact lexLt_irrefl xs h
/-- the tries behind a try stand in their order -/
theorem succs_sorted (n : Nat) : ∀ {lo hi x : List Int}, InBox lo hi lo → InBox lo hi x → (succs lo hi x).length ≤ n → (x :: succs lo hi x).Pairwise lexLt := by
  induction n with
  | zero =>
    intro lo hi x _ _ hl
    rw [List.eq_nil_of_length_eq_zero (Nat.le_zero.1 hl)]
    exact List.pairwise_singleton _ _
  | succ n ih =>
    intro lo hi x h0 h1 hl
    rw [List.pairwise_cons]
    refine ⟨fun y hy => (succs_box h0 h1 hy).2, ?_⟩
    cases hn : nextF lo hi x with
    | none => rw [succs_none hn]; exact List.Pairwise.nil
    | some y =>
      rw [succs_some hn] at hl ⊢
      exact ih h0 (inBox_next h0 h1 hn) (by simpa using hl)
/-- the search over any list of lists -/
theorem foldl_best (f : Fit) : ∀ (l : List (List Int)) (p : List Int × Int), p.2 = costF f p.1 → (p.1 :: l).Pairwise lexLt →
    (l.foldl (bestStep f) p).2 = costF f (l.foldl (bestStep f) p).1 ∧ (l.foldl (bestStep f) p).1 ∈ p.1 :: l ∧ ∀ y ∈ p.1 :: l, (l.foldl (bestStep f) p).2 ≤ costF f y ∧ (costF f y = (l.foldl (bestStep f) p).2 → y = (l.foldl (bestStep f) p).1 ∨ lexLt (l.foldl (bestStep f) p).1 y)
  | [], p, hp, _ => by
    refine ⟨hp, by simp, fun y hy => ?_⟩
    simp only [List.mem_singleton] at hy
    subst hy
    simp only [List.foldl_nil]
    exact ⟨by omega, fun _ => .inl trivial⟩
  | y :: l, p, hp, hs => by
    rw [List.foldl_cons]
    rw [List.pairwise_cons] at hs
    by_cases hc : costF f y < p.2
    · have e : bestStep f p y = (y, costF f y) := by unfold bestStep; rw [if_pos hc]
      rw [e]
      obtain ⟨h1, h2, h3⟩ := foldl_best f l (y, costF f y) rfl hs.2
      refine ⟨h1, List.mem_cons_of_mem _ h2, fun z hz => ?_⟩
      rcases List.mem_cons.1 hz with rfl | hz
      · have := (h3 y List.mem_cons_self).1
        exact ⟨by omega, fun he => by omega⟩
      · exact h3 z hz
    · have e : bestStep f p y = p := by unfold bestStep; rw [if_neg hc]
      rw [e]
      have hs' : (p.1 :: l).Pairwise lexLt := List.pairwise_cons.2 ⟨fun z hz => hs.1 z (List.mem_cons_of_mem _ hz), (List.pairwise_cons.1 hs.2).2⟩
      obtain ⟨h1, h2, h3⟩ := foldl_best f l p hp hs'
      refine ⟨h1, ?_, fun z hz => ?_⟩
      · rcases List.mem_cons.1 h2 with h2 | h2
        · rw [h2]; exact List.mem_cons_self
        · exact List.mem_cons_of_mem _ (List.mem_cons_of_mem _ h2)
      · rcases List.mem_cons.1 hz with rfl | hz
        · exact h3 _ List.mem_cons_self
        · rcases List.mem_cons.1 hz with rfl | hz
          · have hp0 := (h3 p.1 List.mem_cons_self).1
            refine ⟨by omega, fun he => .inr ?_⟩
            have hpe : costF f p.1 = (l.foldl (bestStep f) p).2 := by omega
            rcases (h3 p.1 List.mem_cons_self).2 hpe with h4 | h4
            · rw [← h4]; exact hs.1 z List.mem_cons_self
            · rcases List.mem_cons.1 h2 with h5 | h5
              · rw [h5] at h4; exact absurd h4 (lexLt_irrefl _)
              · exact absurd (lexLt_trans h4 ((List.pairwise_cons.1 hs').1 _ h5)) (lexLt_irrefl _)
          · exact h3 z (List.mem_cons_of_mem _ hz)
theorem best_box {f : Fit} (hv : validF f = true) : InBox f.lo f.hi f.lo := by
  obtain ⟨p1, p2, p3, p4, p5, p6, p7⟩ := valid_parts hv
  exact inBox_lo p3 p6
/-- the best: its cost, its place, that none is better, and that it comes first -/
theorem best_min {f : Fit} (hv : validF f = true) : (bestF f).2 = costF f (bestF f).1 ∧ InBox f.lo f.hi (bestF f).1 ∧ ∀ y, InBox f.lo f.hi y → (bestF f).2 ≤ costF f y ∧ (costF f y = (bestF f).2 → y = (bestF f).1 ∨ lexLt (bestF f).1 y) := by
  have h0 := best_box hv
  obtain ⟨h1, h2, h3⟩ := foldl_best f (succs f.lo f.hi f.lo) (f.lo, costF f f.lo) rfl (succs_sorted _ h0 h0 (Nat.le_refl _))
  refine ⟨h1, ?_, fun y hy => h3 y ?_⟩
  · rcases List.mem_cons.1 h2 with h2 | h2
    · show InBox f.lo f.hi (bestF f).1
      unfold bestF; rw [h2]; exact h0
    · exact (succs_box h0 h0 h2).1
  · rcases lo_least hy with e | e
    · rw [e]; exact List.mem_cons_self
    · exact List.mem_cons_of_mem _ (mem_succs h0 h0 hy e)
end Go.Proofs.Ytfeafembifdklaa
