/-
  Layer 43, plain: bounds grow with a cube; how many tries a cube has; what a certificate that is accepted covers.
-/
import Derived.Test.YtcdplnikpbbomaaZq
import Derived.Test.YtcdplnikpbbomaaZt
namespace Go.Proofs.Ytcdplnikpbbomaa
open Go.RowKit Go.Sort
set_option linter.unusedVariables false

/-! ### bounds -/
theorem mul_mid {c x y x' y' : Int} (h0 : x ≤ x') (h1 : x' ≤ y') (h2 : y' ≤ y) : min (c * x) (c * y) ≤ min (c * x') (c * y') ∧ max (c * x') (c * y') ≤ max (c * x) (c * y) := by
  by_cases hc : c < 0
  · have a0 : c * x' ≤ c * x := Int.mul_le_mul_of_nonpos_left (by omega) h0
    have a1 : c * y' ≤ c * x' := Int.mul_le_mul_of_nonpos_left (by omega) h1
    have a2 : c * y ≤ c * y' := Int.mul_le_mul_of_nonpos_left (by omega) h2
    omega
  · have a0 : c * x ≤ c * x' := Int.mul_le_mul_of_nonneg_left h0 (by omega)
    have a1 : c * x' ≤ c * y' := Int.mul_le_mul_of_nonneg_left h1 (by omega)
    have a2 : c * y' ≤ c * y := Int.mul_le_mul_of_nonneg_left h2 (by omega)
    omega
theorem okC_iff {a b x y : Int} : okC a b x y = true ↔ a ≤ x ∧ y ≤ b ∧ x ≤ y := by unfold okC; simp [and_assoc]
/-- a cube within a cube -/
structure SubC (lo hi lo' hi' : List Int) : Prop where
  h : hi.length = lo.length
  l' : lo'.length = lo.length
  h' : hi'.length = lo.length
  c : allC lo hi lo' hi' = true
theorem SubC.tail {a b x y : Int} {lo hi lo' hi' : List Int} (h : SubC (a :: lo) (b :: hi) (x :: lo') (y :: hi')) : (a ≤ x ∧ y ≤ b ∧ x ≤ y) ∧ SubC lo hi lo' hi' := by
  obtain ⟨h1, h2, h3, h4⟩ := h
  unfold allC at h4
  rw [Bool.and_eq_true] at h4
  exact ⟨okC_iff.1 h4.1, by simpa using h1, by simpa using h2, by simpa using h3, h4.2⟩
theorem SubC.mk' {a b x y : Int} {lo hi lo' hi' : List Int} (h0 : a ≤ x ∧ y ≤ b ∧ x ≤ y) (h : SubC lo hi lo' hi') : SubC (a :: lo) (b :: hi) (x :: lo') (y :: hi') := by
  refine ⟨by simp [h.h], by simp [h.l'], by simp [h.h'], ?_⟩
  unfold allC; rw [okC_iff.2 h0, h.c]; rfl
theorem SubC.nil : SubC [] [] [] [] := ⟨rfl, rfl, rfl, rfl⟩
theorem minT_mono : ∀ {lo hi lo' hi' : List Int}, SubC lo hi lo' hi' → ∀ cs : List Int, minT cs lo hi ≤ minT cs lo' hi' ∧ maxT cs lo' hi' ≤ maxT cs lo hi
  | [], [], [], [], _, cs => by cases cs <;> exact ⟨Int.le_refl _, Int.le_refl _⟩
  | [], _ :: _, _, _, h, _ => by have := h.h; simp at this
  | [], [], _ :: _, _, h, _ => by have := h.l'; simp at this
  | [], [], [], _ :: _, h, _ => by have := h.h'; simp at this
  | _ :: _, [], _, _, h, _ => by have := h.h; simp at this
  | _ :: _, _ :: _, [], _, h, _ => by have := h.l'; simp at this
  | _ :: _, _ :: _, _ :: _, [], h, _ => by have := h.h'; simp at this
  | a :: lo, b :: hi, x :: lo', y :: hi', h, [] => ⟨Int.le_refl _, Int.le_refl _⟩
  | a :: lo, b :: hi, x :: lo', y :: hi', h, c :: cs => by
    obtain ⟨⟨h1, h2, h3⟩, h4⟩ := h.tail
    have ih := minT_mono h4 cs
    have hm := mul_mid (c := c) h1 h3 h2
    unfold minT maxT
    omega
theorem boundT_mono {lo hi lo' hi' : List Int} (h : SubC lo hi lo' hi') (t : Frm) (g : Int) : boundT t g lo hi ≤ boundT t g lo' hi' := by
  have := minT_mono h t.coefs
  unfold boundT highT lowT; omega
theorem boundF_mono {lo hi lo' hi' : List Int} (h : SubC lo hi lo' hi') : ∀ (ts : List Frm) (gs : List Int), boundF ts gs lo hi ≤ boundF ts gs lo' hi'
  | [], gs => by cases gs <;> exact Int.le_refl _
  | _ :: _, [] => Int.le_refl _
  | t :: ts, g :: gs => by
    have h1 := boundT_mono h t g
    have h2 := boundF_mono h ts gs
    unfold boundF; omega
theorem subC_box : ∀ {lo hi y : List Int}, InBox lo hi y → SubC lo hi y y
  | [], [], [], _ => SubC.nil
  | a :: lo, b :: hi, y :: ys, h => SubC.mk' ⟨h.1, h.2.1, Int.le_refl _⟩ (subC_box h.2.2)
theorem subC_trans : ∀ {lo hi lo1 hi1 lo2 hi2 : List Int}, SubC lo hi lo1 hi1 → SubC lo1 hi1 lo2 hi2 → SubC lo hi lo2 hi2
  | [], [], [], [], [], [], _, _ => SubC.nil
  | [], _ :: _, _, _, _, _, h, _ => by have := h.h; simp at this
  | [], [], _ :: _, _, _, _, h, _ => by have := h.l'; simp at this
  | [], [], [], _ :: _, _, _, h, _ => by have := h.h'; simp at this
  | _ :: _, [], _, _, _, _, h, _ => by have := h.h; simp at this
  | _ :: _, _ :: _, [], _, _, _, h, _ => by have := h.l'; simp at this
  | _ :: _, _ :: _, _ :: _, [], _, _, h, _ => by have := h.h'; simp at this
  | _, _, [], _, _ :: _, _, _, h => by have := h.l'; simp at this
  | _, _, [], _, _, _ :: _, _, h => by have := h.h'; simp at this
  | _, _, _ :: _, _, [], _, _, h => by have := h.l'; simp at this
  | _, _, _ :: _, _, _, [], _, h => by have := h.h'; simp at this
  | a :: lo, b :: hi, x :: lo1, y :: hi1, u :: lo2, v :: hi2, h, k => by
    obtain ⟨h1, h2⟩ := h.tail
    obtain ⟨k1, k2⟩ := k.tail
    exact SubC.mk' ⟨by omega, by omega, by omega⟩ (subC_trans h2 k2)
theorem subC_in : ∀ {lo hi lo' hi' y : List Int}, SubC lo hi lo' hi' → InBox lo' hi' y → InBox lo hi y
  | [], [], [], [], [], _, _ => trivial
  | [], _ :: _, _, _, _, h, _ => by have := h.h; simp at this
  | [], [], _ :: _, _, _, h, _ => by have := h.l'; simp at this
  | [], [], [], _ :: _, _, h, _ => by have := h.h'; simp at this
  | _ :: _, [], _, _, _, h, _ => by have := h.h; simp at this
  | _ :: _, _ :: _, [], _, _, h, _ => by have := h.l'; simp at this
  | _ :: _, _ :: _, _ :: _, [], _, h, _ => by have := h.h'; simp at this
  | _ :: _, _ :: _, _ :: _, _ :: _, [], h, k => k.elim
  | [], [], [], [], _ :: _, _, k => k.elim
  | a :: lo, b :: hi, x :: lo1, z :: hi1, y :: ys, h, k => by
    obtain ⟨h1, h2⟩ := h.tail
    exact ⟨by have := k.1; omega, by have := k.2.1; omega, subC_in h2 k.2.2⟩
theorem withinF_sub {f : Fit} {lo hi : List Int} (hv : validF f = true) : withinF f lo hi = true ↔ SubC f.lo f.hi lo hi := by
  obtain ⟨p1, p2, p3, p4, p5, p6, p7⟩ := valid_parts hv
  unfold withinF
  simp only [Bool.and_eq_true, beq_iff_eq]
  exact ⟨fun h => ⟨p3, h.1.1, h.1.2, h.2⟩, fun h => ⟨⟨h.l', h.h'⟩, h.c⟩⟩
theorem subC_refl : ∀ {lo hi : List Int}, hi.length = lo.length → allB lo hi = true → SubC lo hi lo hi
  | [], [], _, _ => SubC.nil
  | a :: lo, b :: hi, h, h2 => by
    unfold allB at h2
    rw [Bool.and_eq_true] at h2
    exact SubC.mk' ⟨Int.le_refl _, Int.le_refl _, (okB_iff.1 h2.1).1⟩ (subC_refl (by simpa using h) h2.2)
theorem box_withinF {f : Fit} {y : List Int} (hv : validF f = true) : withinF f y y = true ↔ InBox f.lo f.hi y := by
  rw [withinF_sub hv]
  refine ⟨fun h => ?_, subC_box⟩
  have : ∀ {lo hi y : List Int}, SubC lo hi y y → InBox lo hi y := by
    intro lo
    induction lo with
    | nil => intro hi y h; have h1 := List.eq_nil_of_length_eq_zero h.h; have h2 := List.eq_nil_of_length_eq_zero h.l'; subst h1 h2; trivial
    | cons a lo ih =>
      intro hi y h
      match hi, y, h with
      | [], _, h => have := h.h; simp at this
      | _ :: _, [], h => have := h.l'; simp at this
      | b :: hi, y :: ys, h => obtain ⟨h1, h2⟩ := h.tail; exact ⟨h1.1, h1.2.1, ih h2⟩
  exact this h

/-! ### counting -/
def cnt : List Int → List Int → Nat
  | a :: lo, b :: hi => (b - a + 1).toNat * cnt lo hi
  | _, _ => 1
def boxL : List Int → List Int → List (List Int)
  | a :: lo, b :: hi => (upN (a - 1) (b - a + 1).toNat).flatMap fun v => (boxL lo hi).map (v :: ·)
  | _, _ => [[]]
theorem len_upN : ∀ (n : Nat) (x : Int), (upN x n).length = n
  | 0, x => rfl
  | n + 1, x => by unfold upN; simp [len_upN n (x + 1)]
theorem len_flat (m : List (List Int)) : ∀ l : List Int, (l.flatMap fun v => m.map (v :: ·)).length = l.length * m.length
  | [] => by simp
  | x :: l => by rw [List.flatMap_cons, List.length_append, len_flat m l, List.length_map, List.length_cons, Nat.succ_mul]; omega
theorem len_boxL : ∀ lo hi : List Int, (boxL lo hi).length = cnt lo hi
  | a :: lo, b :: hi => by unfold boxL cnt; rw [len_flat, len_upN, len_boxL lo hi]
  | [], _ => by unfold boxL cnt; rfl
  | _ :: _, [] => by unfold boxL cnt; rfl
theorem mem_boxL : ∀ {lo hi y : List Int}, hi.length = lo.length → (y ∈ boxL lo hi ↔ InBox lo hi y)
  | [], [], y, _ => by
    unfold boxL
    cases y with
    | nil => simp [InBox]
    | cons v y => simp [InBox]
  | a :: lo, b :: hi, y, h => by
    unfold boxL
    rw [List.mem_flatMap]
    constructor
    · rintro ⟨v, h1, h2⟩
      obtain ⟨ys, h3, rfl⟩ := List.mem_map.1 h2
      have := upN_mem _ _ _ h1
      exact ⟨by omega, by omega, (mem_boxL (by simpa using h)).1 h3⟩
    · intro hy
      match y, hy with
      | v :: ys, hy => exact ⟨v, mem_upN _ _ _ (by have := hy.1; omega) (by have := hy.1; have := hy.2.1; omega), List.mem_map.2 ⟨ys, (mem_boxL (by simpa using h)).2 hy.2.2, rfl⟩⟩
theorem upN_nodup : ∀ (n : Nat) (x : Int), (upN x n).Nodup
  | 0, x => List.nodup_nil
  | n + 1, x => by
    unfold upN
    refine List.nodup_cons.2 ⟨fun h => ?_, upN_nodup n (x + 1)⟩
    have := upN_mem _ _ _ h; omega
theorem nodup_map_cons (v : Int) {m : List (List Int)} (h : m.Nodup) : (m.map (v :: ·)).Nodup := by
  refine List.pairwise_map.2 (h.imp ?_)
  intro a b hab he
  exact hab (by simpa using he)
theorem nodup_flat {m : List (List Int)} (hm : m.Nodup) : ∀ {l : List Int}, l.Nodup → (l.flatMap fun v => m.map (v :: ·)).Nodup
  | [], _ => by simp
  | x :: l, h => by
    rw [List.flatMap_cons]
    obtain ⟨h1, h2⟩ := List.nodup_cons.1 h
    refine List.pairwise_append.2 ⟨nodup_map_cons x hm, nodup_flat hm h2, ?_⟩
    intro a ha b hb he
    obtain ⟨a', _, rfl⟩ := List.mem_map.1 ha
    obtain ⟨v, hv, hb'⟩ := List.mem_flatMap.1 hb
    obtain ⟨b', _, rfl⟩ := List.mem_map.1 hb'
    simp at he
    exact h1 (he.1 ▸ hv)
theorem nodup_boxL : ∀ lo hi : List Int, (boxL lo hi).Nodup
  | a :: lo, b :: hi => by unfold boxL; exact nodup_flat (nodup_boxL lo hi) (upN_nodup _ _)
  | [], _ => by unfold boxL; simp
  | _ :: _, [] => by unfold boxL; simp
theorem nodup_le {α : Type} [BEq α] [LawfulBEq α] : ∀ {l m : List α}, l.Nodup → (∀ x ∈ l, x ∈ m) → l.length ≤ m.length
  | [], m, _, _ => Nat.zero_le _
  | x :: l, m, h, hs => by
    obtain ⟨h1, h2⟩ := List.nodup_cons.1 h
    have hx := hs x List.mem_cons_self
    have ih := nodup_le (m := m.erase x) h2 fun y hy => by
      refine (List.mem_erase_of_ne ?_).2 (hs y (List.mem_cons_of_mem _ hy))
      intro he; exact h1 (he ▸ hy)
    rw [List.length_erase_of_mem hx] at ih
    have : 0 < m.length := List.length_pos_of_mem hx
    rw [List.length_cons]; omega
theorem cnt_pos : ∀ {lo hi : List Int}, allB lo hi = true → 1 ≤ cnt lo hi
  | [], _, _ => by unfold cnt; exact Nat.le_refl _
  | _ :: _, [], _ => by unfold cnt; exact Nat.le_refl _
  | a :: lo, b :: hi, h => by
    unfold allB at h
    rw [Bool.and_eq_true] at h
    have h1 := cnt_pos h.2
    have h2 := (okB_iff.1 h.1).1
    unfold cnt
    exact Nat.mul_pos (by omega) h1
theorem min_mul_cap (p : Int) (c : Nat) (hc : 1 ≤ c) (hp : 0 ≤ p) : min (min p 20001 * (c : Int)) 20001 = min (p * (c : Int)) 20001 := by
  by_cases h : p ≤ 20001
  · rw [Int.min_eq_left h]
  · have h1 : (20001 : Int) * 1 ≤ 20001 * (c : Int) := Int.mul_le_mul_of_nonneg_left (by omega) (by omega)
    have h2 : (20001 : Int) * (c : Int) ≤ p * (c : Int) := Int.mul_le_mul_of_nonneg_right (by omega) (by omega)
    rw [Int.min_eq_right (by omega : (20001 : Int) ≤ p)]
    omega
theorem manyF_cnt : ∀ {lo hi : List Int} (a : Int), allB lo hi = true → hi.length = lo.length → 0 ≤ a → a ≤ 20001 → manyF a lo hi = min (a * (cnt lo hi : Int)) 20001
  | [], [], a, _, _, h0, h1 => by unfold manyF cnt; simp; omega
  | x :: lo, y :: hi, a, h, hl, h0, h1 => by
    unfold allB at h
    rw [Bool.and_eq_true] at h
    obtain ⟨k1, k2, k3⟩ := okB_iff.1 h.1
    have hm := mul_bd2 h0 h1 (show 1 ≤ y - x + 1 by omega) (by omega)
    have hc := min_cap hm.1
    unfold manyF cnt
    rw [manyF_cnt _ h.2 (by simpa using hl) hc.1 hc.2, min_mul_cap _ _ (cnt_pos h.2) hm.1]
    have e : ((y - x + 1).toNat : Int) = y - x + 1 := by omega
    rw [Int.natCast_mul, e, Int.mul_assoc]
/-- a cube within another has no more tries -/
theorem cnt_le {lo hi lo' hi' : List Int} (h : SubC lo hi lo' hi') : cnt lo' hi' ≤ cnt lo hi := by
  rw [← len_boxL, ← len_boxL]
  exact nodup_le (nodup_boxL _ _) fun y hy => (mem_boxL h.h).2 (subC_in h ((mem_boxL (h.h'.trans h.l'.symm)).1 hy))

/-! ### a certificate -/
theorem apart_box : ∀ {p q r s y : List Int}, apartF p q r s = true → InBox p q y → InBox r s y → False
  | [], _, _, _, _, h, _, _ => by unfold apartF at h; cases h
  | _ :: _, [], _, _, _, h, _, _ => by unfold apartF at h; cases h
  | _ :: _, _ :: _, [], _, _, h, _, _ => by unfold apartF at h; cases h
  | _ :: _, _ :: _, _ :: _, [], _, h, _, _ => by unfold apartF at h; cases h
  | _ :: _, _ :: _, _ :: _, _ :: _, [], _, h, _ => h.elim
  | x :: p, y :: q, z :: r, u :: s, v :: vs, h, h1, h2 => by
    unfold apartF at h
    simp only [Bool.or_eq_true, decide_eq_true_eq] at h
    rcases h with (h | h) | h
    · have := h1.2.1; have := h2.1; omega
    · have := h2.2.1; have := h1.1; omega
    · exact apart_box h h1.2.2 h2.2.2
def okL (f : Fit) (cost : Int) (cs : List Cub) : Prop := (∀ c ∈ cs, okCub f cost c = true) ∧ cs.Pairwise (fun a b => apC b a = true)
def sumM (cs : List Cub) : Int := (cs.map fun c => manyF 1 c.lo c.hi).sum
theorem accGo_iff (f : Fit) (cost : Int) : ∀ (cs pre : List Cub) (rest : Int), accGo f cost (pre ++ cs) pre.length rest cs = true ↔ (okL f cost cs ∧ ∀ c ∈ cs, ∀ d ∈ pre, apC c d = true) ∧ rest = sumM cs
  | [], pre, rest => by
    unfold accGo okL sumM
    simp
  | c :: cs, pre, rest => by
    have ih := accGo_iff f cost cs (pre ++ [c]) (rest - manyF 1 c.lo c.hi)
    rw [List.append_assoc, List.singleton_append, List.length_append, List.length_singleton] at ih
    unfold accGo
    rw [Bool.and_eq_true, Bool.and_eq_true, ih, List.take_left', List.all_eq_true]
    · unfold okL sumM
      rw [List.map_cons, List.sum_cons, List.pairwise_cons]
      constructor
      · rintro ⟨⟨h1, h2⟩, ⟨⟨h3, h4⟩, h5⟩, h6⟩
        refine ⟨⟨⟨fun d hd => ?_, fun d hd => ?_, h4⟩, fun d hd e he => ?_⟩, by omega⟩
        · rcases List.mem_cons.1 hd with rfl | hd
          · exact h1
          · exact h3 d hd
        · exact h5 d hd c (by simp)
        · rcases List.mem_cons.1 hd with rfl | hd
          · exact h2 e he
          · exact h5 d hd e (by simp [he])
      · rintro ⟨⟨⟨h1, h2, h3⟩, h4⟩, h5⟩
        refine ⟨⟨h1 c (by simp), fun d hd => h4 c (by simp) d hd⟩, ⟨⟨fun d hd => h1 d (by simp [hd]), h3⟩, fun d hd e he => ?_⟩, by omega⟩
        rcases List.mem_append.1 he with he | he
        · exact h4 d (by simp [hd]) e he
        · simp at he; subst he; exact h2 d hd
    · rfl
theorem okCub_iff {f : Fit} {cost : Int} {c : Cub} (hv : validF f = true) : okCub f cost c = true ↔ SubC f.lo f.hi c.lo c.hi ∧ cost ≤ boundF f.terms f.goals c.lo c.hi := by
  unfold okCub
  rw [Bool.and_eq_true, withinF_sub hv, decide_eq_true_eq]
theorem acceptF_iff {f : Fit} {cost : Int} {l : List Cub} (hck : checkFit f = 0) : acceptF f cost l = (true, 0) ↔ l.length ≤ 2000 ∧ okL f cost l ∧ manyF 1 f.lo f.hi = sumM l := by
  have h := accGo_iff f cost l [] (manyF 1 f.lo f.hi)
  simp only [List.nil_append, List.length_nil, List.not_mem_nil, false_implies, implies_true, and_true] at h
  unfold acceptF
  rw [if_pos hck]
  by_cases hl : 2000 < l.length
  · rw [if_pos hl]
    exact ⟨(fun e => by cases e), (fun e => absurd e.1 (by omega))⟩
  · rw [if_neg hl, ← h]
    simp; omega
theorem acceptF_err {f : Fit} {cost : Int} {l : List Cub} (hck : checkFit f = 0) : (acceptF f cost l).2 = if 2000 < l.length then 4 else 0 := by
  unfold acceptF; rw [if_pos hck]; split <;> rfl
theorem sumM_cnt {f : Fit} {cost : Int} (hv : validF f = true) (h400 : (cnt f.lo f.hi : Int) ≤ 20000) : ∀ {cs : List Cub}, (∀ c ∈ cs, okCub f cost c = true) → sumM cs = ((cs.flatMap fun c => boxL c.lo c.hi).length : Int)
  | [], _ => rfl
  | c :: cs, h => by
    have hs := ((okCub_iff hv).1 (h c (by simp))).1
    obtain ⟨p1, p2, p3, p4, p5, p6, p7⟩ := valid_parts hv
    have hle := cnt_le hs
    have hb := allC_allB p3.symm hs.l'.symm hs.h'.symm p6 hs.c
    have ih := sumM_cnt hv h400 (cs := cs) fun d hd => h d (by simp [hd])
    unfold sumM at ih ⊢
    rw [List.map_cons, List.sum_cons, ih, manyF_cnt 1 hb (hs.h'.trans hs.l'.symm) (by omega) (by omega), List.flatMap_cons, List.length_append, len_boxL]
    omega
theorem nodup_cubes {f : Fit} {cost : Int} (hv : validF f = true) : ∀ {cs : List Cub}, okL f cost cs → (cs.flatMap fun c => boxL c.lo c.hi).Nodup
  | [], _ => by simp
  | c :: cs, ⟨h1, h2⟩ => by
    rw [List.pairwise_cons] at h2
    rw [List.flatMap_cons]
    refine List.pairwise_append.2 ⟨nodup_boxL _ _, nodup_cubes hv ⟨fun d hd => h1 d (by simp [hd]), h2.2⟩, ?_⟩
    intro a ha b hb he
    subst he
    obtain ⟨d, hd, hb'⟩ := List.mem_flatMap.1 hb
    have hs := ((okCub_iff hv).1 (h1 c (by simp))).1
    have hs' := ((okCub_iff hv).1 (h1 d (by simp [hd]))).1
    exact apart_box (h2.1 d hd) ((mem_boxL (hs'.h'.trans hs'.l'.symm)).1 hb') ((mem_boxL (hs.h'.trans hs.l'.symm)).1 ha)
/-- what is accepted is a lower bound of every try's cost -/
theorem accept_sound {f : Fit} {cost : Int} {l : List Cub} (hck : checkFit f = 0) (h : acceptF f cost l = (true, 0)) {y : List Int} (hy : InBox f.lo f.hi y) : cost ≤ costF f y := by
  have hv := checkFit_valid hck
  obtain ⟨p1, p2, p3, p4, p5, p6, p7⟩ := valid_parts hv
  obtain ⟨_, hok, hsum⟩ := (acceptF_iff hck).1 h
  have hm := manyF_cnt 1 p6 p3 (by omega) (by omega)
  have hle : manyF 1 f.lo f.hi ≤ 20000 := by
    unfold checkFit at hck
    rw [if_pos hv] at hck
    by_cases hb : 20000 < manyF 1 f.lo f.hi
    · rw [if_pos hb] at hck; omega
    · omega
  have hc : (cnt f.lo f.hi : Int) ≤ 20000 := by omega
  rw [sumM_cnt hv hc hok.1, hm] at hsum
  have hlen : (l.flatMap fun c => boxL c.lo c.hi).length = cnt f.lo f.hi := by omega
  have hex : y ∈ l.flatMap fun c => boxL c.lo c.hi := by
    refine Classical.byContradiction fun hno => ?_
    have := nodup_le (l := y :: l.flatMap fun c => boxL c.lo c.hi) (m := boxL f.lo f.hi) (List.nodup_cons.2 ⟨hno, nodup_cubes hv hok⟩) fun z hz => by
      rcases List.mem_cons.1 hz with rfl | hz
      · exact (mem_boxL p3).2 hy
      · obtain ⟨d, hd, hz'⟩ := List.mem_flatMap.1 hz
        have hs := ((okCub_iff hv).1 (hok.1 d hd)).1
        exact (mem_boxL p3).2 (subC_in hs ((mem_boxL (hs.h'.trans hs.l'.symm)).1 hz'))
    rw [len_boxL, List.length_cons] at this
    omega
  obtain ⟨d, hd, hz⟩ := List.mem_flatMap.1 hex
  have hs := (okCub_iff hv).1 (hok.1 d hd)
  have hin := (mem_boxL (hs.1.h'.trans hs.1.l'.symm)).1 hz
  have := boundF_mono (subC_box hin) f.terms f.goals
  unfold costF
  omega

/-! ### the search's certificate -/
def lookG (f : Fit) (least : Int) : Nat → List Int → List Int → List Cub
  | 0, _, _ => []
  | n + 1, lo, hi => if least ≤ boundF f.terms f.goals lo hi then [⟨lo, hi⟩] else
      lookG f least n lo (hi.set (widest lo hi) (midF lo hi (widest lo hi))) ++ lookG f least n (lo.set (widest lo hi) (midF lo hi (widest lo hi) + 1)) hi
theorem lookF_G (f : Fit) (least : Int) : ∀ (n : Nat) (lo hi : List Int) (out : List Cub), out.length + (lookG f least n lo hi).length ≤ 2000 → lookF f least n lo hi out = out ++ lookG f least n lo hi
  | 0, lo, hi, out, _ => by unfold lookF lookG; simp
  | n + 1, lo, hi, out, h => by
    unfold lookG at h ⊢
    unfold lookF
    rw [if_neg (by omega)]
    by_cases hb : least ≤ boundF f.terms f.goals lo hi
    · rw [if_pos hb, if_pos hb]
    · rw [if_neg hb] at h ⊢
      rw [List.length_append] at h
      rw [if_neg hb, lookF_G f least n lo _ out (by omega), lookF_G f least n _ hi _ (by rw [List.length_append]; omega), List.append_assoc]
theorem subC_set_hi : ∀ {lo hi : List Int} {k : Nat} {a b v : Int}, hi.length = lo.length → allB lo hi = true → lo[k]? = some a → hi[k]? = some b → a ≤ v → v ≤ b → SubC lo hi lo (hi.set k v)
  | [], _, k, a, b, v, _, _, h, _, _, _ => by simp at h
  | _ :: _, [], k, a, b, v, hl, _, _, _, _, _ => by simp at hl
  | x :: lo, y :: hi, 0, a, b, v, hl, hb, h1, h2, h3, h4 => by
    unfold allB at hb
    rw [Bool.and_eq_true] at hb
    simp at h1 h2; subst h1 h2
    exact SubC.mk' ⟨Int.le_refl _, h4, h3⟩ (subC_refl (by simpa using hl) hb.2)
  | x :: lo, y :: hi, k + 1, a, b, v, hl, hb, h1, h2, h3, h4 => by
    unfold allB at hb
    rw [Bool.and_eq_true] at hb
    exact SubC.mk' ⟨Int.le_refl _, Int.le_refl _, (okB_iff.1 hb.1).1⟩ (subC_set_hi (by simpa using hl) hb.2 (by simpa using h1) (by simpa using h2) h3 h4)
theorem subC_set_lo : ∀ {lo hi : List Int} {k : Nat} {a b v : Int}, hi.length = lo.length → allB lo hi = true → lo[k]? = some a → hi[k]? = some b → a ≤ v → v ≤ b → SubC lo hi (lo.set k v) hi
  | [], _, k, a, b, v, _, _, h, _, _, _ => by simp at h
  | _ :: _, [], k, a, b, v, hl, _, _, _, _, _ => by simp at hl
  | x :: lo, y :: hi, 0, a, b, v, hl, hb, h1, h2, h3, h4 => by
    unfold allB at hb
    rw [Bool.and_eq_true] at hb
    simp at h1 h2; subst h1 h2
    exact SubC.mk' ⟨h3, Int.le_refl _, h4⟩ (subC_refl (by simpa using hl) hb.2)
  | x :: lo, y :: hi, k + 1, a, b, v, hl, hb, h1, h2, h3, h4 => by
    unfold allB at hb
    rw [Bool.and_eq_true] at hb
    exact SubC.mk' ⟨Int.le_refl _, Int.le_refl _, (okB_iff.1 hb.1).1⟩ (subC_set_lo (by simpa using hl) hb.2 (by simpa using h1) (by simpa using h2) h3 h4)
theorem cnt_split : ∀ {lo hi : List Int} {k : Nat} {a b m : Int}, lo[k]? = some a → hi[k]? = some b → a ≤ m → m < b → cnt lo (hi.set k m) + cnt (lo.set k (m + 1)) hi = cnt lo hi
  | [], _, k, a, b, m, h, _, _, _ => by simp at h
  | _ :: _, [], k, a, b, m, _, h, _, _ => by simp at h
  | x :: lo, y :: hi, 0, a, b, m, h1, h2, h3, h4 => by
    simp at h1 h2; subst h1 h2
    simp only [List.set_cons_zero]
    unfold cnt
    rw [← Nat.add_mul]
    congr 1; omega
  | x :: lo, y :: hi, k + 1, a, b, m, h1, h2, h3, h4 => by
    simp only [List.set_cons_succ]
    have ih := cnt_split (lo := lo) (hi := hi) (k := k) (by simpa using h1) (by simpa using h2) h3 h4
    unfold cnt
    rw [← Nat.mul_add, ih]
theorem apart_at : ∀ {p q r s : List Int} (k : Nat) {x u : Int}, q.length = p.length → r.length = p.length → s.length = p.length → p[k]? = some x → s[k]? = some u → u < x → apartF p q r s = true
  | [], _, _, _, k, x, u, _, _, _, h, _, _ => by simp at h
  | _ :: _, [], _, _, k, x, u, h, _, _, _, _, _ => by simp at h
  | _ :: _, _ :: _, [], _, k, x, u, _, h, _, _, _, _ => by simp at h
  | _ :: _, _ :: _, _ :: _, [], k, x, u, _, _, h, _, _, _ => by simp at h
  | p0 :: p, q0 :: q, r0 :: r, s0 :: s, 0, x, u, h1, h2, h3, h4, h5, h6 => by
    simp at h4 h5; subst h4 h5
    unfold apartF
    simp [h6]
  | p0 :: p, q0 :: q, r0 :: r, s0 :: s, k + 1, x, u, h1, h2, h3, h4, h5, h6 => by
    have ih := apart_at (p := p) (q := q) (r := r) (s := s) k (by simpa using h1) (by simpa using h2) (by simpa using h3) (by simpa using h4) (by simpa using h5) h6
    unfold apartF
    rw [ih]; simp
theorem subC_get : ∀ {lo hi lo' hi' : List Int} (k : Nat), SubC lo hi lo' hi' → k < lo.length → ∃ a b x y, lo[k]? = some a ∧ hi[k]? = some b ∧ lo'[k]? = some x ∧ hi'[k]? = some y ∧ a ≤ x ∧ y ≤ b
  | [], _, _, _, k, _, h => by simp at h
  | _ :: _, [], _, _, _, h, _ => by have := h.h; simp at this
  | _ :: _, _ :: _, [], _, _, h, _ => by have := h.l'; simp at this
  | _ :: _, _ :: _, _ :: _, [], _, h, _ => by have := h.h'; simp at this
  | a :: lo, b :: hi, x :: lo', y :: hi', 0, h, _ => ⟨a, b, x, y, rfl, rfl, rfl, rfl, h.tail.1.1, h.tail.1.2.1⟩
  | a :: lo, b :: hi, x :: lo', y :: hi', k + 1, h, hk => by
    obtain ⟨a', b', x', y', h1, h2, h3, h4, h5⟩ := subC_get k h.tail.2 (by simpa using hk)
    exact ⟨a', b', x', y', by simpa using h1, by simpa using h2, by simpa using h3, by simpa using h4, h5⟩
def sumC (cs : List Cub) : Nat := (cs.map fun c => cnt c.lo c.hi).sum
theorem lookG_spec (f : Fit) (least : Int) : ∀ (n : Nat) {lo hi : List Int}, CubOk f lo hi → (∀ y, InBox lo hi y → least ≤ costF f y) → span lo hi < n →
    (∀ c ∈ lookG f least n lo hi, SubC lo hi c.lo c.hi ∧ least ≤ boundF f.terms f.goals c.lo c.hi) ∧ (lookG f least n lo hi).Pairwise (fun a b => apC b a = true) ∧ sumC (lookG f least n lo hi) = cnt lo hi
  | 0, lo, hi, _, _, h => absurd h (Nat.not_lt_zero _)
  | n + 1, lo, hi, hc, hm, hs => by
    have hl : hi.length = lo.length := hc.h.trans hc.l.symm
    unfold lookG
    by_cases hb : least ≤ boundF f.terms f.goals lo hi
    · rw [if_pos hb]
      refine ⟨fun c hc' => ?_, List.pairwise_singleton _ _, by simp [sumC]⟩
      simp at hc'; subst hc'
      exact ⟨subC_refl hl hc.b, hb⟩
    · rw [if_neg hb]
      obtain ⟨a, b, hsp⟩ := split_of hc hm hb
      obtain ⟨k, hk⟩ : ∃ k, widest lo hi = k := ⟨_, rfl⟩
      obtain ⟨m, hmm⟩ : ∃ m, midF lo hi k = m := ⟨_, rfl⟩
      rw [hk, hmm] at hsp ⊢
      have u1 := subC_set_hi hl hc.b hsp.ka hsp.kb hsp.le.1 (Int.le_of_lt hsp.le.2)
      have u2 := subC_set_lo hl hc.b hsp.ka hsp.kb (v := m + 1) (by have := hsp.le.1; omega) (by have := hsp.le.2; omega)
      obtain ⟨i1, i2, i3⟩ := lookG_spec f least n hsp.c1 hsp.m1 (by have := hsp.s1; omega)
      obtain ⟨j1, j2, j3⟩ := lookG_spec f least n hsp.c2 hsp.m2 (by have := hsp.s2; omega)
      refine ⟨fun c hc' => ?_, List.pairwise_append.2 ⟨i2, j2, fun c hcm d hdm => ?_⟩, ?_⟩
      · rcases List.mem_append.1 hc' with h | h
        · exact ⟨subC_trans u1 (i1 c h).1, (i1 c h).2⟩
        · exact ⟨subC_trans u2 (j1 c h).1, (j1 c h).2⟩
      · have s1 := (i1 c hcm).1
        have s2 := (j1 d hdm).1
        have hkl : k < lo.length := (List.getElem?_eq_some_iff.1 hsp.ka).1
        obtain ⟨_, y1, _, v1, _, e2, _, e4, _, e6⟩ := subC_get k s1 hkl
        obtain ⟨x2, _, z2, _, g1, _, g3, _, g5, _⟩ := subC_get k s2 (by rw [List.length_set]; exact hkl)
        have hkh : k < hi.length := (List.getElem?_eq_some_iff.1 hsp.kb).1
        rw [List.getElem?_set_self hkh] at e2
        rw [List.getElem?_set_self hkl] at g1
        cases e2
        cases g1
        have l1 : c.lo.length = lo.length := s1.l'
        have l2 : c.hi.length = lo.length := s1.h'
        have l3 : d.lo.length = lo.length := by have := s2.l'; rwa [List.length_set] at this
        have l4 : d.hi.length = lo.length := by have := s2.h'; rwa [List.length_set] at this
        exact apart_at k (l4.trans l3.symm) (l1.trans l3.symm) (l2.trans l3.symm) g3 e4 (by omega)
      · have hcs := cnt_split hsp.ka hsp.kb hsp.le.1 hsp.le.2
        unfold sumC at i3 j3 ⊢
        rw [List.map_append, List.sum_append, i3, j3, hcs]
theorem sumC_len : ∀ {cs : List Cub}, (∀ c ∈ cs, 1 ≤ cnt c.lo c.hi) → cs.length ≤ sumC cs
  | [], _ => Nat.zero_le _
  | c :: cs, h => by
    have h1 := h c (by simp)
    have h2 := sumC_len (cs := cs) fun d hd => h d (by simp [hd])
    unfold sumC at h2 ⊢
    rw [List.length_cons, List.map_cons, List.sum_cons]; omega
theorem sumM_C {lo hi : List Int} (hb : allB lo hi = true) (hle : (cnt lo hi : Int) ≤ 20000) : ∀ {cs : List Cub}, (∀ c ∈ cs, SubC lo hi c.lo c.hi) → sumM cs = (sumC cs : Int)
  | [], _ => rfl
  | c :: cs, h => by
    have ih := sumM_C hb hle (cs := cs) fun d hd => h d (by simp [hd])
    have hs := h c (by simp)
    have h1 := cnt_le hs
    have hbb := allC_allB hs.h.symm hs.l'.symm hs.h'.symm hb hs.c
    unfold sumM sumC at ih ⊢
    rw [List.map_cons, List.sum_cons, List.map_cons, List.sum_cons, ih, manyF_cnt 1 hbb (hs.h'.trans hs.l'.symm) (by omega) (by omega)]
    omega
theorem cnt_of_check {f : Fit} (hck : checkFit f = 0) : (cnt f.lo f.hi : Int) = manyF 1 f.lo f.hi ∧ manyF 1 f.lo f.hi ≤ 20000 := by
  have hv := checkFit_valid hck
  obtain ⟨p1, p2, p3, p4, p5, p6, p7⟩ := valid_parts hv
  have hm := manyF_cnt 1 p6 p3 (by omega) (by omega)
  have hle : manyF 1 f.lo f.hi ≤ 20000 := by
    unfold checkFit at hck
    rw [if_pos hv] at hck
    by_cases hb : 20000 < manyF 1 f.lo f.hi
    · rw [if_pos hb] at hck; omega
    · omega
  exact ⟨by omega, hle⟩
end Go.Proofs.Ytcdplnikpbbomaa
