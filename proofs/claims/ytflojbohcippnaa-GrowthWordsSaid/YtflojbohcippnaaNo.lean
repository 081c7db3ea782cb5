/-
  Layer 10, plain: counts of joint words are sums; counts after more steps are products; products of three matrices. No walk.
-/
import Derived.Test.YtflojbohcippnaaNj
import Derived.Test.YtflojbohcippnaaWh
namespace Go.Proofs.Ytflojbohcippnaa
open Go.RowKit

/-! ### sums -/
structure Adds (x y z : List Int) : Prop where
  lx : x.length = z.length
  ly : y.length = z.length
  ev : ∀ i, z.getD i 0 = x.getD i 0 + y.getD i 0
theorem dot_adds {x y z : List Int} (h : Adds x y z) (m : List (List Int)) (k : Nat) : ∀ j, dot z m k j = dot x m k j + dot y m k j
  | 0 => rfl
  | j + 1 => by
    show dot z m k j + z.getD j 0 * _ = (dot x m k j + x.getD j 0 * _) + (dot y m k j + y.getD j 0 * _)
    rw [dot_adds h m k j, h.ev j, Int.add_mul]; omega
theorem getD_map_range (f : Nat → Int) (n i : Nat) : ((List.range n).map f).getD i 0 = if i < n then f i else 0 := by
  rw [List.getD_eq_getElem?_getD, List.getElem?_map]
  by_cases h : i < n
  · rw [List.getElem?_range h, if_pos h]; rfl
  · rw [List.getElem?_eq_none (by simpa using h), if_neg h]; rfl
theorem prodRow_iff {x : List Int} {m : List (List Int)} {z : List Int} : prodRow x m = some z ↔ (∀ i, i < m.length → dot x m i x.length ≤ 1000000000000000) ∧ z = (List.range m.length).map fun k => dot x m k x.length := by
  constructor
  · intro h
    unfold prodRow at h
    split at h
    · rename_i ha
      cases h
      exact ⟨fun i hi => of_decide_eq_true (List.all_eq_true.1 ha i (List.mem_range.2 hi)), rfl⟩
    · cases h
  · rintro ⟨h, rfl⟩; exact prodRow_some h
theorem adds_prod {x y z z' : List Int} {m : List (List Int)} (h : Adds x y z) (hx : Pos x) (hy : Pos y) (hm : ∀ r ∈ m, Pos r) (hz : prodRow z m = some z') : ∃ x' y', prodRow x m = some x' ∧ prodRow y m = some y' ∧ Adds x' y' z' := by
  obtain ⟨h1, rfl⟩ := prodRow_iff.1 hz
  refine ⟨_, _, prodRow_iff.2 ⟨fun i hi => ?_, rfl⟩, prodRow_iff.2 ⟨fun i hi => ?_, rfl⟩, by simp, by simp, fun i => ?_⟩
  · have := h1 i hi
    rw [dot_adds h] at this
    have h2 := dot_nonneg hy hm i z.length
    rw [h.lx]; omega
  · have := h1 i hi
    rw [dot_adds h] at this
    have h2 := dot_nonneg hx hm i z.length
    rw [h.ly]; omega
  · rw [getD_map_range, getD_map_range, getD_map_range, dot_adds h, h.lx, h.ly]
    split <;> omega
theorem adds_iter {m : List (List Int)} (hm : ∀ r ∈ m, Pos r) : ∀ (n : Nat) {x y z z' : List Int}, Adds x y z → Pos x → Pos y → iterF m n z = some z' → ∃ x' y', iterF m n x = some x' ∧ iterF m n y = some y' ∧ Adds x' y' z'
  | 0, x, y, z, z', h, _, _, hz => by cases hz; exact ⟨x, y, rfl, rfl, h⟩
  | n + 1, x, y, z, z', h, hx, hy, hz => by
    unfold iterF at hz
    cases hp : prodRow z m with
    | none => rw [hp] at hz; cases hz
    | some z1 =>
      rw [hp] at hz
      obtain ⟨x1, y1, e1, e2, h1⟩ := adds_prod h hx hy hm hp
      obtain ⟨x', y', e3, e4, h2⟩ := adds_iter hm n h1 (prodRow_pos hx hm e1) (prodRow_pos hy hm e2) hz
      exact ⟨x', y', by unfold iterF; rw [e1]; exact e3, by unfold iterF; rw [e2]; exact e4, h2⟩
theorem adds_vec (p : ByteArray) (a b : List Mod) : Adds (vecF p a) (vecF p b) (vecF p (a ++ b)) := by
  refine ⟨by simp [vecF], by simp [vecF], fun i => ?_⟩
  unfold vecF
  rw [getD_map_range, getD_map_range, getD_map_range, vecFn_append]
  split <;> omega
theorem scan_append : ∀ (a b : List Mod) (n : Nat), scan n (a ++ b) = (scan n a).bind (fun k => scan k b)
  | [], b, n => rfl
  | m :: a, b, n => by
    rw [List.cons_append]
    have e1 : scan n (m :: (a ++ b)) = if m.name = 91 then scan (n + 1) (a ++ b) else if m.name = 93 then (if n = 0 then none else scan (n - 1) (a ++ b)) else scan n (a ++ b) := rfl
    have e2 : scan n (m :: a) = if m.name = 91 then scan (n + 1) a else if m.name = 93 then (if n = 0 then none else scan (n - 1) a) else scan n a := rfl
    rw [e1, e2]
    split
    · exact scan_append a b _
    · split
      · split
        · rfl
        · exact scan_append a b _
      · exact scan_append a b _
theorem checkF_zero {w : List Mod} : checkF w = 0 ↔ w.length ≤ 2000 ∧ w.all fineF = true ∧ scan 0 w = some 0 := by
  unfold checkF
  by_cases h1 : 2000 < w.length
  · rw [if_pos h1]; constructor
    · intro h; cases h
    · rintro ⟨h, _⟩; omega
  · rw [if_neg h1]
    cases h2 : w.all fineF
    · simp
    · rw [if_neg (by decide)]
      cases h3 : scan 0 w with
      | none => simp
      | some n =>
        cases n with
        | zero => simp; omega
        | succ n => simp
theorem checkF_append {a b : List Mod} (ha : checkF a = 0) (hb : checkF b = 0) (hl : ¬ 2000 < a.length + b.length) : checkF (a ++ b) = 0 := by
  obtain ⟨a1, a2, a3⟩ := checkF_zero.1 ha
  obtain ⟨b1, b2, b3⟩ := checkF_zero.1 hb
  exact checkF_zero.2 ⟨by rw [List.length_append]; omega, by rw [List.all_append, a2, b2]; rfl, by rw [scan_append, a3]; exact b3⟩

/-- what is known where counts have no error -/
theorem counts_ok {rs : List Rul} {p : ByteArray} {ms : List Mod} {n : Int} (hk : checkG rs p = 0) : (countsF rs p ms n).2 = 0 ↔ checkF ms = 0 ∧ ms.all (goodM p) = true ∧ ¬ (n < 0 ∨ 60 < n) ∧ ∃ x, iterF (rowsF rs p) n.toNat (vecF p ms) = some x ∧ countsF rs p ms n = (x, 0) := by
  by_cases hwc : checkF ms = 0
  · cases hg : ms.all (goodM p)
    · rw [countsF_c hk hwc hg]; simp
    · by_cases hn : n < 0 ∨ 60 < n
      · rw [countsF_d hk hwc hg hn]; simp [hn]
      · obtain ⟨gn, gs⟩ := countsF_e hk hwc hg hn
        cases hi : iterF (rowsF rs p) n.toNat (vecF p ms) with
        | none => rw [gn hi]; simp
        | some x => rw [gs x hi]; simp [hwc, hn]
  · rw [countsF_b hk hwc]
    constructor
    · intro h; exact absurd h hwc
    · rintro ⟨h, _⟩; exact absurd h hwc

/-- what GrowthSums asks -/
theorem sums_law {rs : List Rul} {p : ByteArray} {a b : List Mod} {n : Int} (hs : Small rs) (hk : checkG rs p = 0) (hj : (joinRes a b).2 = 0) :
    ((countsF rs p (joinRes a b).1 n).2 = 0 → (countsF rs p a n).2 = 0 ∧ (countsF rs p b n).2 = 0 ∧ Adds (countsF rs p a n).1 (countsF rs p b n).1 (countsF rs p (joinRes a b).1 n).1) ∧
    ((countsF rs p a n).2 = 0 → (countsF rs p b n).2 = 0 → (countsF rs p (joinRes a b).1 n).2 = 0 ∨ (countsF rs p (joinRes a b).1 n).2 = 16) := by
  have hm := rowsF_pos (rs := rs) p hs.o
  by_cases ha : checkF a = 0
  · by_cases hb : checkF b = 0
    · by_cases hl : 2000 < a.length + b.length
      · rw [joinRes_many ha hb hl] at hj; cases hj
      · rw [joinRes_ok ha hb hl]
        have hab := checkF_append ha hb hl
        constructor
        · intro h
          obtain ⟨_, h2, h3, z, hz, e⟩ := (counts_ok hk).1 h
          rw [List.all_append, Bool.and_eq_true] at h2
          obtain ⟨x, y, hx, hy, hadd⟩ := adds_iter hm _ (adds_vec p a b) (vecF_pos (by have := checkF_len ha; omega)) (vecF_pos (by have := checkF_len hb; omega)) hz
          have ex := (countsF_e hk ha h2.1 h3).2 x hx
          have ey := (countsF_e hk hb h2.2 h3).2 y hy
          rw [ex, ey, e]
          exact ⟨rfl, rfl, hadd⟩
        · intro h h'
          obtain ⟨_, g1, h3, _⟩ := (counts_ok hk).1 h
          obtain ⟨_, g2, _, _⟩ := (counts_ok hk).1 h'
          obtain ⟨gn, gs⟩ := countsF_e hk hab (by rw [List.all_append, g1, g2]; rfl) h3
          cases hi : iterF (rowsF rs p) n.toNat (vecF p (a ++ b)) with
          | none => right; rw [gn hi]
          | some z => left; rw [gs z hi]
    · rw [joinRes_b ha hb] at hj; exact absurd hj hb
  · rw [joinRes_a ha] at hj; exact absurd hj ha

/-! ### powers -/
theorem iterF_add (m : List (List Int)) : ∀ (n k : Nat) (x : List Int), iterF m (n + k) x = (iterF m n x).bind (iterF m k)
  | 0, k, x => by simp [iterF]
  | n + 1, k, x => by
    rw [show n + 1 + k = (n + k) + 1 from by omega]
    show (prodRow x m).bind (iterF m (n + k)) = ((prodRow x m).bind (iterF m n)).bind (iterF m k)
    cases prodRow x m with
    | none => rfl
    | some y => exact iterF_add m n k y
theorem powers_err {rs : List Rul} {p : ByteArray} {ms : List Mod} {n k : Nat} (hk : checkG rs p = 0) (hn : n ≤ 50) (hkk : k ≤ 8) (h : ¬ (countsF rs p ms (n : Int)).2 = 0) : (countsF rs p ms ((n : Int) + k)).2 = (countsF rs p ms (n : Int)).2 := by
  by_cases hwc : checkF ms = 0
  · cases hg : ms.all (goodM p)
    · rw [countsF_c hk hwc hg, countsF_c hk hwc hg]
    · obtain ⟨gn, gs⟩ := countsF_e (n := (n : Int)) hk hwc hg (by omega)
      obtain ⟨gn', _⟩ := countsF_e (n := (n : Int) + k) hk hwc hg (by omega)
      rw [Int.toNat_natCast] at gn gs
      rw [show ((n : Int) + k).toNat = n + k from by omega] at gn'
      cases hi : iterF (rowsF rs p) n (vecF p ms) with
      | none => rw [gn hi, gn' (by rw [iterF_add, hi]; rfl)]
      | some z => rw [gs z hi] at h; exact absurd rfl h
  · rw [countsF_b hk hwc, countsF_b hk hwc]
theorem powers_ok {rs : List Rul} {p : ByteArray} {ms : List Mod} {n k : Nat} (hk : checkG rs p = 0) (hn : n ≤ 50) (hkk : k ≤ 8) (h : (countsF rs p ms (n : Int)).2 = 0) :
    (iterF (rowsF rs p) k (countsF rs p ms (n : Int)).1 = none → (countsF rs p ms ((n : Int) + k)) = ([], 16)) ∧ ∀ y, iterF (rowsF rs p) k (countsF rs p ms (n : Int)).1 = some y → countsF rs p ms ((n : Int) + k) = (y, 0) := by
  obtain ⟨h1, h2, h3, x, hx, e⟩ := (counts_ok hk).1 h
  obtain ⟨gn, gs⟩ := countsF_e (n := (n : Int) + k) hk h1 h2 (by omega)
  rw [show ((n : Int) + k).toNat = n + k from by omega, iterF_add] at gn gs
  rw [Int.toNat_natCast] at hx
  rw [hx] at gn gs
  rw [e]
  exact ⟨gn, gs⟩

/-- a square matrix whose first row is given, the others zero -/
def topM (n : Nat) (x : List Int) : List (List Int) := (List.range n).map fun i => if i = 0 then x else List.replicate n 0
theorem dot_zero (n : Nat) (m : List (List Int)) (k : Nat) : ∀ j, dot (List.replicate n 0) m k j = 0
  | 0 => rfl
  | j + 1 => by
    have h : (List.replicate n (0 : Int)).getD j 0 = 0 := by
      rw [List.getD_eq_getElem?_getD, List.getElem?_replicate]; split <;> rfl
    show dot _ m k j + _ * _ = 0
    rw [dot_zero n m k j, h]; simp
theorem prodRow_zero (n : Nat) (m : List (List Int)) (hn : m.length = n) : prodRow (List.replicate n 0) m = some (List.replicate n 0) := by
  rw [prodRow_iff]
  refine ⟨fun i _ => by rw [dot_zero]; decide, ?_⟩
  simp only [dot_zero]
  rw [List.map_const', List.length_range, hn]
theorem timesGo_map {b : List (List Int)} {f : List Int → List Int} : ∀ {l : List (List Int)}, (∀ r ∈ l, prodRow r b = some (f r)) → timesGo b l = some (l.map f)
  | [], _ => rfl
  | r :: l, h => by
    unfold timesGo
    rw [h r (by simp), timesGo_map fun x hx => h x (by simp [hx])]; rfl
theorem topM_cons (n : Nat) (x : List Int) : topM (n + 1) x = x :: List.replicate n (List.replicate (n + 1) 0) := by
  unfold topM
  rw [List.range_succ_eq_map, List.map_cons, if_pos rfl, List.map_map]
  congr 1
  rw [List.eq_replicate_iff]
  refine ⟨by simp, fun b hb => ?_⟩
  obtain ⟨i, _, rfl⟩ := List.mem_map.1 hb
  simp
theorem topM_length (n : Nat) (x : List Int) : (topM n x).length = n := by simp [topM]
theorem timesGo_zeros (b : List (List Int)) (n : Nat) (hb : b.length = n) : ∀ k, timesGo b (List.replicate k (List.replicate n 0)) = some (List.replicate k (List.replicate n 0))
  | 0 => rfl
  | k + 1 => by
    rw [List.replicate_succ]
    unfold timesGo
    rw [prodRow_zero n b hb, timesGo_zeros b n hb k]; rfl
/-- one step of the power: the first row goes one step -/
theorem timesGo_top {n : Nat} {x : List Int} {m : List (List Int)} (hm : m.length = n) (hn : n ≠ 0) : timesGo m (topM n x) = (prodRow x m).map (topM n) := by
  obtain ⟨k, rfl⟩ : ∃ k, n = k + 1 := ⟨n - 1, by omega⟩
  rw [topM_cons]
  unfold timesGo
  rw [timesGo_zeros m _ hm]
  cases prodRow x m with
  | none => rfl
  | some y => simp [topM_cons]
theorem inRange_iff {x : Int} : inRange x = true ↔ 0 ≤ x ∧ x ≤ 1000000000000000 := by unfold inRange; simp
theorem squareF_iff {a : List (List Int)} : squareF a = true ↔ a.length ≤ 12 ∧ (∀ r ∈ a, Pos r) ∧ ∀ r ∈ a, r.length = a.length := by
  refine ⟨squareF_pos, fun ⟨h1, h2, h3⟩ => ?_⟩
  unfold squareF
  rw [decide_eq_true h1, Bool.and_true, List.all_eq_true]
  intro r hr
  unfold rowOk
  rw [h3 r hr, beq_self_eq_true, Bool.true_and, List.all_eq_true]
  intro v hv
  exact inRange_iff.2 (h2 r hr v hv)
theorem square_top {n : Nat} {x : List Int} (hn : n ≤ 12) (hx : Pos x) (hl : x.length = n) : squareF (topM n x) = true := by
  refine squareF_iff.2 ⟨by rw [topM_length]; exact hn, fun r hr => ?_, fun r hr => ?_⟩
  · unfold topM at hr
    obtain ⟨i, _, rfl⟩ := List.mem_map.1 hr
    split
    · exact hx
    · intro v hv
      rw [List.eq_of_mem_replicate hv]; omega
  · rw [topM_length]
    unfold topM at hr
    obtain ⟨i, _, rfl⟩ := List.mem_map.1 hr
    split
    · exact hl
    · simp
theorem square_rows {rs : List Rul} {p : ByteArray} (hs : Small rs) (hp : p.size ≤ 12) : squareF (rowsF rs p) = true :=
  squareF_iff.2 ⟨by rw [rowsF_length]; exact hp, rowsF_pos p hs.o, rowsF_rows⟩
theorem timesRes_top {n : Nat} {x : List Int} {m : List (List Int)} (hm : squareF m = true) (hl : m.length = n) (hn : n ≠ 0) (hx : Pos x) (hxl : x.length = n) : timesRes (topM n x) m = match prodRow x m with
    | none => (16, [])
    | some y => (0, topM n y) := by
  have h12 := (squareF_iff.1 hm).1
  unfold timesRes
  rw [if_neg, timesGo_top hl hn]
  · cases prodRow x m <;> rfl
  · unfold timesOk
    rw [square_top (by omega) hx hxl, hm, topM_length, hl]; simp
theorem timesRes_nil : timesRes [] [] = (0, []) := by decide

/-! ### three matrices -/
def sumN : Nat → (Nat → Int) → Int
  | 0, _ => 0
  | n + 1, f => sumN n f + f n
theorem sumN_congr {f g : Nat → Int} : ∀ {n : Nat}, (∀ i, i < n → f i = g i) → sumN n f = sumN n g
  | 0, _ => rfl
  | n + 1, h => by
    show sumN n f + f n = sumN n g + g n
    rw [sumN_congr fun i hi => h i (by omega), h n (by omega)]
theorem sumN_add (f g : Nat → Int) : ∀ n, sumN n (fun i => f i + g i) = sumN n f + sumN n g
  | 0 => rfl
  | n + 1 => by
    show sumN n _ + (f n + g n) = (sumN n f + f n) + (sumN n g + g n)
    rw [sumN_add f g n]; omega
theorem sumN_zero : ∀ n, sumN n (fun _ => 0) = 0
  | 0 => rfl
  | n + 1 => by show sumN n _ + 0 = 0; rw [sumN_zero n]; rfl
theorem sumN_mulL (c : Int) (f : Nat → Int) : ∀ n, sumN n (fun i => c * f i) = c * sumN n f
  | 0 => by simp [sumN]
  | n + 1 => by
    show sumN n _ + _ = c * (sumN n f + f n)
    rw [sumN_mulL c f n, Int.mul_add]
theorem sumN_mulR (c : Int) (f : Nat → Int) : ∀ n, sumN n (fun i => f i * c) = sumN n f * c
  | 0 => by simp [sumN]
  | n + 1 => by
    show sumN n _ + _ = (sumN n f + f n) * c
    rw [sumN_mulR c f n, Int.add_mul]
theorem sumN_swap (F : Nat → Nat → Int) (m : Nat) : ∀ n, sumN n (fun t => sumN m (fun s => F s t)) = sumN m (fun s => sumN n (fun t => F s t))
  | 0 => (sumN_zero m).symm
  | n + 1 => by
    show sumN n _ + sumN m (fun s => F s n) = sumN m (fun s => sumN n (fun t => F s t) + F s n)
    rw [sumN_swap F m n, sumN_add]
theorem dot_sumN (x : List Int) (m : List (List Int)) (k : Nat) : ∀ j, dot x m k j = sumN j (fun t => x.getD t 0 * (m.getD t []).getD k 0)
  | 0 => rfl
  | j + 1 => by
    show dot x m k j + _ = sumN j _ + _
    rw [dot_sumN x m k j]
def mulM (a b : List (List Int)) : List (List Int) := a.map fun r => (List.range b.length).map fun k => dot r b k r.length
theorem mulM_length (a b : List (List Int)) : (mulM a b).length = a.length := by simp [mulM]
theorem getD_map_rows (f : List Int → List Int) (a : List (List Int)) (s : Nat) (hs : s < a.length) : (a.map f).getD s [] = f (a.getD s []) := by
  rw [List.getD_eq_getElem?_getD, List.getElem?_map, List.getD_eq_getElem?_getD, List.getElem?_eq_getElem hs]; rfl
/-- a row times a product is the product of the row -/
theorem row_assoc {r : List Int} {b c : List (List Int)} {n : Nat} (hr : r.length = n) (hb : b.length = n) (hbr : ∀ q ∈ b, q.length = n) (hc : c.length = n) (k : Nat) (hk : k < n) :
    dot ((List.range b.length).map fun t => dot r b t r.length) c k n = dot r (mulM b c) k n := by
  rw [dot_sumN, dot_sumN, hb, hr]
  have e1 : ∀ t, t < n → ((List.range n).map fun t => dot r b t n).getD t 0 * (c.getD t []).getD k 0 = sumN n (fun s => (r.getD s 0 * (b.getD s []).getD t 0) * (c.getD t []).getD k 0) := fun t ht => by
    rw [getD_map_range, if_pos ht, dot_sumN, sumN_mulR]
  have e2 : ∀ s, s < n → r.getD s 0 * ((mulM b c).getD s []).getD k 0 = sumN n (fun t => (r.getD s 0 * (b.getD s []).getD t 0) * (c.getD t []).getD k 0) := fun s hs => by
    unfold mulM
    rw [getD_map_rows _ _ _ (by omega), getD_map_range, hc, if_pos hk, dot_sumN, ← sumN_mulL]
    have hq : (b.getD s []).length = n := by
      rw [List.getD_eq_getElem?_getD, List.getElem?_eq_getElem (show s < b.length by omega)]
      exact hbr _ (List.getElem_mem _)
    rw [hq]
    exact sumN_congr fun t _ => (Int.mul_assoc _ _ _).symm
  rw [sumN_congr e1, sumN_congr e2, sumN_swap]
theorem mulM_assoc {a b c : List (List Int)} {n : Nat} (ha : ∀ q ∈ a, q.length = n) (hb : b.length = n) (hbr : ∀ q ∈ b, q.length = n) (hc : c.length = n) : mulM (mulM a b) c = mulM a (mulM b c) := by
  unfold mulM
  rw [List.map_map]
  refine List.map_congr_left fun r hr => ?_
  simp only [Function.comp, List.length_map, List.length_range]
  rw [hc, hb]
  refine List.map_congr_left fun k hk => ?_
  have := row_assoc (r := r) (ha r hr) hb hbr hc k (List.mem_range.1 hk)
  rw [hb] at this
  rw [this, ha r hr]; unfold mulM; rw [hc]
theorem dot_bound {x : List Int} {m : List (List Int)} {A B : Nat} (hx : ∀ v ∈ x, 0 ≤ v ∧ v ≤ A) (hm : ∀ r ∈ m, ∀ v ∈ r, 0 ≤ v ∧ v ≤ (B : Int)) (k : Nat) : ∀ j, 0 ≤ dot x m k j ∧ dot x m k j ≤ j * (A * B : Nat)
  | 0 => by simp [dot]
  | j + 1 => by
    have ih := dot_bound hx hm k j
    have h1 : 0 ≤ x.getD j 0 ∧ x.getD j 0 ≤ A := by
      rw [List.getD_eq_getElem?_getD]
      cases e : x[j]? with
      | none => simp
      | some v => exact hx v (List.mem_of_getElem? e)
    have h2 : 0 ≤ (m.getD j []).getD k 0 ∧ (m.getD j []).getD k 0 ≤ B := by
      rw [List.getD_eq_getElem?_getD]
      cases e : (m.getD j [])[k]? with
      | none => simp
      | some v =>
        have hv := List.mem_of_getElem? e
        rw [List.getD_eq_getElem?_getD] at hv
        cases e2 : m[j]? with
        | none => rw [e2] at hv; simp at hv
        | some r => rw [e2] at hv; exact hm r (List.mem_of_getElem? e2) v hv
    have h3 := Int.mul_nonneg h1.1 h2.1
    have h4 : x.getD j 0 * (m.getD j []).getD k 0 ≤ (A : Int) * B := Int.mul_le_mul h1.2 h2.2 h2.1 (by omega)
    show 0 ≤ dot x m k j + _ ∧ dot x m k j + _ ≤ _
    have h5 : ((j + 1 : Nat) : Int) * ((A * B : Nat) : Int) = (j : Int) * ((A * B : Nat) : Int) + (A : Int) * B := by push_cast; rw [Int.add_mul, Int.one_mul]
    rw [h5]; omega
theorem timesRes_mul {a b : List (List Int)} {A B : Nat} (ha : squareF a = true) (hb : squareF b = true) (hl : a.length = b.length) (hA : ∀ r ∈ a, ∀ v ∈ r, 0 ≤ v ∧ v ≤ (A : Int)) (hB : ∀ r ∈ b, ∀ v ∈ r, 0 ≤ v ∧ v ≤ (B : Int)) (hAB : 12 * (A * B) ≤ 1000000000000000) :
    timesRes a b = (0, mulM a b) ∧ squareF (mulM a b) = true ∧ ∀ r ∈ mulM a b, ∀ v ∈ r, 0 ≤ v ∧ v ≤ ((12 * (A * B) : Nat) : Int) := by
  obtain ⟨a1, a2, a3⟩ := squareF_iff.1 ha
  obtain ⟨b1, b2, b3⟩ := squareF_iff.1 hb
  have hd : ∀ r ∈ a, ∀ k, 0 ≤ dot r b k r.length ∧ dot r b k r.length ≤ ((12 * (A * B) : Nat) : Int) := fun r hr k => by
    have h := dot_bound (hA r hr) hB k r.length
    have h12 : r.length ≤ 12 := by rw [a3 r hr]; exact a1
    have h2 : r.length * (A * B) ≤ 12 * (A * B) := Nat.mul_le_mul_right _ h12
    have h3 : ((r.length * (A * B) : Nat) : Int) ≤ ((12 * (A * B) : Nat) : Int) := by exact_mod_cast h2
    rw [Int.natCast_mul] at h3
    exact ⟨h.1, Int.le_trans h.2 h3⟩
  have hpos : ∀ r ∈ mulM a b, ∀ v ∈ r, 0 ≤ v ∧ v ≤ ((12 * (A * B) : Nat) : Int) := fun r hr v hv => by
    unfold mulM at hr
    obtain ⟨q, hq, rfl⟩ := List.mem_map.1 hr
    obtain ⟨k, _, rfl⟩ := List.mem_map.1 hv
    exact hd q hq k
  refine ⟨?_, squareF_iff.2 ⟨by rw [mulM_length]; exact a1, fun r hr v hv => ?_, fun r hr => ?_⟩, hpos⟩
  · unfold timesRes
    rw [if_neg (by unfold timesOk; rw [ha, hb, hl]; simp), timesGo_map (f := fun r => (List.range b.length).map fun k => dot r b k r.length) fun r hr => prodRow_iff.2 ⟨fun i _ => by have := hd r hr i; omega, rfl⟩]
    rfl
  · have := hpos r hr v hv; omega
  · rw [mulM_length]
    unfold mulM at hr
    obtain ⟨q, hq, rfl⟩ := List.mem_map.1 hr
    rw [List.length_map, List.length_range, hl]
end Go.Proofs.Ytflojbohcippnaa
