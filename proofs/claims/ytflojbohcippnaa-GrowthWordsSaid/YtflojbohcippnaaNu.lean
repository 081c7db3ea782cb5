/-
  Layer 10, plain: the counts are those of the words that a run makes, and the length is theirs without brackets. No walk.
-/
import Derived.Test.YtflojbohcippnaaNo
import Derived.Test.YtflojbohcippnaaRp
namespace Go.Proofs.Ytflojbohcippnaa
open Go.RowKit

def countF (c : Int) (ms : List Mod) : Nat := ms.countP (fun m => m.name == c)

/-! ### sums that pick one place -/
theorem sumN_pick (g : Nat → Int) (a : Int) : ∀ n : Nat, sumN n (fun i => (if a = (i : Int) then 1 else 0) * g i) = if 0 ≤ a ∧ a < n then g a.toNat else 0
  | 0 => by
    show (0 : Int) = _
    rw [if_neg (by omega)]
  | n + 1 => by
    show sumN n _ + (if a = (n : Int) then 1 else 0) * g n = _
    rw [sumN_pick g a n]
    by_cases h : a = (n : Int)
    · subst h
      rw [if_neg (by omega), if_pos rfl, if_pos ⟨by omega, by omega⟩, Int.toNat_natCast]; omega
    · rw [if_neg h]
      by_cases h1 : 0 ≤ a ∧ a < n
      · rw [if_pos h1, if_pos ⟨h1.1, by omega⟩]; omega
      · rw [if_neg h1, if_neg (by omega)]; omega
theorem sumN_le (g : Nat → Int) (f : Nat → Int) (h : ∀ i, f i ≤ g i) : ∀ n, sumN n f ≤ sumN n g
  | 0 => Int.le_refl _
  | n + 1 => by
    show sumN n f + f n ≤ sumN n g + g n
    have := sumN_le g f h n
    have := h n
    omega

/-! ### plain rules and plain modules -/
theorem plainF_iff {p : ByteArray} {r : Rul} (h : plainF p r = true) : r.arity = 0 ∧ r.guards = [] ∧ 0 ≤ atF p r.name ∧ ∀ s ∈ r.out, plainS p s = true := by
  unfold plainF at h
  simp only [Bool.and_eq_true, beq_iff_eq, decide_eq_true_eq, List.all_eq_true] at h
  exact ⟨h.1.1.1, List.eq_nil_of_length_eq_zero h.1.1.2, h.1.2, h.2⟩
theorem plainS_args {p : ByteArray} {s : Shp} (h : plainS p s = true) : s.args = [] := by
  unfold plainS at h
  simp only [Bool.and_eq_true, beq_iff_eq] at h
  exact List.eq_nil_of_length_eq_zero h.1
theorem plainS_good {p : ByteArray} {s : Shp} (h : plainS p s = true) (args : List Int) : goodM p (outF args s).1 = true ∧ (outF args s).2 = true := by
  have ha := plainS_args h
  unfold plainS at h
  unfold outF goodM
  rw [ha] at h ⊢
  simp only [Bool.and_eq_true, Bool.or_eq_true, beq_iff_eq, decide_eq_true_eq, List.map_nil, List.length_nil, List.all_nil, and_true] at h ⊢
  rcases h.2 with (h1 | h1) | h1
  · exact .inl (.inl h1)
  · exact .inl (.inr h1)
  · exact .inr h1
theorem tally_out (p : ByteArray) (k : Nat) (args : List Int) : ∀ ss : List Shp, vecFn p (ss.map fun s => (outF args s).1) k = tally p ss k
  | [] => rfl
  | s :: ss => by
    show (if atF p s.name = (k : Int) then 1 else 0) + vecFn p _ k = (if atF p s.name = (k : Int) then 1 else 0) + tally p ss k
    rw [tally_out p k args ss]
theorem good_named {p : ByteArray} {m : Mod} (hg : goodM p m = true) (hb : ¬ (m.name = 91 ∨ m.name = 93)) : 0 ≤ atF p m.name ∧ m.args = [] := by
  unfold goodM at hg
  simp only [Bool.or_eq_true, Bool.and_eq_true, beq_iff_eq, decide_eq_true_eq] at hg
  rcases hg with (h | h) | ⟨h1, h2⟩
  · exact absurd (.inl h) hb
  · exact absurd (.inr h) hb
  · exact ⟨h1, List.eq_nil_of_length_eq_zero h2⟩
theorem fitsP_name {p : ByteArray} {r : Rul} {m : Mod} (h : plainF p r = true) (hm : m.args = []) : fitsF r m = (r.name == m.name) := by
  obtain ⟨h1, h2, _⟩ := plainF_iff h
  unfold fitsF
  rw [h1, h2, hm]
  simp
theorem first_find {m : Mod} : ∀ {rs : List Rul} {k : Nat}, (∀ r ∈ rs, fitsF r m = (r.name == m.name)) →
    (firstFrom m rs k = -1 ∧ rs.find? (fun r => r.name == m.name) = none) ∨ ∃ j : Nat, firstFrom m rs k = (j : Int) ∧ k ≤ j ∧ ∃ r, rs[j - k]? = some r ∧ rs.find? (fun r => r.name == m.name) = some r
  | [], k, _ => .inl ⟨rfl, rfl⟩
  | r :: rs, k, h => by
    have hr := h r (by simp)
    unfold firstFrom
    cases hn : (r.name == m.name)
    · rw [hr, hn, if_neg (by decide)]
      rcases first_find (k := k + 1) (fun r hr => h r (List.mem_cons_of_mem _ hr)) with ⟨h1, h2⟩ | ⟨j, h1, h2, r', h3, h4⟩
      · exact .inl ⟨h1, by rw [List.find?_cons, hn]; exact h2⟩
      · refine .inr ⟨j, h1, by omega, r', ?_, by rw [List.find?_cons, hn]; exact h4⟩
        rw [show j - k = (j - (k + 1)) + 1 from by omega, List.getElem?_cons_succ]; exact h3
    · rw [hr, hn, if_pos rfl]
      exact .inr ⟨k, rfl, Nat.le_refl _, r, by simp, by rw [List.find?_cons, hn]⟩
theorem name_at {p : ByteArray} {c : Int} {i : Nat} (h : atF p c = (i : Int)) : (bytesI p).getD i 0 = c ∧ i < p.size := by
  rcases atF_cases p c with ⟨h1, _⟩ | ⟨j, h1, h2, h3⟩
  · omega
  · obtain rfl : j = i := by omega
    exact ⟨by rw [List.getD_eq_getElem?_getD, h3]; rfl, h2⟩

/-- what becomes of one module: plain modules in range, counted by the row of its name -/
theorem one_count {rs : List Rul} {p : ByteArray} (hpl : rs.all (plainF p) = true) (hnm : namedF p = true) {m : Mod} (hg : goodM p m = true) :
    ((outsF rs m).map (·.1)).all (goodM p) = true ∧ (outsF rs m).all (·.2) = true ∧ ∀ k : Nat, vecFn p ((outsF rs m).map (·.1)) k = if 0 ≤ atF p m.name ∧ atF p m.name < p.size then rowsFn rs p (atF p m.name).toNat k else 0 := by
  have hp := List.all_eq_true.1 hpl
  by_cases hb : m.name = 91 ∨ m.name = 93
  · have ha := atF_bracket hnm hb
    rcases outsF_cases rs m with ⟨_, ho⟩ | ⟨j, r, _, hj, hf, ho⟩
    · rw [ho]
      refine ⟨by simpa using hg, rfl, fun k => ?_⟩
      show (if atF p m.name = (k : Int) then 1 else 0) + 0 = _
      rw [ha, if_neg (by omega), if_neg (by omega)]; rfl
    · have h1 := (plainF_iff (hp r (List.mem_of_getElem? hj))).2.2.1
      rw [fits_name hf, ha] at h1
      omega
  · obtain ⟨ha, hargs⟩ := good_named hg hb
    obtain ⟨i, hi⟩ := Int.eq_ofNat_of_zero_le ha
    obtain ⟨hn, hi2⟩ := name_at hi
    have hff := first_find (m := m) (rs := rs) (k := 0) fun r hr => fitsP_name (hp r hr) hargs
    have hfe : firstF rs m = firstFrom m rs 0 := rfl
    rcases hff with ⟨h1, h2⟩ | ⟨j, h1, _, r, h3, h4⟩
    · have ho : outsF rs m = [(m, true)] := by
        rcases outsF_cases rs m with ⟨_, ho⟩ | ⟨j, r, hj, _⟩
        · exact ho
        · rw [hfe, h1] at hj; omega
      rw [ho]
      refine ⟨by simpa using hg, rfl, fun k => ?_⟩
      show (if atF p m.name = (k : Int) then 1 else 0) + 0 = _
      rw [hi, if_pos (c := 0 ≤ (i : Int) ∧ (i : Int) < p.size) ⟨by omega, by omega⟩, Int.toNat_natCast]
      unfold rowsFn rowFn
      rw [hn, h2]
      simp only []
      by_cases hk : (i : Int) = (k : Int)
      · rw [if_pos hk, if_pos (by omega)]; rfl
      · rw [if_neg hk, if_neg (by omega)]; rfl
    · rw [Nat.sub_zero] at h3
      have ho : outsF rs m = r.out.map (outF m.args) := by
        rcases outsF_cases rs m with ⟨hj, _⟩ | ⟨j', r', hj, hr, _, ho⟩
        · rw [hfe, h1] at hj; omega
        · obtain rfl : j' = j := by rw [hfe, h1] at hj; omega
          rw [hr] at h3; cases h3
          exact ho
      have hs := (plainF_iff (hp r (List.mem_of_getElem? h3))).2.2.2
      rw [ho]
      refine ⟨?_, ?_, fun k => ?_⟩
      · rw [List.map_map, List.all_map, List.all_eq_true]
        exact fun s hs' => (plainS_good (hs s hs') _).1
      · rw [List.all_map, List.all_eq_true]
        exact fun s hs' => (plainS_good (hs s hs') _).2
      · rw [List.map_map]
        show vecFn p (r.out.map fun s => (outF m.args s).1) k = _
        rw [tally_out, hi, if_pos ⟨by omega, by omega⟩, Int.toNat_natCast]
        unfold rowsFn rowFn
        rw [hn, h4]

/-! ### a step -/
def bodyF (rs : List Rul) (ms : List Mod) : List Mod := (succF rs ms).map (·.1)
theorem body_cons (rs : List Rul) (m : Mod) (ms : List Mod) : bodyF rs (m :: ms) = (outsF rs m).map (·.1) ++ bodyF rs ms := by
  unfold bodyF
  rw [show succF rs (m :: ms) = outsF rs m ++ succF rs ms from rfl, List.map_append]
theorem body_count {rs : List Rul} {p : ByteArray} (hpl : rs.all (plainF p) = true) (hnm : namedF p = true) : ∀ {ms : List Mod}, ms.all (goodM p) = true →
    (bodyF rs ms).all (goodM p) = true ∧ (succF rs ms).all (·.2) = true ∧ ∀ k : Nat, vecFn p (bodyF rs ms) k = sumN p.size (fun i => vecFn p ms i * rowsFn rs p i k)
  | [], _ => ⟨rfl, rfl, fun k => by
      show (0 : Int) = sumN _ (fun i => 0 * _)
      rw [show (fun i : Nat => (0 : Int) * rowsFn rs p i k) = fun _ => 0 from by funext i; omega, sumN_zero]⟩
  | m :: ms, h => by
    rw [List.all_cons, Bool.and_eq_true] at h
    obtain ⟨h1, h2, h3⟩ := one_count hpl hnm h.1
    obtain ⟨h4, h5, h6⟩ := body_count hpl hnm h.2
    rw [body_cons]
    refine ⟨by rw [List.all_append, h1, h4]; rfl, by rw [show succF rs (m :: ms) = outsF rs m ++ succF rs ms from rfl, List.all_append, h2, h5]; rfl, fun k => ?_⟩
    rw [vecFn_append, h3, h6, ← sumN_pick (fun i => rowsFn rs p i k), ← sumN_add]
    refine sumN_congr fun i _ => ?_
    show _ = ((if atF p m.name = (i : Int) then 1 else 0) + vecFn p ms i) * _
    rw [Int.add_mul]
theorem body_len {rs : List Rul} (hs : Small rs) : ∀ ms : List Mod, (bodyF rs ms).length ≤ 30 * ms.length
  | [] => Nat.le_refl _
  | m :: ms => by
    rw [body_cons, List.length_append, List.length_cons, List.length_map]
    have := body_len hs ms
    have h1 : (outsF rs m).length ≤ 30 := by
      rcases outsF_cases rs m with ⟨_, ho⟩ | ⟨j, r, _, hj, _, ho⟩
      · rw [ho]; simp
      · rw [ho, List.length_map]; exact hs.o r (List.mem_of_getElem? hj)
    omega
theorem body_prod {rs : List Rul} {p : ByteArray} (hpl : rs.all (plainF p) = true) (hnm : namedF p = true) {ms : List Mod} (hg : ms.all (goodM p) = true) (hl : (bodyF rs ms).length ≤ 1000000000000000) :
    prodRow (vecF p ms) (rowsF rs p) = some (vecF p (bodyF rs ms)) := by
  have hx : (vecF p ms).length = p.size := by unfold vecF; simp
  have hd : ∀ k, k < p.size → dot (vecF p ms) (rowsF rs p) k (vecF p ms).length = vecFn p (bodyF rs ms) k := fun k hk => by
    rw [dot_sumN, hx, (body_count hpl hnm hg).2.2]
    refine sumN_congr fun i hi => ?_
    congr 1
    · unfold vecF; rw [getD_map_range, if_pos hi]
    · unfold rowsF
      have e : ((List.range p.size).map fun i => (List.range p.size).map (rowsFn rs p i)).getD i [] = (List.range p.size).map (rowsFn rs p i) := by
        rw [List.getD_eq_getElem?_getD, List.getElem?_map, List.getElem?_range hi]; rfl
      rw [e, getD_map_range, if_pos hk]
  refine prodRow_iff.2 ⟨fun k hk => ?_, ?_⟩
  · rw [rowsF_length] at hk
    rw [hd k hk]
    have := vecFn_bd p k (bodyF rs ms)
    omega
  · rw [rowsF_length]
    unfold vecF at hd ⊢
    exact (List.map_congr_left fun k hk => hd k (List.mem_range.1 hk)).symm

/-! ### steps -/
def bodyN (rs : List Rul) : Nat → List Mod → List Mod
  | 0, ms => ms
  | n + 1, ms => bodyN rs n (bodyF rs ms)
theorem bodyN_ok {rs : List Rul} {p : ByteArray} (hpl : rs.all (plainF p) = true) (hnm : namedF p = true) (hs : Small rs) : ∀ (n : Nat) {ms : List Mod}, ms.all (goodM p) = true → 30 ^ n * ms.length ≤ 1000000000000000 →
    iterF (rowsF rs p) n (vecF p ms) = some (vecF p (bodyN rs n ms)) ∧ (bodyN rs n ms).all (goodM p) = true ∧ (bodyN rs n ms).length ≤ 30 ^ n * ms.length
  | 0, ms, hg, _ => ⟨rfl, hg, by show ms.length ≤ _; omega⟩
  | n + 1, ms, hg, hl => by
    have h1 := body_len hs ms
    have h2 : 30 ^ n * (bodyF rs ms).length ≤ 30 ^ (n + 1) * ms.length := by
      rw [Nat.pow_succ, Nat.mul_assoc]
      exact Nat.mul_le_mul_left _ h1
    have h3 : (bodyF rs ms).length ≤ 30 ^ n * (bodyF rs ms).length := Nat.le_mul_of_pos_left _ (Nat.pow_pos (by decide))
    obtain ⟨h4, h5, h6⟩ := bodyN_ok hpl hnm hs n (body_count hpl hnm hg).1 (Nat.le_trans h2 hl)
    refine ⟨?_, h5, Nat.le_trans h6 h2⟩
    show (prodRow _ _).bind _ = _
    rw [body_prod hpl hnm hg (by omega)]
    exact h4
theorem iterR_body {rs : List Rul} : ∀ (n : Nat) {ms : List Mod}, (iterR rs n ms).2 = 0 → (iterR rs n ms).1 = bodyN rs n ms
  | 0, ms, _ => rfl
  | n + 1, ms, h => by
    unfold iterR at h ⊢
    by_cases h1 : (stepF rs ms).2 = 0
    · rw [if_pos h1] at h ⊢
      rw [iterR_body n h, (stepF_ok h1).2.2]; rfl
    · rw [if_neg h1] at h; exact absurd h h1

/-! ### counts of names -/
theorem atFrom_le {c : Int} : ∀ {l : List Int} {k i : Nat}, l[i]? = some c → atFrom c l k ≤ (k : Int) + i
  | [], _, _, h => by simp at h
  | x :: l, k, 0, h => by
    simp at h
    unfold atFrom
    rw [if_pos h]; omega
  | x :: l, k, i + 1, h => by
    unfold atFrom
    split
    · omega
    · have := atFrom_le (k := k + 1) (show l[i]? = some c by simpa using h)
      omega
theorem namedFrom_at {p : ByteArray} : ∀ {l : List Int} {k i : Nat} {c : Int}, namedFrom p l k = true → l[i]? = some c → (k : Int) + i ≤ atF p c
  | [], _, _, _, _, h => by simp at h
  | x :: l, k, 0, c, hn, h => by
    unfold namedFrom at hn
    simp only [Bool.and_eq_true, decide_eq_true_eq] at hn
    simp at h; subst h
    have := hn.1.2; omega
  | x :: l, k, i + 1, c, hn, h => by
    unfold namedFrom at hn
    simp only [Bool.and_eq_true, decide_eq_true_eq] at hn
    have := namedFrom_at hn.2 (show l[i]? = some c by simpa using h)
    omega
theorem at_name {p : ByteArray} (hnm : namedF p = true) {i : Nat} {c : Int} (h : (bytesI p)[i]? = some c) : atF p c = (i : Int) := by
  have h1 := namedFrom_at (k := 0) hnm h
  have h2 : atF p c ≤ ((0 : Nat) : Int) + i := atFrom_le h
  omega
theorem count_vec {p : ByteArray} (hnm : namedF p = true) {i : Nat} {c : Int} (h : (bytesI p)[i]? = some c) : ∀ ms : List Mod, (countF c ms : Int) = vecFn p ms i
  | [] => rfl
  | m :: ms => by
    unfold countF
    rw [List.countP_cons]
    show _ = (if atF p m.name = (i : Int) then 1 else 0) + vecFn p ms i
    rw [← count_vec hnm h ms]
    unfold countF
    have : (m.name == c) = true ↔ atF p m.name = (i : Int) := by
      rw [beq_iff_eq]
      constructor
      · intro e; rw [e]; exact at_name hnm h
      · intro e
        have := (name_at e).1
        rw [List.getD_eq_getElem?_getD, h] at this
        exact this.symm
    by_cases hc : (m.name == c) = true
    · rw [if_pos hc, if_pos (this.1 hc)]; push_cast; omega
    · rw [if_neg hc, if_neg fun e => hc (this.2 e)]; push_cast; omega
theorem sumF_sumN (f : Nat → Int) : ∀ n : Nat, sumF ((List.range n).map f) = sumN n f
  | 0 => rfl
  | n + 1 => by
    rw [List.range_succ, List.map_append, sumF_append, sumF_sumN f n]
    show _ + sumF [f n] = sumN n f + f n
    rw [sumF_one]
theorem sum_len {p : ByteArray} (hnm : namedF p = true) : ∀ {ms : List Mod}, ms.all (goodM p) = true → sumF (vecF p ms) + ((countF 91 ms + countF 93 ms : Nat) : Int) = ms.length
  | [], _ => by
    show sumF ((List.range p.size).map fun _ => 0) + 0 = 0
    rw [sumF_sumN, sumN_zero]; rfl
  | m :: ms, h => by
    rw [List.all_cons, Bool.and_eq_true] at h
    have ih := sum_len hnm h.2
    have hs : sumF (vecF p (m :: ms)) = (if 0 ≤ atF p m.name ∧ atF p m.name < p.size then 1 else 0) + sumF (vecF p ms) := by
      unfold vecF
      rw [sumF_sumN, sumF_sumN]
      have := sumN_pick (fun _ => 1) (atF p m.name) p.size
      rw [← this, ← sumN_add]
      refine sumN_congr fun i _ => ?_
      show (if atF p m.name = (i : Int) then 1 else 0) + vecFn p ms i = _
      omega
    rw [hs]
    unfold countF at ih ⊢
    rw [List.countP_cons, List.countP_cons, List.length_cons]
    by_cases hb : m.name = 91 ∨ m.name = 93
    · rw [atF_bracket hnm hb, if_neg (by omega)]
      rcases hb with hb | hb <;> rw [hb] <;> simp <;> omega
    · obtain ⟨ha, _⟩ := good_named h.1 hb
      obtain ⟨i, hi⟩ := Int.eq_ofNat_of_zero_le ha
      have h2 := (name_at hi).2
      have e1 : (m.name == 91) = false := by simpa using fun e => hb (.inl e)
      have e2 : (m.name == 93) = false := by simpa using fun e => hb (.inr e)
      rw [if_pos ⟨ha, by omega⟩, e1, e2]
      simp; omega

structure WordsOk (rs : List Rul) (p : ByteArray) (x : List Int) (v : List Mod) (n : Int) (ms : List Mod) : Prop where
  len : x.length = p.size
  at_ : ∀ i, i < p.size → ∃ c, (bytesI p)[i]? = some c ∧ x.getD i 0 = (countF c v : Int)
  long : lengthF rs p ms n = (sumF x, 0)
  sum : sumF x + ((countF 91 v + countF 93 v : Nat) : Int) = v.length
theorem words_law {rs : List Rul} {p : ByteArray} {ms : List Mod} {n : Nat} (hs : Small rs) (hk : checkG rs p = 0) (hn : n ≤ 6) :
    (¬ (countsF rs p ms (n : Int)).2 = 0 → (countsF rs p ms (n : Int)).2 = 8 ∨ (countsF rs p ms (n : Int)).2 = (rRunF rs ms (n : Int)).2) ∧
    ((countsF rs p ms (n : Int)).2 = 0 → (rRunF rs ms (n : Int)).2 = 0 → WordsOk rs p (countsF rs p ms (n : Int)).1 (rRunF rs ms (n : Int)).1 n ms) := by
  obtain ⟨hc0, hp12, hnm, hpl⟩ := checkG_zero hk
  by_cases hw : checkF ms = 0
  · have ho : openR rs ms = 0 := by unfold openR; rw [if_pos hc0, hw]
    have hr : rRunF rs ms (n : Int) = iterR rs n ms := by
      unfold rRunF
      rw [if_pos ho, if_neg (by omega), Int.toNat_natCast]
    cases hg : ms.all (goodM p)
    · have hc := countsF_c (n := (n : Int)) hk hw hg
      rw [hc]
      exact ⟨fun _ => .inl rfl, fun h => by cases h⟩
    · have hl := (checkF_zero.1 hw).1
      have h30 : 30 ^ n ≤ 30 ^ 6 := Nat.pow_le_pow_right (by decide) hn
      have hb : 30 ^ n * ms.length ≤ 30 ^ 6 * 2000 := Nat.mul_le_mul h30 hl
      obtain ⟨h1, h2, h3⟩ := bodyN_ok hpl hnm hs n hg (Nat.le_trans hb (by decide))
      have hc := (countsF_e (n := (n : Int)) hk hw hg (by omega)).2 _ (by rw [Int.toNat_natCast]; exact h1)
      rw [hc, hr]
      refine ⟨fun h => absurd rfl h, fun _ hv => ?_⟩
      rw [iterR_body n hv]
      have hsum := sum_len hnm h2
      refine ⟨by unfold vecF; simp, fun i hi => ?_, ?_, hsum⟩
      · have hi' : i < (bytesI p).length := by rw [bytesI_length]; exact hi
        refine ⟨(bytesI p)[i], List.getElem?_eq_getElem hi', ?_⟩
        rw [count_vec hnm (List.getElem?_eq_getElem hi')]
        unfold vecF
        rw [getD_map_range, if_pos hi]
      · have := lengthF_ok (rs := rs) (p := p) (ms := ms) (n := (n : Int)) (by rw [hc]) (by
          rw [hc]
          show ¬ _ < sumF (vecF p (bodyN rs n ms))
          have : 30 ^ 6 * 2000 = 1458000000000 := by decide
          omega)
        rw [this, hc]
  · rw [countsF_b hk hw]
    refine ⟨fun _ => .inr ?_, fun h => absurd h hw⟩
    unfold rRunF
    have ho : openR rs ms = checkF ms := by unfold openR; rw [if_pos hc0]
    rw [ho, if_neg hw]
end Go.Proofs.Ytflojbohcippnaa
