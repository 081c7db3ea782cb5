/-
  Layer 42, plain: the most frequent pair as a function, what Infer finds, and its laws (back, fewer, used). No walk.
-/
import Derived.Test.YtckffdaomjbglaaDoorIk
import Derived.Test.YtckffdaomjbglaaDoorIj
import Derived.Test.YtckffdaomjbglaaDoorRp
namespace Go.Proofs.YtckffdaomjbglaaDoor
open Go.RowKit

/-! ### the best pair, as a function -/
def bestG (full : List Int) : List Int → Int × Int × Int → Int × Int × Int
  | x :: y :: r, acc => bestG full (y :: r) (if plainC x = true ∧ plainC y = true then (if ahead acc.1 acc.2.1 acc.2.2 x y (cntR x y full) = true then (x, y, cntR x y full) else acc) else acc)
  | [_], acc => acc
  | [], acc => acc
def bestF (l : List Int) : Int × Int × Int := bestG l l (0, 0, 0)
theorem bestG_two (full : List Int) (x y : Int) (r : List Int) (acc : Int × Int × Int) : bestG full (x :: y :: r) acc = bestG full (y :: r) (if plainC x = true ∧ plainC y = true then (if ahead acc.1 acc.2.1 acc.2.2 x y (cntR x y full) = true then (x, y, cntR x y full) else acc) else acc) := by simp [bestG]
theorem bestG_is (l : List Int) : ∀ (n k : Nat) (acc : Int × Int × Int), k + n = l.length → 0 ≤ acc.2.2 → BestOf (PairAt l k) (fun u v => cntR u v l) acc.1 acc.2.1 acc.2.2 →
    BestOf (PairAt l l.length) (fun u v => cntR u v l) (bestG l (l.drop k) acc).1 (bestG l (l.drop k) acc).2.1 (bestG l (l.drop k) acc).2.2 ∧ 0 ≤ (bestG l (l.drop k) acc).2.2
  | 0, k, acc, hn, h0, h => by
    have : k = l.length := by omega
    subst this
    rw [List.drop_length]
    simp only [bestG]
    exact ⟨h, h0⟩
  | n + 1, k, acc, hn, h0, h => by
    have hk : k < l.length := by omega
    have hd := List.drop_eq_getElem_cons hk
    by_cases h1 : k + 1 < l.length
    · have hd1 := List.drop_eq_getElem_cons h1
      have hx : l[k]? = some l[k] := List.getElem?_eq_getElem hk
      have hy : l[k + 1]? = some l[k + 1] := List.getElem?_eq_getElem h1
      have hc := cntR_pos l[k] l[k + 1] l.length l k (Nat.le_refl _) hx hy
      rw [hd, hd1, bestG_two, ← hd1]
      by_cases hp : plainC l[k] = true ∧ plainC l[k + 1] = true
      · rw [if_pos hp]
        have hm := h.more (x := l[k]) (y := l[k + 1]) h0 (show 0 < cntR l[k] l[k + 1] l by omega)
        cases ha : ahead acc.1 acc.2.1 acc.2.2 l[k] l[k + 1] (cntR l[k] l[k + 1] l)
        · rw [if_neg (by decide)]
          exact bestG_is l n (k + 1) acc (by omega) h0 ((hm.2 ha).congr fun u v => pairAt_yes hx hy hp.1 hp.2 u v)
        · rw [if_pos rfl]
          exact bestG_is l n (k + 1) _ (by omega) (show 0 ≤ cntR l[k] l[k + 1] l by omega) ((hm.1 ha).congr fun u v => pairAt_yes hx hy hp.1 hp.2 u v)
      · rw [if_neg hp]
        have hno : plainC l[k] = false ∨ plainC l[k + 1] = false := by
          cases e1 : plainC l[k]
          · exact .inl rfl
          · cases e2 : plainC l[k + 1]
            · exact .inr rfl
            · exact absurd ⟨e1, e2⟩ hp
        exact bestG_is l n (k + 1) acc (by omega) h0 (h.congr fun u v => pairAt_no hx hy hno u v)
    · have hd1 : l.drop (k + 1) = [] := List.drop_eq_nil_of_le (by omega)
      rw [hd, hd1]
      simp only [bestG]
      exact ⟨h.congr fun u v => pairAt_end (by omega) (by omega) u v, h0⟩
theorem bestF_is (l : List Int) : BestOf (PairAt l l.length) (fun u v => cntR u v l) (bestF l).1 (bestF l).2.1 (bestF l).2.2 ∧ 0 ≤ (bestF l).2.2 := by
  have h := bestG_is l l.length 0 (0, 0, 0) (by omega) (Int.le_refl _) ((BestOf.start _).congr fun u v => pairAt_zero.symm)
  rw [List.drop_zero] at h
  exact h
theorem bestF_one {l : List Int} {a b n : Int} (h : BestOf (PairAt l l.length) (fun u v => cntR u v l) a b n) : bestF l = (a, b, n) := by
  obtain ⟨h1, h2, h3⟩ := (bestF_is l).1.one h
  rw [← h1, ← h2, ← h3]
theorem bestF_pair {l : List Int} (h : (bestF l).2.2 ≠ 0) : PairAt l l.length (bestF l).1 (bestF l).2.1 ∧ (bestF l).2.2 = cntR (bestF l).1 (bestF l).2.1 l := (bestF_is l).1.some h

/-! ### putting a name for a pair, and back -/
def subst1 (r : Int × Int × Int) (l : List Int) : List Int := l.flatMap fun x => if x = r.1 then [r.2.1, r.2.2] else [x]
theorem subst1_cons (r : Int × Int × Int) (x : Int) (l : List Int) : subst1 r (x :: l) = (if x = r.1 then [r.2.1, r.2.2] else [x]) ++ subst1 r l := by unfold subst1; rw [List.flatMap_cons]
theorem subst1_append (r : Int × Int × Int) (l m : List Int) : subst1 r (l ++ m) = subst1 r l ++ subst1 r m := by unfold subst1; rw [List.flatMap_append]
theorem subst1_none {r : Int × Int × Int} {l : List Int} (h : r.1 ∉ l) : subst1 r l = l := by
  induction l with
  | nil => rfl
  | cons x l ih =>
    rw [subst1_cons, if_neg (fun e => h (by rw [e]; simp)), ih (fun e => h (by simp [e]))]; rfl
theorem subst1_len (r : Int × Int × Int) (l : List Int) : l.length ≤ (subst1 r l).length := by
  induction l with
  | nil => simp
  | cons x l ih =>
    rw [subst1_cons, List.length_append, List.length_cons]
    split <;> simp <;> omega
theorem put_back {a b c : Int} : ∀ n (l : List Int), l.length ≤ n → c ∉ l → subst1 (c, a, b) (putF a b c l) = l
  | 0, l, h, _ => by
    have : l = [] := List.length_eq_zero_iff.1 (by omega)
    subst this; simp [putF, subst1]
  | n + 1, [], _, _ => by simp [putF, subst1]
  | n + 1, [x], _, hc => by
    rw [putF_short (by simp), subst1_none hc]
  | n + 1, x :: y :: r, h, hc => by
    simp only [List.length_cons] at h
    rw [putF_two]
    by_cases hm : x = a ∧ y = b
    · rw [if_pos hm, subst1_cons, if_pos rfl, put_back n r (by omega) (fun e => hc (by simp [e]))]
      rw [hm.1, hm.2]; rfl
    · rw [if_neg hm, subst1_cons, if_neg (fun e => hc (by rw [show x = c from e]; simp)), put_back n (y :: r) (by simp; omega) (fun e => hc (List.mem_cons_of_mem _ e))]; rfl
theorem put_mem {a b c : Int} : ∀ n (l : List Int), l.length ≤ n → ∀ x ∈ putF a b c l, x ∈ l ∨ x = c
  | 0, l, h, x, hx => by
    have : l = [] := List.length_eq_zero_iff.1 (by omega)
    subst this; simp [putF] at hx
  | n + 1, [], _, x, hx => by simp [putF] at hx
  | n + 1, [y], _, x, hx => by rw [putF_short (by simp)] at hx; exact .inl hx
  | n + 1, u :: v :: r, h, x, hx => by
    simp only [List.length_cons] at h
    rw [putF_two] at hx
    by_cases hm : u = a ∧ v = b
    · rw [if_pos hm, List.mem_cons] at hx
      rcases hx with hx | hx
      · exact .inr hx
      · rcases put_mem n r (by omega) x hx with h1 | h1
        · exact .inl (by simp [h1])
        · exact .inr h1
    · rw [if_neg hm, List.mem_cons] at hx
      rcases hx with hx | hx
      · exact .inl (by rw [hx]; simp)
      · rcases put_mem n (v :: r) (by simp; omega) x hx with h1 | h1
        · exact .inl (List.mem_cons_of_mem _ h1)
        · exact .inr h1
theorem put_size {a b c : Int} : ∀ n (l : List Int), l.length ≤ n → ((putF a b c l).length : Int) = l.length - cntR a b l
  | 0, l, h => by
    have : l = [] := List.length_eq_zero_iff.1 (by omega)
    subst this; simp [putF, cntR]
  | n + 1, [], _ => by simp [putF, cntR]
  | n + 1, [y], _ => by rw [putF_short (by simp), cntR_one]; simp
  | n + 1, u :: v :: r, h => by
    simp only [List.length_cons] at h
    rw [putF_two, cntR_two]
    by_cases hm : u = a ∧ v = b
    · rw [if_pos hm, if_pos hm]
      have := put_size (a := a) (b := b) (c := c) n r (by omega)
      simp only [List.length_cons]; omega
    · rw [if_neg hm, if_neg hm]
      have := put_size (a := a) (b := b) (c := c) n (v :: r) (by simp; omega)
      simp only [List.length_cons] at this ⊢; omega

/-! ### what Infer finds -/
def lettersL : List Int := [65, 66, 67, 68, 69, 70, 71, 72, 73, 74, 75, 76, 77, 78, 79, 80, 81, 82, 83, 84, 85, 86, 87, 88, 89, 90, 97, 98, 99, 100, 101, 102, 103, 104, 105, 106, 107, 108, 109, 110, 111, 112, 113, 114, 115, 116, 117, 118, 119, 120, 121, 122]
def freeL (l : List Int) : List Int := lettersL.filter fun c => !l.contains c
def inferG : Nat → List Int → List Int → List Int × List (Int × Int × Int)
  | 0, _, rest => (rest, [])
  | _ + 1, [], rest => (rest, [])
  | n + 1, c :: free, rest => if (bestF rest).2.2 < 2 then (rest, []) else
      ((inferG n free (putF (bestF rest).1 (bestF rest).2.1 c rest)).1, (c, (bestF rest).1, (bestF rest).2.1) :: (inferG n free (putF (bestF rest).1 (bestF rest).2.1 c rest)).2)
theorem inferG_zero (free rest : List Int) : inferG 0 free rest = (rest, []) := rfl
theorem inferG_nil (n : Nat) (rest : List Int) : inferG n [] rest = (rest, []) := by cases n <;> rfl
theorem inferG_cons (n : Nat) (c : Int) (free rest : List Int) : inferG (n + 1) (c :: free) rest = if (bestF rest).2.2 < 2 then (rest, []) else
      ((inferG n free (putF (bestF rest).1 (bestF rest).2.1 c rest)).1, (c, (bestF rest).1, (bestF rest).2.1) :: (inferG n free (putF (bestF rest).1 (bestF rest).2.1 c rest)).2) := rfl
/-- an induction over the rounds of Infer -/
theorem inferG_ind {P : Nat → List Int → List Int → List Int × List (Int × Int × Int) → Prop}
    (stop : ∀ n free rest, (n = 0 ∨ free = [] ∨ (bestF rest).2.2 < 2) → P n free rest (rest, []))
    (round : ∀ n c free rest r rl, 2 ≤ (bestF rest).2.2 → P n free (putF (bestF rest).1 (bestF rest).2.1 c rest) (r, rl) → P (n + 1) (c :: free) rest (r, (c, (bestF rest).1, (bestF rest).2.1) :: rl)) :
    ∀ (n : Nat) (free rest : List Int), P n free rest (inferG n free rest)
  | 0, free, rest => stop 0 free rest (.inl rfl)
  | n + 1, [], rest => stop (n + 1) [] rest (.inr (.inl rfl))
  | n + 1, c :: free, rest => by
    rw [inferG_cons]
    by_cases h : (bestF rest).2.2 < 2
    · rw [if_pos h]; exact stop _ _ _ (.inr (.inr h))
    · rw [if_neg h]
      exact round n c free rest _ _ (by omega) (inferG_ind stop round n free _)
theorem infer_names : ∀ (n : Nat) (free rest : List Int), (inferG n free rest).2.map (·.1) = free.take (inferG n free rest).2.length ∧ (inferG n free rest).2.length ≤ n ∧ (inferG n free rest).2.length ≤ free.length :=
  inferG_ind (P := fun n free rest q => q.2.map (·.1) = free.take q.2.length ∧ q.2.length ≤ n ∧ q.2.length ≤ free.length)
    (fun n free rest _ => ⟨by simp, by simp, by simp⟩)
    (fun n c free rest r rl _ h => by
      refine ⟨?_, ?_, ?_⟩
      · simp only [List.map_cons, List.length_cons, List.take_succ_cons, List.cons.injEq, true_and]; exact h.1
      · simp only [List.length_cons]; have := h.2.1; simp only at this; omega
      · simp only [List.length_cons]; have := h.2.2; simp only at this; omega)
/-- the letters of what is left, and of each rule: the word's, and names of rules before -/
theorem infer_known : ∀ (n : Nat) (free rest : List Int), (∀ x ∈ (inferG n free rest).1, x ∈ rest ∨ x ∈ (inferG n free rest).2.map (·.1)) ∧
    ∀ i r, (inferG n free rest).2[i]? = some r → (r.2.1 ∈ rest ∨ r.2.1 ∈ ((inferG n free rest).2.take i).map (·.1)) ∧ (r.2.2 ∈ rest ∨ r.2.2 ∈ ((inferG n free rest).2.take i).map (·.1)) ∧ plainC r.2.1 = true ∧ plainC r.2.2 = true :=
  inferG_ind (P := fun n free rest q => (∀ x ∈ q.1, x ∈ rest ∨ x ∈ q.2.map (·.1)) ∧ ∀ i r, q.2[i]? = some r → (r.2.1 ∈ rest ∨ r.2.1 ∈ (q.2.take i).map (·.1)) ∧ (r.2.2 ∈ rest ∨ r.2.2 ∈ (q.2.take i).map (·.1)) ∧ plainC r.2.1 = true ∧ plainC r.2.2 = true)
    (fun n free rest _ => ⟨fun x hx => .inl hx, fun i r h => by simp at h⟩)
    (fun n c free rest r rl h2 h => by
      obtain ⟨h3, h4⟩ := bestF_pair (l := rest) (by omega)
      obtain ⟨i, hi, p1, p2, p3, p4⟩ := h3
      have hw : ∀ x, (x ∈ putF (bestF rest).1 (bestF rest).2.1 c rest) → x ∈ rest ∨ x = c := fun x hx => put_mem rest.length rest (Nat.le_refl _) x hx
      refine ⟨fun x hx => ?_, fun j q hq => ?_⟩
      · rcases h.1 x hx with h5 | h5
        · rcases hw x h5 with h6 | h6
          · exact .inl h6
          · exact .inr (by simp [h6])
        · exact .inr (by simp only [List.map_cons, List.mem_cons]; exact .inr h5)
      · cases j with
        | zero =>
          simp only [List.getElem?_cons_zero, Option.some.injEq] at hq
          subst hq
          exact ⟨.inl (List.mem_of_getElem? p1), .inl (List.mem_of_getElem? p2), p3, p4⟩
        | succ j =>
          simp only [List.getElem?_cons_succ] at hq
          obtain ⟨k1, k2, k3, k4⟩ := h.2 j q hq
          have up : ∀ x, (x ∈ putF (bestF rest).1 (bestF rest).2.1 c rest ∨ x ∈ (rl.take j).map (·.1)) → x ∈ rest ∨ x ∈ ((((c, (bestF rest).1, (bestF rest).2.1) : Int × Int × Int) :: rl).take (j + 1)).map (·.1) := by
            intro x hx
            rw [List.take_succ_cons, List.map_cons, List.mem_cons]
            rcases hx with hx | hx
            · rcases hw x hx with h6 | h6
              · exact .inl h6
              · exact .inr (.inl h6)
            · exact .inr (.inr hx)
          exact ⟨up _ k1, up _ k2, k3, k4⟩)
/-- the size does not grow from round to round -/
theorem infer_size : ∀ (n : Nat) (free rest : List Int), (inferG n free rest).1.length + 2 * (inferG n free rest).2.length ≤ rest.length :=
  inferG_ind (P := fun n free rest q => q.1.length + 2 * q.2.length ≤ rest.length)
    (fun n free rest _ => by simp)
    (fun n c free rest r rl h2 h => by
      obtain ⟨h3, h4⟩ := bestF_pair (l := rest) (by omega)
      have := put_size (a := (bestF rest).1) (b := (bestF rest).2.1) (c := c) rest.length rest (Nat.le_refl _)
      simp only [List.length_cons] at h ⊢
      omega)
/-- with fewer rules, the first ones; the size is not less -/
theorem infer_fewer : ∀ (m n : Nat) (free rest : List Int), m ≤ n → (inferG m free rest).2 = (inferG n free rest).2.take (inferG m free rest).2.length ∧ (inferG m free rest).2.length ≤ (inferG n free rest).2.length ∧
    (inferG n free rest).1.length + 2 * (inferG n free rest).2.length ≤ (inferG m free rest).1.length + 2 * (inferG m free rest).2.length
  | 0, n, free, rest, _ => by
    have := infer_size n free rest
    rw [inferG_zero]
    exact ⟨by simp, by simp, by simpa using this⟩
  | m + 1, n, [], rest, _ => by rw [inferG_nil, inferG_nil]; simp
  | m + 1, 0, _, _, h => by omega
  | m + 1, n + 1, c :: free, rest, h => by
    rw [inferG_cons, inferG_cons]
    by_cases hb : (bestF rest).2.2 < 2
    · rw [if_pos hb, if_pos hb]; simp
    · rw [if_neg hb, if_neg hb]
      obtain ⟨h1, h2, h3⟩ := infer_fewer m n free (putF (bestF rest).1 (bestF rest).2.1 c rest) (by omega)
      refine ⟨?_, ?_, ?_⟩
      · simp only [List.length_cons, List.take_succ_cons, List.cons.injEq, true_and]; exact h1
      · simp only [List.length_cons]; omega
      · simp only [List.length_cons]; omega
/-- where it ends: all rules, all letters, or no pair occurs twice -/
theorem infer_ends : ∀ (n : Nat) (free rest : List Int), (inferG n free rest).2.length = n ∨ (inferG n free rest).2.length = free.length ∨ (bestF (inferG n free rest).1).2.2 < 2 :=
  inferG_ind (P := fun n free rest q => q.2.length = n ∨ q.2.length = free.length ∨ (bestF q.1).2.2 < 2)
    (fun n free rest h => by
      rcases h with h | h | h
      · subst h; exact .inl rfl
      · subst h; exact .inr (.inl rfl)
      · exact .inr (.inr h))
    (fun n c free rest r rl _ h => by
      simp only [List.length_cons] at h ⊢
      rcases h with h | h | h
      · exact .inl (by omega)
      · exact .inr (.inl (by omega))
      · exact .inr (.inr h))

/-! ### and back -/
def fullE : List (Int × Int × Int) → List Int → List Int
  | [], l => l
  | r :: rl, l => subst1 r (fullE rl l)
theorem infer_back : ∀ (n : Nat) (free rest : List Int), free.Nodup → (∀ x ∈ free, x ∉ rest) → fullE (inferG n free rest).2 (inferG n free rest).1 = rest :=
  inferG_ind (P := fun n free rest q => free.Nodup → (∀ x ∈ free, x ∉ rest) → fullE q.2 q.1 = rest)
    (fun n free rest _ _ _ => rfl)
    (fun n c free rest r rl _ h hn hf => by
      rw [List.nodup_cons] at hn
      have hc : c ∉ rest := hf c (by simp)
      have h1 := h hn.2 (fun x hx hp => by
        rcases put_mem rest.length rest (Nat.le_refl _) x hp with h2 | h2
        · exact hf x (by simp [hx]) h2
        · subst h2; exact hn.1 hx)
      show subst1 _ (fullE rl r) = rest
      rw [h1]
      exact put_back rest.length rest (Nat.le_refl _) hc)
theorem fullE_append (rl : List (Int × Int × Int)) (l m : List Int) : fullE rl (l ++ m) = fullE rl l ++ fullE rl m := by
  induction rl with
  | nil => rfl
  | cons r rl ih => show subst1 r (fullE rl (l ++ m)) = _; rw [ih, subst1_append]; rfl
theorem fullE_nil (rl : List (Int × Int × Int)) : fullE rl [] = [] := by
  induction rl with
  | nil => rfl
  | cons r rl ih => show subst1 r (fullE rl []) = _; rw [ih]; rfl
theorem fullE_len (rl : List (Int × Int × Int)) (l : List Int) : l.length ≤ (fullE rl l).length := by
  induction rl with
  | nil => exact Nat.le_refl _
  | cons r rl ih => exact Nat.le_trans ih (subst1_len r _)
theorem fullE_none {rl : List (Int × Int × Int)} {l : List Int} (h : ∀ x ∈ l, x ∉ rl.map (·.1)) : fullE rl l = l := by
  induction rl with
  | nil => rfl
  | cons r rl ih =>
    show subst1 r (fullE rl l) = l
    rw [ih fun x hx e => h x hx (by simp only [List.map_cons, List.mem_cons]; exact .inr e)]
    exact subst1_none fun e => h _ e (by simp)
/-- each rule's letters are none of its own name nor of rules behind it, and no name comes twice -/
def GoodR : List (Int × Int × Int) → Prop
  | [] => True
  | r :: rl => (r.1 ∉ rl.map (·.1) ∧ r.2.1 ≠ r.1 ∧ r.2.1 ∉ rl.map (·.1) ∧ r.2.2 ≠ r.1 ∧ r.2.2 ∉ rl.map (·.1)) ∧ GoodR rl
theorem infer_good : ∀ (n : Nat) (free rest : List Int), free.Nodup → (∀ x ∈ free, x ∉ rest) → GoodR (inferG n free rest).2 := by
  have key : ∀ (n : Nat) (free rest : List Int), (inferG n free rest).2.map (·.1) = free.take (inferG n free rest).2.length ∧ (free.Nodup → (∀ x ∈ free, x ∉ rest) → GoodR (inferG n free rest).2) :=
    inferG_ind (P := fun n free rest q => q.2.map (·.1) = free.take q.2.length ∧ (free.Nodup → (∀ x ∈ free, x ∉ rest) → GoodR q.2))
      (fun n free rest _ => ⟨by simp, fun _ _ => trivial⟩)
      (fun n c free rest r rl h2 h => by
        obtain ⟨⟨i, hi, p1, p2, _, _⟩, _⟩ := bestF_pair (l := rest) (by omega)
        have m1 := List.mem_of_getElem? p1
        have m2 := List.mem_of_getElem? p2
        refine ⟨?_, fun hn hf => ?_⟩
        · simp only [List.map_cons, List.length_cons, List.take_succ_cons, List.cons.injEq, true_and]; exact h.1
        · rw [List.nodup_cons] at hn
          have hsub : ∀ x, x ∈ rl.map (·.1) → x ∈ free := fun x hx => by
            have := h.1; simp only at this; rw [this] at hx; exact List.mem_of_mem_take hx
          refine ⟨⟨fun e => hn.1 (hsub _ e), fun e => hf c (by simp) (by rw [← show (bestF rest).1 = c from e]; exact m1), fun e => hf _ (List.mem_cons_of_mem _ (hsub _ e)) m1, fun e => hf c (by simp) (by rw [← show (bestF rest).2.1 = c from e]; exact m2), fun e => hf _ (List.mem_cons_of_mem _ (hsub _ e)) m2⟩, ?_⟩
          refine h.2 hn.2 fun x hx hp => ?_
          rcases put_mem rest.length rest (Nat.le_refl _) x hp with h3 | h3
          · exact hf x (by simp [hx]) h3
          · subst h3; exact hn.1 hx)
  exact fun n free rest => (key n free rest).2
theorem fullE_rule : ∀ {rl : List (Int × Int × Int)}, GoodR rl → ∀ r ∈ rl, fullE rl [r.1] = fullE rl [r.2.1, r.2.2]
  | [], _, r, hr => by simp at hr
  | q :: rl, ⟨⟨g1, g2, g3, g4, g5⟩, hg⟩, r, hr => by
    rcases List.mem_cons.1 hr with e | e
    · subst e
      show subst1 r (fullE rl [r.1]) = subst1 r (fullE rl [r.2.1, r.2.2])
      rw [fullE_none (by simpa using g1), fullE_none (fun x hx => by simp only [List.mem_cons, List.not_mem_nil, or_false] at hx; rcases hx with hx | hx; all_goals (subst hx; assumption)), subst1_cons, if_pos rfl, subst1_none (l := [r.2.1, r.2.2]) (by simp only [List.mem_cons, List.not_mem_nil, or_false, not_or]; exact ⟨fun e => g2 e.symm, fun e => g4 e.symm⟩)]
      rfl
    · show subst1 q (fullE rl [r.1]) = subst1 q (fullE rl [r.2.1, r.2.2])
      rw [fullE_rule hg r e]
/-- one step of all rules at once -/
def subAll (rl : List (Int × Int × Int)) (x : Int) : List Int := match rl.find? fun r => r.1 == x with
  | some r => [r.2.1, r.2.2]
  | none => [x]
def stepAll (rl : List (Int × Int × Int)) (l : List Int) : List Int := l.flatMap (subAll rl)
theorem stepAll_full {rl : List (Int × Int × Int)} (hg : GoodR rl) : ∀ l, fullE rl (stepAll rl l) = fullE rl l
  | [] => rfl
  | x :: l => by
    unfold stepAll
    rw [List.flatMap_cons, fullE_append]
    have ih := stepAll_full hg l
    unfold stepAll at ih
    rw [ih, show x :: l = [x] ++ l from rfl, fullE_append]
    congr 1
    unfold subAll
    cases h : rl.find? fun r => r.1 == x with
    | none => rfl
    | some r =>
      have h1 := List.mem_of_find?_eq_some h
      have h2 : r.1 = x := by simpa using List.find?_some h
      simp only
      rw [← fullE_rule hg r h1, h2]
/-- the names in a word all stand ahead of place m in the rules -/
def NamesBelow (rl : List (Int × Int × Int)) (m : Nat) (l : List Int) : Prop := ∀ x ∈ l, ∀ i r, rl[i]? = some r → r.1 = x → i < m
theorem good_below : ∀ {rl : List (Int × Int × Int)}, GoodR rl → ∀ i r, rl[i]? = some r → NamesBelow rl i [r.2.1, r.2.2]
  | [], _, i, r, h => by simp at h
  | q :: rl, ⟨⟨g1, g2, g3, g4, g5⟩, hg⟩, i, r, h => by
    intro x hx j s hs hsx
    cases i with
    | zero =>
      simp only [List.getElem?_cons_zero, Option.some.injEq] at h
      subst h
      exfalso
      simp only [List.mem_cons, List.not_mem_nil, or_false] at hx
      cases j with
      | zero =>
        simp only [List.getElem?_cons_zero, Option.some.injEq] at hs
        subst hs
        rcases hx with e | e
        · exact g2 (e.symm.trans hsx.symm)
        · exact g4 (e.symm.trans hsx.symm)
      | succ j =>
        simp only [List.getElem?_cons_succ] at hs
        have hm : s.1 ∈ rl.map (·.1) := List.mem_map_of_mem (List.mem_of_getElem? hs)
        rw [hsx] at hm
        rcases hx with e | e
        · rw [e] at hm; exact g3 hm
        · rw [e] at hm; exact g5 hm
    | succ i =>
      simp only [List.getElem?_cons_succ] at h
      cases j with
      | zero => omega
      | succ j =>
        simp only [List.getElem?_cons_succ] at hs
        have := good_below hg i r h x hx j s hs hsx
        omega
theorem good_inj : ∀ {rl : List (Int × Int × Int)}, GoodR rl → ∀ (i j : Nat) (r s : Int × Int × Int), rl[i]? = some r → rl[j]? = some s → r.1 = s.1 → i = j
  | [], _, i, j, r, s, h, _, _ => by simp at h
  | q :: rl, ⟨⟨g1, _⟩, hg⟩, i, j, r, s, h, h', e => by
    cases i with
    | zero =>
      cases j with
      | zero => rfl
      | succ j =>
        simp only [List.getElem?_cons_zero, Option.some.injEq] at h
        simp only [List.getElem?_cons_succ] at h'
        subst h
        exact absurd (by rw [e]; exact List.mem_map_of_mem (List.mem_of_getElem? h')) g1
    | succ i =>
      cases j with
      | zero =>
        simp only [List.getElem?_cons_zero, Option.some.injEq] at h'
        simp only [List.getElem?_cons_succ] at h
        subst h'
        exact absurd (by rw [← e]; exact List.mem_map_of_mem (List.mem_of_getElem? h)) g1
      | succ j =>
        simp only [List.getElem?_cons_succ] at h h'
        rw [good_inj hg i j r s h h' e]
theorem stepAll_below {rl : List (Int × Int × Int)} (hg : GoodR rl) {m : Nat} {l : List Int} (h : NamesBelow rl (m + 1) l) : NamesBelow rl m (stepAll rl l) := by
  intro x hx i r hr hrx
  unfold stepAll at hx
  rw [List.mem_flatMap] at hx
  obtain ⟨y, hy, hx⟩ := hx
  unfold subAll at hx
  cases hf : rl.find? fun r => r.1 == y with
  | none =>
    rw [hf] at hx
    simp only [List.mem_singleton] at hx
    subst hx
    exfalso
    rw [List.find?_eq_none] at hf
    have := hf r (List.mem_of_getElem? hr)
    simp only [beq_iff_eq] at this
    exact this hrx
  | some s =>
    rw [hf] at hx
    have h1 := List.mem_of_find?_eq_some hf
    have h2 : s.1 = y := by simpa using List.find?_some hf
    obtain ⟨j, hj⟩ := List.mem_iff_getElem?.1 h1
    have h3 := h y hy j s hj h2
    have h4 := good_below hg j s hj x hx i r hr hrx
    omega
def iterAll (rl : List (Int × Int × Int)) : Nat → List Int → List Int
  | 0, l => l
  | n + 1, l => iterAll rl n (stepAll rl l)
theorem iterAll_full {rl : List (Int × Int × Int)} (hg : GoodR rl) : ∀ n l, fullE rl (iterAll rl n l) = fullE rl l
  | 0, _ => rfl
  | n + 1, l => (iterAll_full hg n _).trans (stepAll_full hg l)
theorem iterAll_below {rl : List (Int × Int × Int)} (hg : GoodR rl) : ∀ n {m : Nat} {l : List Int}, NamesBelow rl (m + n) l → NamesBelow rl m (iterAll rl n l)
  | 0, _, _, h => h
  | n + 1, m, l, h => iterAll_below hg n (stepAll_below hg (by rw [show m + n + 1 = m + (n + 1) from by omega]; exact h))
/-- as many steps as rules expand all -/
theorem iterAll_done {rl : List (Int × Int × Int)} (hg : GoodR rl) (l : List Int) : iterAll rl rl.length l = fullE rl l := by
  have h1 : NamesBelow rl (0 + rl.length) l := fun x _ i r hr _ => by have := (List.getElem?_eq_some_iff.1 hr).1; omega
  have h2 := iterAll_below hg rl.length h1
  rw [← iterAll_full hg rl.length l, fullE_none]
  intro x hx e
  obtain ⟨r, hr, hrx⟩ := List.mem_map.1 e
  obtain ⟨i, hi⟩ := List.mem_iff_getElem?.1 hr
  have := h2 x hx i r hi hrx
  omega
theorem iterAll_len {rl : List (Int × Int × Int)} (hg : GoodR rl) (n : Nat) (l : List Int) : (iterAll rl n l).length ≤ (fullE rl l).length := by
  rw [← iterAll_full hg n l]; exact fullE_len rl _
end Go.Proofs.YtckffdaomjbglaaDoor
