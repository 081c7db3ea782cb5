/-
  Layer 6, plain: numbers in decimal, the text of a word, and both readings of a text. No program is walked here.
-/
import Derived.Test.YtlipmagkplbkdaaDoorWa
import Derived.Lib.ItoaNum
import Derived.Lib.ItoaMem
import Derived.Lib.AtoiTie
namespace Go.Proofs.YtlipmagkplbkdaaDoor
open Go.RowKit

/-! ### digits -/
theorem digB {n : Nat} (h : n < 10) : (UInt8.ofNat (48 + n)).toNat = 48 + n := by
  rw [UInt8.toNat_ofNat']; omega
theorem dec_big {u : Nat} (h : ¬ u < 10) : Lib.decDigits u = Lib.decDigits (u / 10) ++ [UInt8.ofNat (48 + u % 10)] := by rw [Lib.decDigits, dif_neg h]
theorem dec_dig : ∀ (u : Nat), ∀ b ∈ Lib.decDigits u, 48 ≤ b.toNat ∧ b.toNat ≤ 57 := by
  intro u
  induction u using Nat.strongRecOn with
  | _ u ih =>
    intro b hb
    by_cases h : u < 10
    · rw [Lib.decDigits_one h] at hb
      obtain rfl := List.mem_singleton.1 hb
      rw [digB h]; omega
    · rw [dec_big h] at hb
      rcases List.mem_append.1 hb with hb | hb
      · exact ih (u / 10) (by omega) b hb
      · obtain rfl := List.mem_singleton.1 hb
        rw [digB (by omega)]; omega
theorem dec_ne (u : Nat) : Lib.decDigits u ≠ [] := by
  by_cases h : u < 10
  · rw [Lib.decDigits_one h]; simp
  · rw [dec_big h]; simp
theorem decFrom_snoc : ∀ (l : List UInt8) (acc : Nat) (b : UInt8), Lib.decFrom acc (l ++ [b]) = (Lib.decFrom acc l).bind fun n => (Lib.digitVal b).map fun d => n * 10 + d
  | [], acc, b => by
    show Lib.decFrom acc [b] = (Lib.digitVal b).map _
    unfold Lib.decFrom
    cases Lib.digitVal b <;> rfl
  | a :: l, acc, b => by
    rw [List.cons_append]
    unfold Lib.decFrom
    cases h : Lib.digitVal a with
    | none => rfl
    | some d => exact decFrom_snoc l _ b
theorem digitVal_of {n : Nat} (h : n < 10) : Lib.digitVal (UInt8.ofNat (48 + n)) = some n := by
  unfold Lib.digitVal
  rw [digB h, if_pos ⟨by omega, by omega⟩]; congr 1; omega
theorem dec_from (u : Nat) : Lib.decFrom 0 (Lib.decDigits u) = some u := by
  induction u using Nat.strongRecOn with
  | _ u ih =>
    by_cases h : u < 10
    · rw [Lib.decDigits_one h, show [UInt8.ofNat (48 + u)] = [] ++ [UInt8.ofNat (48 + u)] from rfl, decFrom_snoc, digitVal_of h]
      show some (0 * 10 + u) = some u
      congr 1; omega
    · rw [dec_big h, decFrom_snoc, ih (u / 10) (by omega), digitVal_of (by omega)]
      show some (u / 10 * 10 + u % 10) = some u
      congr 1; omega
theorem dec_head (u : Nat) : ∀ r, Lib.decDigits u = 48 :: r → u = 0 ∧ r = [] := by
  induction u using Nat.strongRecOn with
  | _ u ih =>
    intro r hr
    by_cases h : u < 10
    · rw [Lib.decDigits_one h] at hr
      injection hr with h1 h2
      have := congrArg UInt8.toNat h1
      rw [digB h] at this
      exact ⟨by have e : (48 : UInt8).toNat = 48 := rfl
                omega, h2.symm⟩
    · rw [dec_big h] at hr
      cases hd : Lib.decDigits (u / 10) with
      | nil => exact absurd hd (dec_ne _)
      | cons a t =>
        rw [hd] at hr
        injection hr with h1 h2
        subst h1
        have := (ih (u / 10) (by omega) t hd).1
        omega
theorem dec_unique : ∀ (k : Nat) (l : List UInt8) (u : Nat), l.length = k → l ≠ [] → Lib.decFrom 0 l = some u → (∀ r, l = 48 :: r → r = []) → Lib.decDigits u = l
  | 0, l, u, hk, hne, _, _ => absurd (List.eq_nil_of_length_eq_zero hk) hne
  | k + 1, l, u, hk, hne, hd, hz => by
    rcases List.eq_nil_or_concat l with h | ⟨l', b, h⟩
    · exact absurd h hne
    · rw [List.concat_eq_append] at h
      subst h
      rw [decFrom_snoc] at hd
      cases hn : Lib.decFrom 0 l' with
      | none => rw [hn] at hd; cases hd
      | some n =>
        rw [hn] at hd
        cases hb : Lib.digitVal b with
        | none => rw [hb] at hd; cases hd
        | some d =>
          rw [hb] at hd
          have hu : n * 10 + d = u := Option.some.inj hd
          obtain ⟨b1, b2, b3⟩ := Lib.digitVal_eq hb
          have hbe : UInt8.ofNat (48 + d) = b := UInt8.toNat_inj.1 (by rw [digB (by omega)]; omega)
          cases l' with
          | nil =>
            have : n = 0 := by cases hn; rfl
            subst this
            obtain rfl : d = u := by omega
            rw [Lib.decDigits_one (by omega), hbe]; rfl
          | cons a t =>
            have hz' : ∀ r, a :: t = 48 :: r → r = [] := fun r hr => by
              have := hz (r ++ [b]) (by rw [hr]; rfl)
              simp at this
            have ih := dec_unique k (a :: t) n (by simp at hk ⊢; omega) (by simp) hn hz'
            have hn0 : n ≠ 0 := by
              rintro rfl
              rw [Lib.decDigits_one (by decide)] at ih
              injection ih with i1 i2
              have := hz (t ++ [b]) (by rw [← i1]; rfl)
              simp at this
            rw [dec_big (by omega), show u / 10 = n from by omega, show u % 10 = d from by omega, ih, hbe]
theorem dec_len : ∀ (k u : Nat), u < 10 ^ (k + 1) → (Lib.decDigits u).length ≤ k + 1
  | 0, u, h => by rw [Lib.decDigits_one (by simpa using h)]; simp
  | k + 1, u, h => by
    by_cases h1 : u < 10
    · rw [Lib.decDigits_one h1]; simp
    · rw [dec_big h1, List.length_append, List.length_singleton]
      have := dec_len k (u / 10) (by rw [Nat.pow_succ] at h; omega)
      omega

/-! ### whole numbers -/
theorem itoa_bytes (n : Int) : ∀ b ∈ Lib.itoa n, b = 45 ∨ (48 ≤ b.toNat ∧ b.toNat ≤ 57) := by
  intro b hb
  unfold Lib.itoa at hb
  split at hb
  · rcases List.mem_cons.1 hb with h | h
    · exact .inl h
    · exact .inr (dec_dig _ b h)
  · exact .inr (dec_dig _ b hb)
theorem itoa_not {n : Int} {c : UInt8} (h : c ≠ 45) (h' : ¬ (48 ≤ c.toNat ∧ c.toNat ≤ 57)) : c ∉ Lib.itoa n := fun hc => (itoa_bytes n c hc).elim h h'
theorem itoa_pos (u : Nat) : Lib.itoa (u : Int) = Lib.decDigits u := Lib.itoa_nonneg u
theorem itoa_len {n : Int} (h0 : -1000000000 ≤ n) (h1 : n ≤ 1000000000) : (Lib.itoa n).length ≤ 11 := by
  unfold Lib.itoa
  split
  · rw [List.length_cons]
    have := dec_len 9 n.natAbs (by omega)
    omega
  · have := dec_len 9 n.toNat (by omega)
    omega
theorem atoi_cons (b : UInt8) (r : List UInt8) : Lib.atoi (b :: r) = if b == 45 then (Lib.decNat r).map fun (m : Nat) => -(m : Int) else if b == 43 then (Lib.decNat r).map fun (m : Nat) => (m : Int) else (Lib.decNat (b :: r)).map fun (m : Nat) => (m : Int) := rfl
theorem itoa_atoi {n : Int} : Lib.atoi (Lib.itoa n) = some n := by
  unfold Lib.itoa
  by_cases h : n < 0
  · rw [if_pos h, atoi_cons, if_pos (by decide : ((45 : UInt8) == 45) = true)]
    unfold Lib.decNat
    rw [show (Lib.decDigits n.natAbs).isEmpty = false from by
      cases hd : Lib.decDigits n.natAbs with
      | nil => exact absurd hd (dec_ne _)
      | cons => rfl]
    rw [if_neg (by decide), dec_from]
    show some (-(n.natAbs : Int)) = some n
    congr 1; omega
  · rw [if_neg h]
    cases hd : Lib.decDigits n.toNat with
    | nil => exact absurd hd (dec_ne _)
    | cons b r =>
      have hb := dec_dig n.toNat b (by rw [hd]; simp)
      rw [atoi_cons]
      have e1 : (b == 45) = false := by rw [beq_eq_false_iff_ne]; rintro rfl; revert hb; decide
      have e2 : (b == 43) = false := by rw [beq_eq_false_iff_ne]; rintro rfl; revert hb; decide
      simp only [e1, e2, Bool.false_eq_true, if_false]
      unfold Lib.decNat
      rw [List.isEmpty_cons, if_neg (by decide), ← hd, dec_from]
      show some (n.toNat : Int) = some n
      congr 1; omega
theorem argOk_le {x : Int} (h : argOk x = true) : -1000000000 ≤ x ∧ x ≤ 1000000000 := by
  unfold argOk at h; simp at h; omega

/-! ### the program's reading of a number -/
def numP (t : List UInt8) : Option Int := match Lib.atoiAll t with
  | .ok n => if Lib.itoa n = t then some n else none
  | _ => none
theorem numP_text {t : List UInt8} {n : Int} (h : numP t = some n) : Lib.itoa n = t := by
  unfold numP at h
  split at h
  · split at h
    · cases h; assumption
    · cases h
  · cases h
theorem numP_of {n : Int} (h : argOk n = true) : numP (Lib.itoa n) = some n := by
  obtain ⟨h0, h1⟩ := argOk_le h
  unfold numP
  rw [Lib.atoiAll_short _ (by have := itoa_len h0 h1; omega), itoa_atoi]
  show (if Lib.itoa n = Lib.itoa n then some n else none) = _
  rw [if_pos rfl]

/-! ### the reference's reading of a number -/
def digsR : Nat → Int → List UInt8 → Int × List UInt8
  | 0, n, l => (n, l)
  | _ + 1, n, [] => (n, [])
  | k + 1, n, b :: r => if 48 ≤ b.toNat ∧ b.toNat ≤ 57 then digsR k (10 * n + ((b.toNat : Int) - 48)) r else (n, b :: r)
def tailR (neg : Bool) (l : List UInt8) : Option (Int × List UInt8) :=
  if (digsR 10 0 l).2.length = l.length ∨ (l.head? = some 48 ∧ (digsR 10 0 l).2.length + 1 < l.length) ∨ ((digsR 10 0 l).1 = 0 ∧ neg = true) then none
  else some ((if neg = true then -(digsR 10 0 l).1 else (digsR 10 0 l).1), (digsR 10 0 l).2)
def numR : List UInt8 → Option (Int × List UInt8)
  | [] => tailR false []
  | b :: r => if b = 45 then tailR true r else tailR false (b :: r)
theorem numR_cons (b : UInt8) (r : List UInt8) : numR (b :: r) = if b = 45 then tailR true r else tailR false (b :: r) := rfl
theorem digsR_spec : ∀ (k : Nat) (n : Nat) (l : List UInt8), ∃ (ds r : List UInt8) (m : Nat), digsR k (n : Int) l = ((m : Int), r) ∧ l = ds ++ r ∧ Lib.decFrom n ds = some m
  | 0, n, l => ⟨[], l, n, by unfold digsR; rfl, rfl, rfl⟩
  | k + 1, n, [] => ⟨[], [], n, by unfold digsR; rfl, rfl, rfl⟩
  | k + 1, n, b :: r => by
    unfold digsR
    by_cases h : 48 ≤ b.toNat ∧ b.toNat ≤ 57
    · rw [if_pos h]
      obtain ⟨ds, r', m, h1, h2, h3⟩ := digsR_spec k (n * 10 + (b.toNat - 48)) r
      refine ⟨b :: ds, r', m, ?_, by rw [h2]; rfl, ?_⟩
      · rw [← h1]; congr 1; omega
      · unfold Lib.decFrom Lib.digitVal
        rw [if_pos h]; exact h3
    · rw [if_neg h]; exact ⟨[], b :: r, n, rfl, rfl, rfl⟩
theorem tailR_text {neg : Bool} {l : List UInt8} {n : Int} {r : List UInt8} (h : tailR neg l = some (n, r)) : (if neg = true then [45] else []) ++ l = Lib.itoa n ++ r ∧ r.length < l.length := by
  obtain ⟨ds, r', m, h1, h2, h3⟩ := digsR_spec 10 0 l
  have h1' : digsR 10 0 l = ((m : Int), r') := h1
  unfold tailR at h
  rw [h1'] at h
  split at h
  · cases h
  · rename_i hc
    simp only [not_or, not_and] at hc
    obtain ⟨c1, c2, c3⟩ := hc
    cases h
    have c1' : ¬ r'.length = l.length := c1
    have c2' : l.head? = some 48 → ¬ r'.length + 1 < l.length := c2
    have hlen : l.length = ds.length + r'.length := by rw [h2, List.length_append]
    have hds : ds ≠ [] := by rintro rfl; simp at hlen; omega
    have hu := dec_unique _ ds m rfl hds h3 (fun q hq => by
      have hh : l.head? = some 48 := by rw [h2, hq]; rfl
      have := c2' hh
      rw [hq] at hlen
      simp at hlen
      exact List.eq_nil_of_length_eq_zero (by omega))
    refine ⟨?_, show r'.length < l.length by have : 0 < ds.length := List.length_pos_iff.2 hds
                                             omega⟩
    cases neg
    · simp only [Bool.false_eq_true, if_false, List.nil_append]
      rw [itoa_pos, hu, h2]
    · simp only [if_true]
      have hm : m ≠ 0 := by
        rintro rfl
        exact c3 rfl rfl
      rw [Lib.itoa_neg m (by omega), hu, h2]; rfl
theorem numR_text {l : List UInt8} {n : Int} {r : List UInt8} (h : numR l = some (n, r)) : l = Lib.itoa n ++ r ∧ r.length < l.length := by
  cases l with
  | nil =>
    have := tailR_text (show tailR false [] = some (n, r) from h)
    exact ⟨by simpa using this.1, this.2⟩
  | cons b t =>
    rw [numR_cons] at h
    by_cases hb : b = 45
    · rw [if_pos hb] at h
      obtain ⟨h1, h2⟩ := tailR_text h
      exact ⟨by rw [hb, ← h1]; rfl, by rw [List.length_cons]; omega⟩
    · rw [if_neg hb] at h
      obtain ⟨h1, h2⟩ := tailR_text h
      exact ⟨by simpa using h1, h2⟩
/-- what comes next is no digit -/
def NoDig (r : List UInt8) : Prop := ∀ b t, r = b :: t → ¬ (48 ≤ b.toNat ∧ b.toNat ≤ 57)
theorem digsR_of : ∀ (k : Nat) (ds : List UInt8) (n m : Nat) (r : List UInt8), Lib.decFrom n ds = some m → ds.length ≤ k → NoDig r → digsR k (n : Int) (ds ++ r) = ((m : Int), r)
  | 0, ds, n, m, r, h, hl, _ => by
    obtain rfl := List.eq_nil_of_length_eq_zero (Nat.le_zero.1 hl)
    cases h; unfold digsR; rfl
  | k + 1, [], n, m, r, h, _, hn => by
    cases h
    cases r with
    | nil => unfold digsR; rfl
    | cons b t => rw [List.nil_append]; unfold digsR; rw [if_neg (hn b t rfl)]
  | k + 1, b :: ds, n, m, r, h, hl, hn => by
    rw [List.cons_append]
    unfold digsR
    unfold Lib.decFrom at h
    cases hb : Lib.digitVal b with
    | none => rw [hb] at h; cases h
    | some d =>
      rw [hb] at h
      obtain ⟨b1, b2, b3⟩ := Lib.digitVal_eq hb
      rw [if_pos ⟨b1, b2⟩]
      have := digsR_of k ds (n * 10 + d) m r h (by simpa using hl) hn
      rw [← this]; congr 1; omega
theorem numR_of {n : Int} {r : List UInt8} (h : argOk n = true) (hr : NoDig r) : numR (Lib.itoa n ++ r) = some (n, r) := by
  obtain ⟨h0, h1⟩ := argOk_le h
  have key : ∀ (u : Nat), u ≤ 1000000000 → ∀ neg, (neg = true → u ≠ 0) → tailR neg (Lib.decDigits u ++ r) = some ((if neg = true then -(u : Int) else (u : Int)), r) := fun u hu neg hneg => by
    have hd : digsR 10 0 (Lib.decDigits u ++ r) = ((u : Int), r) := digsR_of 10 _ 0 u r (dec_from u) (dec_len 9 u (by omega)) hr
    have hpos : 0 < (Lib.decDigits u).length := List.length_pos_iff.2 (dec_ne u)
    unfold tailR
    rw [hd, if_neg]
    rw [List.length_append]
    simp only [not_or, not_and]
    refine ⟨by omega, fun hh => ?_, fun hu0 hn => hneg hn (by omega)⟩
    cases he : Lib.decDigits u with
    | nil => exact absurd he (dec_ne u)
    | cons a t =>
      rw [he] at hh
      have : a = 48 := by simpa using hh
      rw [this] at he
      have := (dec_head u t he).2
      subst this
      simp; omega
  by_cases hn : n < 0
  · have e : Lib.itoa n = 45 :: Lib.decDigits n.natAbs := by unfold Lib.itoa; rw [if_pos hn]
    rw [e, List.cons_append]
    rw [numR_cons, if_pos rfl, key n.natAbs (by omega) true (fun _ => by omega)]
    simp only [if_true]
    congr 2; omega
  · have e : Lib.itoa n = Lib.decDigits n.toNat := by unfold Lib.itoa; rw [if_neg hn]
    rw [e]
    have hk := key n.toNat (by omega) false (fun h => by cases h)
    cases hd : Lib.decDigits n.toNat with
    | nil => exact absurd hd (dec_ne _)
    | cons b t =>
      have hb := dec_dig n.toNat b (by rw [hd]; simp)
      rw [hd] at hk
      rw [List.cons_append] at hk ⊢
      rw [numR_cons, if_neg (by rintro rfl; revert hb; decide), hk]
      simp only [Bool.false_eq_true, if_false]
      congr 2; omega
end Go.Proofs.YtlipmagkplbkdaaDoor
