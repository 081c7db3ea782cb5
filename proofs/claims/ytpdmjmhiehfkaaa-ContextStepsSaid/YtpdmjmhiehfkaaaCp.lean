/-
  Layer 8, plain: neighbours: what the reference's scans find, and that a stack of neighbours keeps them. No program is walked here.
-/
import Derived.Test.YtpdmjmhiehfkaaaBy
import Derived.Test.YtpdmjmhiehfkaaaFp
namespace Go.Proofs.Ytpdmjmhiehfkaaa
open Go.RowKit

def plainC (c : Int) : Bool := letterB c && (c != 91) && (c != 93)
/-- is a byte among those that are ignored? -/
def ign (p : ByteArray) (c : Int) : Bool := decide (0 ≤ atF p c)
def nameAt (ms : List Mod) (k : Nat) : Int := ((ms[k]?).map Mod.name).getD 0
theorem nameAt_drop {ms : List Mod} {k : Nat} {m : Mod} {r : List Mod} (h : ms.drop k = m :: r) : nameAt ms k = m.name := by
  unfold nameAt; rw [get_of_drop h]; rfl

/-- the left neighbour of place k, c brackets closed on the way -/
def befAt (p : ByteArray) (ms : List Mod) : Nat → Nat → Int
  | 0, _ => -1
  | k + 1, c => if nameAt ms k = 93 then befAt p ms k (c + 1) else if nameAt ms k = 91 then befAt p ms k (c - 1) else if c = 0 ∧ ign p (nameAt ms k) = false then (k : Int) else befAt p ms k c
/-- the right neighbour ahead of a rest that begins at k, o brackets open on the way -/
def behAt (p : ByteArray) : List Mod → Nat → Nat → Int
  | [], _, _ => -1
  | m :: r, k, o => if m.name = 91 then behAt p r (k + 1) (o + 1) else if m.name = 93 then (if o = 0 then -1 else behAt p r (k + 1) (o - 1)) else if o = 0 ∧ ign p m.name = false then (k : Int) else behAt p r (k + 1) o
def brkB (c : Int) : Bool := c == 91 || c == 93
def leftF (p : ByteArray) (ms : List Mod) (i : Nat) : Int := if brkB (nameAt ms i) = true then -1 else befAt p ms i 0
def rightF (p : ByteArray) (ms : List Mod) (i : Nat) : Int := if brkB (nameAt ms i) = true then -1 else behAt p (ms.drop (i + 1)) (i + 1) 0

theorem befAt_rng (p : ByteArray) (ms : List Mod) : ∀ (k c : Nat), -1 ≤ befAt p ms k c ∧ befAt p ms k c < k
  | 0, c => by unfold befAt; omega
  | k + 1, c => by
    unfold befAt
    have h1 := befAt_rng p ms k (c + 1)
    have h2 := befAt_rng p ms k (c - 1)
    have h3 := befAt_rng p ms k c
    repeat' split
    all_goals omega
theorem behAt_rng (p : ByteArray) : ∀ (ms : List Mod) (k o : Nat), -1 ≤ behAt p ms k o ∧ behAt p ms k o < k + ms.length
  | [], k, o => by unfold behAt; simp; omega
  | m :: r, k, o => by
    unfold behAt
    have h1 := behAt_rng p r (k + 1) (o + 1)
    have h2 := behAt_rng p r (k + 1) (o - 1)
    have h3 := behAt_rng p r (k + 1) o
    rw [List.length_cons]
    repeat' split
    all_goals omega
theorem leftF_rng (p : ByteArray) (ms : List Mod) (i : Nat) : -1 ≤ leftF p ms i ∧ leftF p ms i < i + 1 := by
  unfold leftF
  have := befAt_rng p ms i 0
  split <;> omega
theorem rightF_rng (p : ByteArray) (ms : List Mod) (i : Nat) (hi : i < ms.length) : -1 ≤ rightF p ms i ∧ rightF p ms i < ms.length := by
  unfold rightF
  have := behAt_rng p (ms.drop (i + 1)) (i + 1) 0
  rw [List.length_drop] at this
  split <;> omega

/-! ### how many brackets are open ahead of place i -/
def opn (ms : List Mod) : Nat → Nat
  | 0 => 0
  | k + 1 => if nameAt ms k = 91 then opn ms k + 1 else if nameAt ms k = 93 then opn ms k - 1 else opn ms k
theorem opn_succ (ms : List Mod) (k : Nat) : opn ms (k + 1) = if nameAt ms k = 91 then opn ms k + 1 else if nameAt ms k = 93 then opn ms k - 1 else opn ms k := rfl
theorem scan_consC (m : Mod) (ms : List Mod) (n : Nat) : scan n (m :: ms) = if m.name = 91 then scan (n + 1) ms else if m.name = 93 then (if n = 0 then none else scan (n - 1) ms) else scan n ms := rfl
theorem opn_scan {ms : List Mod} (h : scan 0 ms ≠ none) : ∀ k, k ≤ ms.length → scan (opn ms k) (ms.drop k) = scan 0 ms
  | 0, _ => by simp [opn]
  | k + 1, hk => by
    have ih := opn_scan h k (by omega)
    have hd : ms.drop k = ms[k] :: ms.drop (k + 1) := List.drop_eq_getElem_cons (by omega)
    rw [hd] at ih
    have hn := nameAt_drop hd
    rw [opn_succ, hn]
    rw [scan_consC] at ih
    by_cases h1 : ms[k].name = 91
    · rw [if_pos h1] at ih ⊢; exact ih
    · rw [if_neg h1] at ih ⊢
      by_cases h2 : ms[k].name = 93
      · rw [if_pos h2] at ih ⊢
        by_cases h3 : opn ms k = 0
        · rw [if_pos h3] at ih; exact absurd ih.symm h
        · rw [if_neg h3] at ih; exact ih
      · rw [if_neg h2] at ih ⊢; exact ih
/-- a valid word's brackets belong to each other -/
structure Bal (ms : List Mod) : Prop where
  pos : ∀ k, k < ms.length → nameAt ms k = 93 → 0 < opn ms k
  fin : opn ms ms.length = 0
theorem bal_of {ms : List Mod} (h : checkF ms = 0) : Bal ms := by
  have hs : scan 0 ms = some 0 := by
    unfold checkF at h
    split at h
    · cases h
    · split at h
      · cases h
      · split at h
        · cases h
        · split at h
          · cases h
          · rename_i n hn h0
            have : n = 0 := by omega
            rw [hn, this]
  have hne : scan 0 ms ≠ none := by rw [hs]; simp
  refine ⟨fun k hk hn => ?_, ?_⟩
  · have h1 := opn_scan hne k (by omega)
    have hd : ms.drop k = ms[k] :: ms.drop (k + 1) := List.drop_eq_getElem_cons hk
    have hnk := nameAt_drop hd
    rw [hd, scan_consC] at h1
    rw [hnk] at hn
    rw [if_neg (by omega), if_pos hn] at h1
    by_cases h0 : opn ms k = 0
    · rw [if_pos h0, hs] at h1; cases h1
    · omega
  · have h1 := opn_scan hne ms.length (Nat.le_refl _)
    rw [List.drop_length, hs] at h1
    unfold scan at h1
    exact Option.some.inj h1
theorem opn_le (ms : List Mod) : ∀ k, opn ms k ≤ k
  | 0 => by simp [opn]
  | k + 1 => by
    have := opn_le ms k
    unfold opn
    repeat' split
    all_goals omega

/-! ### the stacks -/
def StkL (p : ByteArray) (ms : List Mod) (i : Nat) (L : List Int) : Prop := L.length = opn ms i + 1 ∧ ∀ j, j ≤ opn ms i → L[opn ms i - j]? = some (befAt p ms i j)
def StkR (p : ByteArray) (ms : List Mod) (i : Nat) (L : List Int) : Prop := L.length = opn ms i + 1 ∧ ∀ j, j ≤ opn ms i → L[opn ms i - j]? = some (behAt p (ms.drop i) i j)

theorem StkL.start (p : ByteArray) (ms : List Mod) : StkL p ms 0 [-1] := ⟨rfl, fun j hj => by
  have : j = 0 := by unfold opn at hj; omega
  subst this; rfl⟩
theorem StkL.top {p : ByteArray} {ms : List Mod} {i : Nat} {L : List Int} (h : StkL p ms i L) : L[opn ms i]? = some (befAt p ms i 0) := by simpa using h.2 0 (Nat.zero_le _)
theorem StkL.push {p : ByteArray} {ms : List Mod} {i : Nat} {L : List Int} (h : StkL p ms i L) (hn : nameAt ms i = 91) : StkL p ms (i + 1) (L ++ [befAt p ms i 0]) := by
  have ho : opn ms (i + 1) = opn ms i + 1 := by rw [opn_succ, if_pos hn]
  have hb : ∀ c, befAt p ms (i + 1) c = befAt p ms i (c - 1) := fun c => by conv => lhs; unfold befAt
                                                                            rw [if_neg (by omega), if_pos hn]
  refine ⟨by rw [List.length_append, h.1, ho]; rfl, fun j hj => ?_⟩
  rw [ho] at hj ⊢
  rw [hb]
  cases j with
  | zero => rw [List.getElem?_append_right (by rw [h.1]; omega), h.1]; simp
  | succ j =>
    rw [List.getElem?_append_left (by rw [h.1]; omega), show opn ms i + 1 - (j + 1) = opn ms i - j from by omega]
    exact h.2 j (by omega)
theorem StkL.pop {p : ByteArray} {ms : List Mod} {i : Nat} {L : List Int} (h : StkL p ms i L) (hn : nameAt ms i = 93) (h0 : 0 < opn ms i) : StkL p ms (i + 1) (L.take (opn ms i)) := by
  have ho : opn ms (i + 1) = opn ms i - 1 := by rw [opn_succ, if_neg (by omega), if_pos hn]
  have hb : ∀ c, befAt p ms (i + 1) c = befAt p ms i (c + 1) := fun c => by conv => lhs; unfold befAt
                                                                            rw [if_pos hn]
  refine ⟨by rw [List.length_take, h.1, ho]; omega, fun j hj => ?_⟩
  rw [ho] at hj ⊢
  rw [hb, List.getElem?_take, if_pos (by omega), show opn ms i - 1 - j = opn ms i - (j + 1) from by omega]
  exact h.2 (j + 1) (by omega)
theorem StkL.put {p : ByteArray} {ms : List Mod} {i : Nat} {L : List Int} (h : StkL p ms i L) (h1 : nameAt ms i ≠ 91) (h2 : nameAt ms i ≠ 93) (hg : ign p (nameAt ms i) = false) : StkL p ms (i + 1) (L.set (opn ms i) (i : Int)) := by
  have ho : opn ms (i + 1) = opn ms i := by rw [opn_succ, if_neg h1, if_neg h2]
  refine ⟨by rw [List.length_set, h.1, ho], fun j hj => ?_⟩
  rw [ho] at hj ⊢
  conv => rhs; unfold befAt
  rw [if_neg h2, if_neg h1]
  cases j with
  | zero =>
    rw [if_pos ⟨rfl, hg⟩, Nat.sub_zero, List.getElem?_set_self (by rw [h.1]; omega)]
  | succ j =>
    rw [if_neg (by omega), List.getElem?_set_ne (by omega)]
    exact h.2 (j + 1) hj
theorem StkL.stay {p : ByteArray} {ms : List Mod} {i : Nat} {L : List Int} (h : StkL p ms i L) (h1 : nameAt ms i ≠ 91) (h2 : nameAt ms i ≠ 93) (hg : ign p (nameAt ms i) = true) : StkL p ms (i + 1) L := by
  have ho : opn ms (i + 1) = opn ms i := by rw [opn_succ, if_neg h1, if_neg h2]
  refine ⟨by rw [h.1, ho], fun j hj => ?_⟩
  rw [ho] at hj ⊢
  conv => rhs; unfold befAt
  rw [if_neg h2, if_neg h1, if_neg (by rw [hg]; simp)]
  exact h.2 j hj

theorem drop_name {ms : List Mod} {i : Nat} (hi : i < ms.length) : ∃ m, ms.drop i = m :: ms.drop (i + 1) ∧ nameAt ms i = m.name :=
  ⟨ms[i], List.drop_eq_getElem_cons hi, nameAt_drop (List.drop_eq_getElem_cons hi)⟩
theorem StkR.start (p : ByteArray) {ms : List Mod} (h : Bal ms) : StkR p ms ms.length [-1] := ⟨by rw [h.fin]; rfl, fun j hj => by
  rw [h.fin] at hj ⊢
  have : j = 0 := by omega
  subst this
  rw [List.drop_length]; rfl⟩
theorem StkR.top {p : ByteArray} {ms : List Mod} {i : Nat} {L : List Int} (h : StkR p ms i L) : L[opn ms i]? = some (behAt p (ms.drop i) i 0) := by simpa using h.2 0 (Nat.zero_le _)
theorem StkR.push {p : ByteArray} {ms : List Mod} {i : Nat} {L : List Int} (hi : i < ms.length) (h : StkR p ms (i + 1) L) (hn : nameAt ms i = 93) (h0 : 0 < opn ms i) : StkR p ms i (L ++ [-1]) := by
  have ho : opn ms (i + 1) = opn ms i - 1 := by rw [opn_succ, if_neg (by omega), if_pos hn]
  obtain ⟨m, hd, hm⟩ := drop_name hi
  rw [hm] at hn
  refine ⟨by rw [List.length_append, h.1, ho]; simp; omega, fun j hj => ?_⟩
  rw [hd]
  unfold behAt
  rw [if_neg (by omega), if_pos hn]
  cases j with
  | zero => rw [if_pos rfl, List.getElem?_append_right (by rw [h.1]; omega), h.1, ho]; simp [show opn ms i - (opn ms i - 1 + 1) = 0 from by omega]
  | succ j =>
    rw [if_neg (by omega), List.getElem?_append_left (by rw [h.1]; omega), show opn ms i - (j + 1) = opn ms (i + 1) - j from by omega]
    exact h.2 j (by omega)
theorem StkR.pop {p : ByteArray} {ms : List Mod} {i : Nat} {L : List Int} (hi : i < ms.length) (h : StkR p ms (i + 1) L) (hn : nameAt ms i = 91) : StkR p ms i (L.take (opn ms (i + 1))) := by
  have ho : opn ms (i + 1) = opn ms i + 1 := by rw [opn_succ, if_pos hn]
  obtain ⟨m, hd, hm⟩ := drop_name hi
  rw [hm] at hn
  refine ⟨by rw [List.length_take, h.1, ho]; omega, fun j hj => ?_⟩
  rw [hd]
  unfold behAt
  rw [if_pos hn, List.getElem?_take, if_pos (by omega), show opn ms i - j = opn ms (i + 1) - (j + 1) from by omega]
  exact h.2 (j + 1) (by omega)
theorem StkR.put {p : ByteArray} {ms : List Mod} {i : Nat} {L : List Int} (hi : i < ms.length) (h : StkR p ms (i + 1) L) (h1 : nameAt ms i ≠ 91) (h2 : nameAt ms i ≠ 93) (hg : ign p (nameAt ms i) = false) : StkR p ms i (L.set (opn ms (i + 1)) (i : Int)) := by
  have ho : opn ms (i + 1) = opn ms i := by rw [opn_succ, if_neg h1, if_neg h2]
  obtain ⟨m, hd, hm⟩ := drop_name hi
  rw [hm] at h1 h2 hg
  refine ⟨by rw [List.length_set, h.1, ho], fun j hj => ?_⟩
  rw [hd]
  unfold behAt
  rw [if_neg h1, if_neg h2]
  cases j with
  | zero => rw [if_pos ⟨rfl, hg⟩, ho, Nat.sub_zero, List.getElem?_set_self (by rw [h.1]; omega)]
  | succ j =>
    rw [if_neg (by omega), List.getElem?_set_ne (by omega), ← ho]
    exact h.2 (j + 1) (by omega)
theorem StkR.stay {p : ByteArray} {ms : List Mod} {i : Nat} {L : List Int} (hi : i < ms.length) (h : StkR p ms (i + 1) L) (h1 : nameAt ms i ≠ 91) (h2 : nameAt ms i ≠ 93) (hg : ign p (nameAt ms i) = true) : StkR p ms i L := by
  have ho : opn ms (i + 1) = opn ms i := by rw [opn_succ, if_neg h1, if_neg h2]
  obtain ⟨m, hd, hm⟩ := drop_name hi
  rw [hm] at h1 h2 hg
  refine ⟨by rw [h.1, ho], fun j hj => ?_⟩
  rw [hd]
  unfold behAt
  rw [if_neg h1, if_neg h2, if_neg (by rw [hg]; simp), ← ho]
  exact h.2 j (by omega)

/-! ### what is asked -/
def ignFrom (p : ByteArray) : List Int → Nat → Bool
  | [], _ => true
  | x :: l, k => plainC x && decide ((k : Int) ≤ atF p x) && ignFrom p l (k + 1)
def ignF (p : ByteArray) : Bool := ignFrom p (bytesI p) 0 && decide (p.size ≤ 20)
/-- a rule without what it asks of neighbours -/
def bareN (r : Rul) : Rul := { r with left := 0, right := 0 }
def sideOk (c : Int) : Bool := c == 0 || plainC c
def checkC (rs : List Rul) (p : ByteArray) : Int :=
  if checkR (rs.map bareN) = 0 then (if ignF p = true ∧ rs.all (fun r => sideOk r.left && sideOk r.right) = true then 0 else 8) else checkR (rs.map bareN)
def askedF (ms : List Mod) (i : Int) (p : ByteArray) : Int :=
  if checkF ms = 0 then (if 0 ≤ i ∧ i < ms.length ∧ brkB (nameAt ms i.toNat) = false then (if ignF p = true then 0 else 8) else 2) else checkF ms
def sideF (f : Nat → Int) (ms : List Mod) (i : Int) (p : ByteArray) : Int × Int := if askedF ms i p = 0 then (f i.toNat, 0) else (0, askedF ms i p)
/-- is there a neighbour with a name, or is none asked for? -/
def atB (ms : List Mod) (k : Int) (c : Int) : Bool := c == 0 || (decide (0 ≤ k) && nameAt ms k.toNat == c)
def fitC (p : ByteArray) (ms : List Mod) (i : Nat) (r : Rul) : Bool :=
  fitsF r (ms.getD i ⟨0, []⟩) && atB ms (leftF p ms i) r.left && atB ms (rightF p ms i) r.right
def firstC (q : Rul → Bool) : List Rul → Nat → Int
  | [], _ => -1
  | r :: rs, k => if q r = true then (k : Int) else firstC q rs (k + 1)
def findC (p : ByteArray) (rs : List Rul) (ms : List Mod) (i : Nat) : Int := firstC (fitC p ms i) rs 0
def openC (rs : List Rul) (p : ByteArray) (ms : List Mod) : Int := if checkC rs p = 0 then checkF ms else checkC rs p
def cFindF (rs : List Rul) (p : ByteArray) (ms : List Mod) (i : Int) : Int × Int :=
  if openC rs p ms = 0 then (if 0 ≤ i ∧ i < ms.length then (findC p rs ms i.toNat, 0) else (0, 2)) else (0, openC rs p ms)
end Go.Proofs.Ytpdmjmhiehfkaaa
