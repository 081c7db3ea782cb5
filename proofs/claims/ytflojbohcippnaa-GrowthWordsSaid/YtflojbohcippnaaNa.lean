/-
  Layer 10, plain: names, plain rules, their matrix, counts. No program is named here but for the rules' check.
-/
import Derived.Test.YtflojbohcippnaaFp
import Derived.Test.YtflojbohcippnaaGd
import Derived.Lib.IndexLaws
namespace Go.Proofs.Ytflojbohcippnaa
open Go.RowKit

def bytesI (p : ByteArray) : List Int := p.data.toList.map fun b => (b.toNat : Int)
theorem bytesI_length (p : ByteArray) : (bytesI p).length = p.size := by unfold bytesI; rw [List.length_map]; rfl
theorem drop_bytesI {p : ByteArray} {k : Nat} (h : k < p.size) : (bytesI p).drop k = (p[k].toNat : Int) :: (bytesI p).drop (k + 1) := by
  have hk : k < (bytesI p).length := by rw [bytesI_length]; exact h
  have hk' : k < p.data.toList.length := by simpa using h
  rw [List.drop_eq_getElem_cons hk]
  congr 1
  have h1 : (bytesI p)[k]? = some (p[k].toNat : Int) := by
    unfold bytesI
    rw [List.getElem?_map, List.getElem?_eq_getElem hk']; rfl
  rw [List.getElem?_eq_getElem hk] at h1
  exact Option.some.inj h1
theorem bytesI_fits {p : ByteArray} : ∀ x ∈ bytesI p, 0 ≤ x ∧ x ≤ 255 := by
  intro x hx
  unfold bytesI at hx
  obtain ⟨b, _, rfl⟩ := List.mem_map.1 hx
  have := b.toNat_lt
  omega
theorem byte_fits {p : ByteArray} {k : Nat} (h : k < p.size) : Fits .u8 (p[k].toNat : Int) := fits_u8 (by have := p[k].toNat_lt; omega)

/-- the index of a byte behind place k -/
def atFrom (c : Int) : List Int → Nat → Int
  | [], _ => -1
  | x :: l, k => if x = c then (k : Int) else atFrom c l (k + 1)
def atF (p : ByteArray) (c : Int) : Int := atFrom c (bytesI p) 0
theorem atFrom_cases (c : Int) : ∀ (l : List Int) (k : Nat), (atFrom c l k = -1 ∧ c ∉ l) ∨ ∃ j : Nat, atFrom c l k = (j : Int) ∧ k ≤ j ∧ j < k + l.length ∧ l[j - k]? = some c
  | [], k => .inl ⟨rfl, by simp⟩
  | x :: l, k => by
    unfold atFrom
    by_cases h : x = c
    · rw [if_pos h]
      exact .inr ⟨k, rfl, Nat.le_refl _, by simp, by simp [h]⟩
    · rw [if_neg h]
      rcases atFrom_cases c l (k + 1) with ⟨h1, h2⟩ | ⟨j, h1, h2, h3, h4⟩
      · exact .inl ⟨h1, by simp [Ne.symm h, h2]⟩
      · refine .inr ⟨j, h1, by omega, by simp; omega, ?_⟩
        rw [show j - k = (j - (k + 1)) + 1 from by omega, List.getElem?_cons_succ]; exact h4
theorem atF_cases (p : ByteArray) (c : Int) : (atF p c = -1 ∧ c ∉ bytesI p) ∨ ∃ j : Nat, atF p c = (j : Int) ∧ j < p.size ∧ (bytesI p)[j]? = some c := by
  rcases atFrom_cases c (bytesI p) 0 with h | ⟨j, h1, _, h3, h4⟩
  · exact .inl h
  · exact .inr ⟨j, h1, by rw [bytesI_length] at h3; omega, h4⟩
theorem atF_rng (p : ByteArray) (c : Int) : -1 ≤ atF p c ∧ atF p c < p.size := by
  rcases atF_cases p c with ⟨h, _⟩ | ⟨j, h, h1, _⟩ <;> omega
theorem indexByte_atFrom (c : UInt8) : ∀ (l : List UInt8) (k : Nat), atFrom (c.toNat : Int) (l.map fun b => (b.toNat : Int)) k = if Lib.indexByte l c = -1 then -1 else Lib.indexByte l c + k
  | [], k => by simp [atFrom, Lib.indexByte]
  | b :: l, k => by
    have ih := indexByte_atFrom c l (k + 1)
    have hge := Lib.indexByte_ge l c
    rw [List.map_cons]
    unfold atFrom Lib.indexByte
    by_cases h : b = c
    · subst h; simp
    · have h1 : ¬ ((b.toNat : Int) = (c.toNat : Int)) := fun e => h (UInt8.toNat_inj.1 (by omega))
      have h2 : (b == c) = false := by simp [h]
      rw [if_neg h1, ih, h2]
      by_cases h3 : Lib.indexByte l c = -1
      · simp [h3]
      · have h4 : (Lib.indexByte l c == -1) = false := by simp [h3]
        rw [if_neg h3, h4]
        simp only [Bool.false_eq_true, if_false]
        rw [if_neg (by omega)]; omega
theorem indexByte_atF (p : ByteArray) {c : Int} (h0 : 0 ≤ c) (h1 : c ≤ 255) : Lib.indexByte p.data.toList c.toNat.toUInt8 = atF p c := by
  have h := indexByte_atFrom c.toNat.toUInt8 p.data.toList 0
  have hc : ((c.toNat.toUInt8).toNat : Int) = c := by
    rw [show (c.toNat.toUInt8).toNat = c.toNat % 256 from rfl]; omega
  rw [hc] at h
  unfold atF bytesI
  rw [h]
  split
  · assumption
  · omega
theorem atFrom_append (c : Int) : ∀ (l r : List Int) (k : Nat), atFrom c (l ++ r) k < 0 ↔ atFrom c l k < 0 ∧ atFrom c r (k + l.length) < 0
  | [], r, k => by simp [atFrom]
  | x :: l, r, k => by
    have h1 : atFrom c (x :: l ++ r) k = if x = c then (k : Int) else atFrom c (l ++ r) (k + 1) := rfl
    have h2 : atFrom c (x :: l) k = if x = c then (k : Int) else atFrom c l (k + 1) := rfl
    rw [h1, h2]
    by_cases h : x = c
    · rw [if_pos h, if_pos h]; omega
    · rw [if_neg h, if_neg h, atFrom_append c l r (k + 1), List.length_cons, show k + 1 + l.length = k + (l.length + 1) from by omega]
theorem bytesI_append (p q : ByteArray) : bytesI (p ++ q) = bytesI p ++ bytesI q := by
  unfold bytesI
  rw [ByteArray.data_append, Array.toList_append, List.map_append]
def brk : ByteArray := ⟨#[91, 93]⟩
theorem atF_brk (p : ByteArray) (c : Int) : atF (p ++ ⟨#[91, 93]⟩) c < 0 ↔ atF p c < 0 ∧ c ≠ 91 ∧ c ≠ 93 := by
  unfold atF
  rw [bytesI_append, atFrom_append]
  refine and_congr Iff.rfl ?_
  show atFrom c [91, 93] _ < 0 ↔ _
  unfold atFrom
  by_cases h : c = 91
  · subst h; simp; try omega
  · rw [if_neg (Ne.symm h)]
    unfold atFrom
    by_cases h2 : c = 93
    · subst h2; simp; try omega
    · rw [if_neg (Ne.symm h2)]; simp [h, h2, atFrom]

def namedFrom (p : ByteArray) : List Int → Nat → Bool
  | [], _ => true
  | x :: l, k => letterB x && (x != 91) && (x != 93) && decide ((k : Int) ≤ atF p x) && namedFrom p l (k + 1)
def namedF (p : ByteArray) : Bool := namedFrom p (bytesI p) 0
def plainS (p : ByteArray) (s : Shp) : Bool := s.args.length == 0 && (s.name == 91 || s.name == 93 || decide (0 ≤ atF p s.name))
def plainF (p : ByteArray) (r : Rul) : Bool := r.arity == 0 && r.guards.length == 0 && decide (0 ≤ atF p r.name) && r.out.all (plainS p)
def checkG (rs : List Rul) (p : ByteArray) : Int :=
  if checkR rs = 0 then (if 12 < p.size then 4 else if namedF p = true ∧ rs.all (plainF p) = true then 0 else 8) else checkR rs
theorem checkG_rules {rs : List Rul} {p : ByteArray} (h : ¬ checkR rs = 0) : checkG rs p = checkR rs := by unfold checkG; rw [if_neg h]
theorem checkG_many {rs : List Rul} {p : ByteArray} (h : checkR rs = 0) (h' : 12 < p.size) : checkG rs p = 4 := by unfold checkG; rw [if_pos h, if_pos h']
theorem checkG_bad {rs : List Rul} {p : ByteArray} (h : checkR rs = 0) (h' : ¬ 12 < p.size) (h2 : namedF p = false ∨ rs.all (plainF p) = false) : checkG rs p = 8 := by
  unfold checkG; rw [if_pos h, if_neg h', if_neg (by rintro ⟨a, b⟩; rcases h2 with h2 | h2 <;> simp_all)]
theorem checkG_ok {rs : List Rul} {p : ByteArray} (h : checkR rs = 0) (h' : ¬ 12 < p.size) (h2 : namedF p = true) (h3 : rs.all (plainF p) = true) : checkG rs p = 0 := by
  unfold checkG; rw [if_pos h, if_neg h', if_pos ⟨h2, h3⟩]
theorem checkG_zero {rs : List Rul} {p : ByteArray} (h : checkG rs p = 0) : checkR rs = 0 ∧ p.size ≤ 12 ∧ namedF p = true ∧ rs.all (plainF p) = true := by
  unfold checkG at h
  split at h
  · rename_i h1
    split at h
    · cases h
    · split at h
      · rename_i h2 h3; exact ⟨h1, by omega, h3.1, h3.2⟩
      · cases h
  · rename_i h1; exact absurd h h1
theorem checkG_vals (rs : List Rul) (p : ByteArray) : checkG rs p = 0 ∨ checkG rs p = 4 ∨ checkG rs p = 8 := by
  by_cases h : checkR rs = 0
  · by_cases h3 : 12 < p.size
    · exact .inr (.inl (checkG_many h h3))
    · cases h4 : namedF p
      · exact .inr (.inr (checkG_bad h h3 (.inl h4)))
      · cases h5 : rs.all (plainF p)
        · exact .inr (.inr (checkG_bad h h3 (.inr h5)))
        · exact .inl (checkG_ok h h3 h4 h5)
  · rw [checkG_rules h]
    unfold checkR
    split
    · exact .inr (.inl rfl)
    · split
      · exact .inl rfl
      · exact .inr (.inr rfl)

theorem namedFrom_mem {p : ByteArray} : ∀ {l : List Int} {k : Nat}, namedFrom p l k = true → ∀ c ∈ l, letterB c = true ∧ c ≠ 91 ∧ c ≠ 93
  | [], _, _, c, hc => by simp at hc
  | x :: l, k, h, c, hc => by
    unfold namedFrom at h
    simp only [Bool.and_eq_true, bne_iff_ne] at h
    rcases List.mem_cons.1 hc with rfl | hc
    · exact ⟨h.1.1.1.1, h.1.1.1.2, h.1.1.2⟩
    · exact namedFrom_mem h.2 c hc
/-- a bracket is no name -/
theorem atF_bracket {p : ByteArray} (h : namedF p = true) {c : Int} (hc : c = 91 ∨ c = 93) : atF p c = -1 := by
  rcases atF_cases p c with ⟨h1, _⟩ | ⟨j, _, _, h3⟩
  · exact h1
  · have := namedFrom_mem h c (List.mem_of_getElem? h3)
    rcases hc with rfl | rfl
    · exact absurd rfl this.2.1
    · exact absurd rfl this.2.2

/-! ### the matrix -/
/-- how many shapes of a list have the name with an index -/
def tally (p : ByteArray) (ss : List Shp) (k : Nat) : Int := match ss with
  | [] => 0
  | s :: ss => (if atF p s.name = (k : Int) then 1 else 0) + tally p ss k
def rowFn (rs : List Rul) (p : ByteArray) (i : Nat) (c : Int) (k : Nat) : Int := match rs.find? (fun r => r.name == c) with
  | none => if k = i then 1 else 0
  | some r => tally p r.out k
def rowsFn (rs : List Rul) (p : ByteArray) (i : Nat) (k : Nat) : Int := rowFn rs p i ((bytesI p).getD i 0) k
def rowsF (rs : List Rul) (p : ByteArray) : List (List Int) := (List.range p.size).map fun i => (List.range p.size).map (rowsFn rs p i)
theorem tally_bd (p : ByteArray) (k : Nat) : ∀ ss : List Shp, 0 ≤ tally p ss k ∧ tally p ss k ≤ ss.length
  | [] => ⟨Int.le_refl _, Int.le_refl _⟩
  | s :: ss => by
    have := tally_bd p k ss
    unfold tally; rw [List.length_cons]; push_cast
    split <;> omega
theorem tally_append (p : ByteArray) (k : Nat) : ∀ ss ts : List Shp, tally p (ss ++ ts) k = tally p ss k + tally p ts k
  | [], ts => by simp [tally]
  | s :: ss, ts => by
    rw [List.cons_append]
    conv => lhs; unfold tally
    conv => rhs; lhs; unfold tally
    rw [tally_append p k ss ts]; omega
theorem rowsF_length (rs : List Rul) (p : ByteArray) : (rowsF rs p).length = p.size := by unfold rowsF; simp

/-! ### counts -/
def vecFn (p : ByteArray) (ms : List Mod) (k : Nat) : Int := match ms with
  | [] => 0
  | m :: ms => (if atF p m.name = (k : Int) then 1 else 0) + vecFn p ms k
theorem vecFn_bd (p : ByteArray) (k : Nat) : ∀ ms : List Mod, 0 ≤ vecFn p ms k ∧ vecFn p ms k ≤ ms.length
  | [] => ⟨Int.le_refl _, Int.le_refl _⟩
  | s :: ss => by
    have := vecFn_bd p k ss
    unfold vecFn; rw [List.length_cons]; push_cast
    split <;> omega
theorem vecFn_append (p : ByteArray) (k : Nat) : ∀ ss ts : List Mod, vecFn p (ss ++ ts) k = vecFn p ss k + vecFn p ts k
  | [], ts => by simp [vecFn]
  | s :: ss, ts => by
    rw [List.cons_append]
    conv => lhs; unfold vecFn
    conv => rhs; lhs; unfold vecFn
    rw [vecFn_append p k ss ts]; omega
def goodM (p : ByteArray) (m : Mod) : Bool := m.name == 91 || m.name == 93 || (decide (0 ≤ atF p m.name) && m.args.length == 0)
def vecF (p : ByteArray) (ms : List Mod) : List Int := (List.range p.size).map (vecFn p ms)
def iterF (m : List (List Int)) : Nat → List Int → Option (List Int)
  | 0, x => some x
  | n + 1, x => (prodRow x m).bind (iterF m n)
def countsF (rs : List Rul) (p : ByteArray) (ms : List Mod) (n : Int) : List Int × Int :=
  if checkG rs p = 0 then (if checkF ms = 0 then (if ms.all (goodM p) = true then (if n < 0 ∨ 60 < n then ([], 2) else match iterF (rowsF rs p) n.toNat (vecF p ms) with
    | none => ([], 16)
    | some x => (x, 0)) else ([], 8)) else ([], checkF ms)) else ([], checkG rs p)
def sumF (l : List Int) : Int := l.foldr (· + ·) 0
def lengthF (rs : List Rul) (p : ByteArray) (ms : List Mod) (n : Int) : Int × Int :=
  if (countsF rs p ms n).2 = 0 then (if 1000000000000000 < sumF (countsF rs p ms n).1 then (0, 16) else (sumF (countsF rs p ms n).1, 0)) else (0, (countsF rs p ms n).2)

theorem prodRow_length {x : List Int} {m : List (List Int)} {r : List Int} (h : prodRow x m = some r) : r.length = m.length := by
  unfold prodRow at h
  split at h
  · cases h; simp
  · cases h
theorem prodRow_pos {x : List Int} {m : List (List Int)} {r : List Int} (hx : Pos x) (hm : ∀ r ∈ m, Pos r) (h : prodRow x m = some r) : Pos r := by
  unfold prodRow at h
  split at h
  · rename_i ha
    cases h
    intro v hv
    obtain ⟨k, hk, rfl⟩ := List.mem_map.1 hv
    rw [List.all_eq_true] at ha
    exact ⟨dot_nonneg hx hm k _, by simpa using ha k hk⟩
  · cases h
theorem rowsF_pos {rs : List Rul} (p : ByteArray) (h : ∀ r ∈ rs, r.out.length ≤ 30) : ∀ r ∈ rowsF rs p, Pos r := by
  intro r hr v hv
  unfold rowsF at hr
  obtain ⟨i, _, rfl⟩ := List.mem_map.1 hr
  obtain ⟨k, _, rfl⟩ := List.mem_map.1 hv
  unfold rowsFn rowFn
  cases hf : rs.find? (fun r => r.name == (bytesI p).getD i 0) with
  | none => dsimp only; split <;> omega
  | some r =>
    have h1 := tally_bd p k r.out
    have h2 := h r (List.mem_of_find?_eq_some hf)
    dsimp only; omega
theorem rowsF_rows {rs : List Rul} {p : ByteArray} : ∀ r ∈ rowsF rs p, r.length = (rowsF rs p).length := by
  intro r hr
  rw [rowsF_length]
  unfold rowsF at hr
  obtain ⟨i, _, rfl⟩ := List.mem_map.1 hr
  simp
theorem vecF_pos {p : ByteArray} {ms : List Mod} (h : ms.length ≤ 10000) : Pos (vecF p ms) := by
  intro v hv
  unfold vecF at hv
  obtain ⟨k, _, rfl⟩ := List.mem_map.1 hv
  have := vecFn_bd p k ms
  omega
theorem iterF_succ (m : List (List Int)) : ∀ (n : Nat) (x : List Int), iterF m (n + 1) x = (iterF m n x).bind (prodRow · m)
  | 0, x => by cases h : prodRow x m <;> simp [iterF, h]
  | n + 1, x => by
    rw [iterF]
    cases h : prodRow x m with
    | none => simp [iterF, h]
    | some y => rw [Option.bind_some, iterF_succ m n y]; simp [iterF, h]
end Go.Proofs.Ytflojbohcippnaa
