/-
  Strings as lists of bytes; the index of a byte, and strings.IndexByte's contract in its words.
-/
import Derived.Test.YtpdmjmhiehfkaaaWa
import Derived.Lib.IndexLaws
namespace Go.Proofs.Ytpdmjmhiehfkaaa
open Go.RowKit

def bytesI (p : ByteArray) : List Int := p.data.toList.map fun b => (b.toNat : Int)
theorem bytesI_length (p : ByteArray) : (bytesI p).length = p.size := by unfold bytesI; rw [List.length_map]; rfl
theorem drop_bytesI {p : ByteArray} {k : Nat} (h : k < p.size) : (bytesI p).drop k = (p[k].toNat : Int) :: (bytesI p).drop (k + 1) := by
  have hk : k < (bytesI p).length := by rw [bytesI_length]; exact h
  have hk' : k < p.data.toList.length := by simpa using h
  rw [List.drop_eq_getElem_cons hk]
  congr 1
  have h1 : (bytesI p)[k]? = some (p[k].toNat : Int) := by
    unfold bytesI
    rw [List.getElem?_map, List.getElem?_eq_getElem hk']; rfl
  rw [List.getElem?_eq_getElem hk] at h1
  exact Option.some.inj h1
theorem bytesI_fits {p : ByteArray} : ∀ x ∈ bytesI p, 0 ≤ x ∧ x ≤ 255 := by
  intro x hx
  unfold bytesI at hx
  obtain ⟨b, _, rfl⟩ := List.mem_map.1 hx
  have := b.toNat_lt
  omega
theorem byte_fits {p : ByteArray} {k : Nat} (h : k < p.size) : Fits .u8 (p[k].toNat : Int) := fits_u8 (by have := p[k].toNat_lt; omega)

/-- the index of a byte behind place k -/
def atFrom (c : Int) : List Int → Nat → Int
  | [], _ => -1
  | x :: l, k => if x = c then (k : Int) else atFrom c l (k + 1)
def atF (p : ByteArray) (c : Int) : Int := atFrom c (bytesI p) 0
theorem atFrom_cases (c : Int) : ∀ (l : List Int) (k : Nat), (atFrom c l k = -1 ∧ c ∉ l) ∨ ∃ j : Nat, atFrom c l k = (j : Int) ∧ k ≤ j ∧ j < k + l.length ∧ l[j - k]? = some c
  | [], k => .inl ⟨rfl, by simp⟩
  | x :: l, k => by
    unfold atFrom
    by_cases h : x = c
    · rw [if_pos h]
      exact .inr ⟨k, rfl, Nat.le_refl _, by simp, by simp [h]⟩
    · rw [if_neg h]
      rcases atFrom_cases c l (k + 1) with ⟨h1, h2⟩ | ⟨j, h1, h2, h3, h4⟩
      · exact .inl ⟨h1, by simp [Ne.symm h, h2]⟩
      · refine .inr ⟨j, h1, by omega, by simp; omega, ?_⟩
        rw [show j - k = (j - (k + 1)) + 1 from by omega, List.getElem?_cons_succ]; exact h4
theorem atF_cases (p : ByteArray) (c : Int) : (atF p c = -1 ∧ c ∉ bytesI p) ∨ ∃ j : Nat, atF p c = (j : Int) ∧ j < p.size ∧ (bytesI p)[j]? = some c := by
  rcases atFrom_cases c (bytesI p) 0 with h | ⟨j, h1, _, h3, h4⟩
  · exact .inl h
  · exact .inr ⟨j, h1, by rw [bytesI_length] at h3; omega, h4⟩
theorem atF_rng (p : ByteArray) (c : Int) : -1 ≤ atF p c ∧ atF p c < p.size := by
  rcases atF_cases p c with ⟨h, _⟩ | ⟨j, h, h1, _⟩ <;> omega
theorem indexByte_atFrom (c : UInt8) : ∀ (l : List UInt8) (k : Nat), atFrom (c.toNat : Int) (l.map fun b => (b.toNat : Int)) k = if Lib.indexByte l c = -1 then -1 else Lib.indexByte l c + k
  | [], k => by simp [atFrom, Lib.indexByte]
  | b :: l, k => by
    have ih := indexByte_atFrom c l (k + 1)
    have hge := Lib.indexByte_ge l c
    rw [List.map_cons]
    unfold atFrom Lib.indexByte
    by_cases h : b = c
    · subst h; simp
    · have h1 : ¬ ((b.toNat : Int) = (c.toNat : Int)) := fun e => h (UInt8.toNat_inj.1 (by omega))
      have h2 : (b == c) = false := by simp [h]
      rw [if_neg h1, ih, h2]
      by_cases h3 : Lib.indexByte l c = -1
      · simp [h3]
      · have h4 : (Lib.indexByte l c == -1) = false := by simp [h3]
        rw [if_neg h3, h4]
        simp only [Bool.false_eq_true, if_false]
        rw [if_neg (by omega)]; omega
theorem indexByte_atF (p : ByteArray) {c : Int} (h0 : 0 ≤ c) (h1 : c ≤ 255) : Lib.indexByte p.data.toList c.toNat.toUInt8 = atF p c := by
  have h := indexByte_atFrom c.toNat.toUInt8 p.data.toList 0
  have hc : ((c.toNat.toUInt8).toNat : Int) = c := by
    rw [show (c.toNat.toUInt8).toNat = c.toNat % 256 from rfl]; omega
  rw [hc] at h
  unfold atF bytesI
  rw [h]
  split
  · assumption
  · omega
theorem atFrom_append (c : Int) : ∀ (l r : List Int) (k : Nat), atFrom c (l ++ r) k < 0 ↔ atFrom c l k < 0 ∧ atFrom c r (k + l.length) < 0
  | [], r, k => by simp [atFrom]
  | x :: l, r, k => by
    have h1 : atFrom c (x :: l ++ r) k = if x = c then (k : Int) else atFrom c (l ++ r) (k + 1) := rfl
    have h2 : atFrom c (x :: l) k = if x = c then (k : Int) else atFrom c l (k + 1) := rfl
    rw [h1, h2]
    by_cases h : x = c
    · rw [if_pos h, if_pos h]; omega
    · rw [if_neg h, if_neg h, atFrom_append c l r (k + 1), List.length_cons, show k + 1 + l.length = k + (l.length + 1) from by omega]
theorem bytesI_append (p q : ByteArray) : bytesI (p ++ q) = bytesI p ++ bytesI q := by
  unfold bytesI
  rw [ByteArray.data_append, Array.toList_append, List.map_append]
theorem ixb_calls (p : ByteArray) (c : Int) (w : World) (hc : Fits .u8 c) : Calls Try.prog 43 #[.string p, .int .u8 c] w fun e w' => e = .returned (.int .i64 (atF p c)) ∧ w = w' := by
  have h := indexByte_calls p c w
  rwa [indexByte_atF p hc.u8.1 hc.u8.2] at h

end Go.Proofs.Ytpdmjmhiehfkaaa
