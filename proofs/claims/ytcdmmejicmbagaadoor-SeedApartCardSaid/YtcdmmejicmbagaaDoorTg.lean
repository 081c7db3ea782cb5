/-
  Layer 5, plain: Of is one to one in the seed, and in each byte of the path.
-/
import Derived.Test.YtcdmmejicmbagaaDoorSa
import Derived.Laws.Bits64
namespace Go.Proofs.YtcdmmejicmbagaaDoor
open Go.RowKit
set_option linter.unusedVariables false

def Mw : Nat := 18446744073709551616
theorem mul_inj {C D x y : Nat} (hD : C * D % 18446744073709551616 = 1) (hx : x < 18446744073709551616) (hy : y < 18446744073709551616) (h : x * C % 18446744073709551616 = y * C % 18446744073709551616) : x = y := by
  have key : ∀ z, z < 18446744073709551616 → z * C % 18446744073709551616 * D % 18446744073709551616 = z := fun z hz => by
    rw [Nat.mul_mod, Nat.mod_mod, ← Nat.mul_mod, Nat.mul_assoc, Nat.mul_mod, hD, Nat.mul_one, Nat.mod_mod]
    exact Nat.mod_eq_of_lt hz
  rw [← key x hx, ← key y hy, h]
theorem xor_back (a b : Nat) : (a ^^^ b) ^^^ b = a := by rw [Nat.xor_assoc, Nat.xor_self, Nat.xor_zero]
theorem xor_inj {a b c : Nat} (h : a ^^^ c = b ^^^ c) : a = b := by rw [← xor_back a c, h, xor_back]
theorem xor_inj' {a b c : Nat} (h : c ^^^ a = c ^^^ b) : a = b := by
  rw [Nat.xor_comm c a, Nat.xor_comm c b] at h; exact xor_inj h
theorem xorshift_inj {x y k : Nat} (hk : 0 < k) (h : x ^^^ x / 2 ^ k = y ^^^ y / 2 ^ k) : x = y := by
  have h1 : x ^^^ y = (x ^^^ y) / 2 ^ k := by
    rw [← Nat.shiftRight_eq_div_pow, Nat.shiftRight_xor_distrib, Nat.shiftRight_eq_div_pow, Nat.shiftRight_eq_div_pow]
    have h2 : (x ^^^ x / 2 ^ k) ^^^ (y ^^^ x / 2 ^ k) = (y ^^^ y / 2 ^ k) ^^^ (y ^^^ x / 2 ^ k) := by rw [h]
    have e1 : (x ^^^ x / 2 ^ k) ^^^ (y ^^^ x / 2 ^ k) = x ^^^ y := by
      rw [Nat.xor_comm y, Nat.xor_assoc, ← Nat.xor_assoc (x / 2 ^ k), Nat.xor_self, Nat.zero_xor]
    have e2 : (y ^^^ y / 2 ^ k) ^^^ (y ^^^ x / 2 ^ k) = x / 2 ^ k ^^^ y / 2 ^ k := by
      rw [Nat.xor_comm y (y / 2 ^ k), Nat.xor_assoc, ← Nat.xor_assoc y, Nat.xor_self, Nat.zero_xor, Nat.xor_comm]
    rw [e1, e2] at h2
    exact h2
  have h3 : x ^^^ y = 0 := by
    rcases Nat.eq_zero_or_pos (x ^^^ y) with h0 | h0
    · exact h0
    · have : (x ^^^ y) / 2 ^ k < x ^^^ y := Nat.div_lt_self h0 (Nat.one_lt_two_pow (by omega))
      omega
  have := xor_back x y
  rw [h3, Nat.zero_xor] at this
  exact this.symm
def stepN (h b : Nat) : Nat := (h ^^^ b) * 1099511628211 % 18446744073709551616
theorem ofStep_nat (H : Nat) (b : UInt8) (hH : H < 18446744073709551616) : ofStep (H : Int) b = (stepN H b.toNat : Int) := by
  have hb : b.toNat < 256 := b.toNat_lt
  have hw : IntKind.u64.wrap (b.toNat : Int) = (b.toNat : Int) := by rw [IntKind.wrap_u64]; omega
  unfold ofStep
  rw [hw, bits_xor_u64_nat H b.toNat hH (by omega), IntKind.wrap_u64]
  unfold stepN
  rw [Int.natCast_emod, Int.natCast_mul]
  rfl
theorem stepN_lt (h b : Nat) : stepN h b < 18446744073709551616 := Nat.mod_lt _ (by omega)
theorem stepN_lt' {h b : Nat} (hh : h < 18446744073709551616) (hb : b < 18446744073709551616) : h ^^^ b < 18446744073709551616 := Nat.xor_lt_two_pow (n := 64) hh hb
theorem stepN_inj {h h' b : Nat} (hb : b < 256) (h1 : h < 18446744073709551616) (h2 : h' < 18446744073709551616) (e : stepN h b = stepN h' b) : h = h' :=
  xor_inj (mul_inj (C := 1099511628211) (D := 14886173955864302971) (by decide) (stepN_lt' h1 (by omega)) (stepN_lt' h2 (by omega)) e)
theorem stepN_inj' {h b c : Nat} (hb : b < 256) (hc : c < 256) (h1 : h < 18446744073709551616) (e : stepN h b = stepN h c) : b = c :=
  xor_inj' (mul_inj (C := 1099511628211) (D := 14886173955864302971) (by decide) (stepN_lt' h1 (by omega)) (stepN_lt' h1 (by omega)) e)
def foldN (l : List UInt8) (h : Nat) : Nat := l.foldl (fun h b => stepN h b.toNat) h
theorem foldN_nil (h : Nat) : foldN [] h = h := rfl
theorem foldN_cons (b : UInt8) (l : List UInt8) (h : Nat) : foldN (b :: l) h = foldN l (stepN h b.toNat) := by simp only [foldN, List.foldl_cons]
theorem foldN_lt (l : List UInt8) : ∀ (h : Nat), h < 18446744073709551616 → foldN l h < 18446744073709551616 := by
  induction l with
  | nil => intro h hh; rw [foldN_nil]; exact hh
  | cons b l ih => intro h _; rw [foldN_cons]; exact ih _ (stepN_lt h b.toNat)
theorem foldN_inj (l : List UInt8) : ∀ (h h' : Nat), h < 18446744073709551616 → h' < 18446744073709551616 → foldN l h = foldN l h' → h = h' := by
  induction l with
  | nil => intro h h' _ _ e; rw [foldN_nil, foldN_nil] at e; exact e
  | cons b l ih =>
    intro h h' h1 h2 e
    rw [foldN_cons, foldN_cons] at e
    exact stepN_inj b.toNat_lt h1 h2 (ih _ _ (stepN_lt h b.toNat) (stepN_lt h' b.toNat) e)
theorem fold_nat (l : List UInt8) : ∀ (H : Nat), H < 18446744073709551616 → l.foldl ofStep (H : Int) = (foldN l H : Int) := by
  induction l with
  | nil => intro H _; rw [foldN_nil]; rfl
  | cons b l ih => intro H h; rw [List.foldl_cons, ofStep_nat H b h, foldN_cons]; exact ih _ (stepN_lt H b.toNat)
def startN (s : Int) : Nat := (s % 18446744073709551616).toNat ^^^ 11400714819323198485
theorem ofStart_nat (s : Int) : ofStart s = (startN s : Int) ∧ startN s < 18446744073709551616 := by
  obtain ⟨N, hN⟩ : ∃ N : Nat, s % 18446744073709551616 = (N : Int) := ⟨(s % 18446744073709551616).toNat, by omega⟩
  have hlt : N < 18446744073709551616 := by omega
  have h2 : startN s = N ^^^ 11400714819323198485 := by unfold startN; rw [hN]; rfl
  rw [h2]
  refine ⟨?_, stepN_lt' hlt (by omega)⟩
  unfold ofStart
  rw [IntKind.wrap_u64, hN]
  exact bits_xor_u64_nat N 11400714819323198485 hlt (by omega)
theorem startN_inj {s t : Int} (hs : -9223372036854775808 ≤ s ∧ s ≤ 9223372036854775807) (ht : -9223372036854775808 ≤ t ∧ t ≤ 9223372036854775807) (h : startN s = startN t) : s = t := by
  have := xor_inj h
  omega
def mixN (k C x : Nat) : Nat := (x ^^^ x / 2 ^ k) * C % 18446744073709551616
def endN (x : Nat) : Nat := mixN 27 10723151780598845931 (mixN 30 13787848793156543929 x) ^^^ mixN 27 10723151780598845931 (mixN 30 13787848793156543929 x) / 2 ^ 31
theorem mixN_lt (k C x : Nat) : mixN k C x < 18446744073709551616 := Nat.mod_lt _ (by omega)
theorem mixN_inj {k C D x y : Nat} (hk : 0 < k) (hD : C * D % 18446744073709551616 = 1) (hx : x < 18446744073709551616) (hy : y < 18446744073709551616) (h : mixN k C x = mixN k C y) : x = y := by
  have hl : ∀ z : Nat, z < 18446744073709551616 → z ^^^ z / 2 ^ k < 18446744073709551616 := fun z hz => stepN_lt' hz (Nat.lt_of_le_of_lt (Nat.div_le_self _ _) hz)
  exact xorshift_inj hk (mul_inj hD (hl x hx) (hl y hy) h)
theorem endN_inj {x y : Nat} (hx : x < 18446744073709551616) (hy : y < 18446744073709551616) (h : endN x = endN y) : x = y :=
  mixN_inj (k := 30) (C := 13787848793156543929) (D := 10871156337175269513) (by omega) (by decide) hx hy (mixN_inj (k := 27) (C := 10723151780598845931) (D := 3573116690164977347) (by omega) (by decide) (mixN_lt _ _ _) (mixN_lt _ _ _) (xorshift_inj (k := 31) (by omega) h))
theorem ofEnd_nat (X : Nat) (hX : X < 18446744073709551616) : ofEnd (X : Int) = (endN X : Int) := by
  have e1 := mixStep_u64 X 1073741824 13787848793156543929 hX
  have e2 := mixStep_u64 (mixN 30 13787848793156543929 X) 134217728 10723151780598845931 (mixN_lt _ _ _)
  have e3 := xorShift_u64 (mixN 27 10723151780598845931 (mixN 30 13787848793156543929 X)) 2147483648 (mixN_lt _ _ _)
  have a1 : IntKind.u64.wrap (bits .xor .u64 (X : Int) ((X : Int) / 1073741824) * 13787848793156543929) = (mixN 30 13787848793156543929 X : Int) := e1
  have a2 : IntKind.u64.wrap (bits .xor .u64 (mixN 30 13787848793156543929 X : Int) ((mixN 30 13787848793156543929 X : Int) / 134217728) * 10723151780598845931) = (mixN 27 10723151780598845931 (mixN 30 13787848793156543929 X) : Int) := e2
  unfold ofEnd
  rw [a1, a2]
  exact e3
theorem ofF_nat (s : Int) (p : ByteArray) : ofF s p = (endN (foldN p.data.toList (startN s)) : Int) ∧ foldN p.data.toList (startN s) < 18446744073709551616 := by
  have h := ofStart_nat s
  have hl := foldN_lt p.data.toList _ h.2
  refine ⟨?_, hl⟩
  unfold ofF ofFold
  rw [h.1, fold_nat _ _ h.2, ofEnd_nat _ hl]
/-- different seeds, different numbers -/
theorem of_seed {s t : Int} (p : ByteArray) (hs : -9223372036854775808 ≤ s ∧ s ≤ 9223372036854775807) (ht : -9223372036854775808 ≤ t ∧ t ≤ 9223372036854775807) : ofF s p = ofF t p ↔ s = t := by
  refine ⟨fun h => ?_, fun h => by rw [h]⟩
  rw [(ofF_nat s p).1, (ofF_nat t p).1] at h
  have h1 := endN_inj (ofF_nat s p).2 (ofF_nat t p).2 (by omega)
  exact startN_inj hs ht (foldN_inj _ _ _ (ofStart_nat s).2 (ofStart_nat t).2 h1)
/-- paths that differ in one byte, different numbers -/
theorem of_path {s : Int} {p q : ByteArray} {l r : List UInt8} {a b : UInt8} (hp : p.data.toList = l ++ a :: r) (hq : q.data.toList = l ++ b :: r) : ofF s p = ofF s q ↔ a = b := by
  constructor
  · intro h
    rw [(ofF_nat s p).1, (ofF_nat s q).1] at h
    have h1 := endN_inj (ofF_nat s p).2 (ofF_nat s q).2 (by omega)
    rw [hp, hq] at h1
    have h2 : ∀ c : UInt8, foldN (l ++ c :: r) (startN s) = foldN r (stepN (foldN l (startN s)) c.toNat) := fun c => by unfold foldN; rw [List.foldl_append, List.foldl_cons]
    rw [h2, h2] at h1
    have h3 := stepN_inj' a.toNat_lt b.toNat_lt (foldN_lt l _ (ofStart_nat s).2) (foldN_inj r _ _ (stepN_lt _ _) (stepN_lt _ _) h1)
    exact UInt8.toNat_inj.1 h3
  · intro h
    subst h
    have : p = q := by
      obtain ⟨⟨pl⟩⟩ := p
      obtain ⟨⟨ql⟩⟩ := q
      simp only at hp hq
      rw [hp, hq]
    rw [this]
end Go.Proofs.YtcdmmejicmbagaaDoor
