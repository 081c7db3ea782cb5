/-
  Layer 9: how cells of words (a path, a module) lie in cells; the shape of a path.
-/
import Derived.Test.YtlipmagkplbkdaaDoorOp
import Derived.Test.YtlipmagkplbkdaaDoorOwn
import Derived.Lib.SlTrimSet
namespace Go.Proofs.YtlipmagkplbkdaaDoor
open Go.RowKit

structure Cel where
  path : ByteArray
  mod : Mod
  deriving DecidableEq, Inhabited

def pCel : Rp Cel where
  n := 3
  R F w cs x := ∃ A c, cs = [.string x.path, .int .u8 x.mod.name, .slice A x.mod.args.length c] ∧ x.path.size ≤ maxLen ∧ Fits .u8 x.mod.name ∧ SlAt (pI .i64) F w A c x.mod.args
  len := by rintro F w cs x ⟨A, c, rfl, _⟩; rfl
  keep := by rintro F w w' cs x ⟨A, c, rfl, h0, h1, h2⟩ k; exact ⟨A, c, rfl, h0, h1, h2.keep k⟩
  wide := by rintro F F' w cs x ⟨A, c, rfl, h0, h1, h2⟩ k; exact ⟨A, c, rfl, h0, h1, h2.wide k⟩
  one := by
    rintro F w cs x ⟨A, c, rfl, _⟩ v hv
    simp at hv; rcases hv with rfl | rfl | rfl <;> rfl

section
variable {F : Nat → Prop} {w : World} {A : Option Addr} {cap : Nat}
theorem SlAt.getCel {xs : List Cel} (h : SlAt pCel F w A cap xs) {i : Nat} (hi : i < xs.length) :
    ∃ b o A' c' m, Hid (xs.drop i = m :: xs.drop (i + 1)) ∧ A = some ⟨b, o, none⟩ ∧ F b ∧ w.cell? ⟨b, o + i * 3, none⟩ = some (.string m.path) ∧ w.cell? ⟨b, o + i * 3 + 1, none⟩ = some (.int .u8 m.mod.name) ∧
      w.cell? ⟨b, o + i * 3 + 2, none⟩ = some (.slice A' m.mod.args.length c') ∧ m.path.size ≤ 9223372036854775807 ∧ Fits .u8 m.mod.name ∧ Hid (SlAt (pI .i64) F w A' c' m.mod.args) ∧ m.mod.args.length ≤ 9223372036854775807 := by
  obtain ⟨b, o, cs, x, h0, h1, h2, ⟨A', c', rfl, hp, h3, h5⟩, h4⟩ := h.get hi
  exact ⟨b, o, A', c', x, h0, h1, h2, by simpa [pCel] using h4 0 _ rfl, by simpa [pCel] using h4 1 _ rfl, by simpa [pCel] using h4 2 _ rfl, by unfold maxLen at hp; omega, h3, h5, h5.lenle.1⟩
end

section
variable {P : Program} {t : TypeId}
def pStr : Rp ByteArray where
  n := 1
  R _ _ cs x := cs = [.string x] ∧ x.size ≤ maxLen
  len := by rintro F w cs x ⟨rfl, _⟩; rfl
  keep := by rintro F w w' cs x h _; exact h
  wide := by rintro F F' w cs x h _; exact h
  one := by rintro F w cs x ⟨rfl, _⟩ v hv; simp at hv; subst hv; rfl
theorem opens_str (ht : P.underlying t = some .string) : Opens P t pStr := by
  intro H enc w fuel cs x h
  obtain ⟨s, rfl, _, hs⟩ := DataW.trod_string ht h
  exact ⟨s, rfl, hs⟩
theorem opens_cel {f0 f1 : Field} (ht : P.underlying t = some (.struct #[f0, f1])) (hc : P.cellsOf t = 3) (h0 : f0.offset = 0 ∧ P.cellsOf f0.type = 1) (h1 : f1.offset = 1 ∧ P.cellsOf f1.type = 2)
    (o0 : Opens P f0.type pStr) (o1 : Opens P f1.type pMod) : Opens P t pCel := by
  intro H enc w fuel cs x h
  obtain ⟨xs, n, rfl, rfl, hl, hlen, hf⟩ := DataW.trod_struct ht h
  rw [hc] at hl
  match cs, hl with
  | [c0, c1, c2], _ =>
    obtain ⟨y0, hy0⟩ := opens_field (f := f0) hlen (i := 0) rfl (hf 0 f0 rfl) o0
    obtain ⟨y1, hy1⟩ := opens_field (f := f1) hlen (i := 1) rfl (hf 1 f1 rfl) o1
    rw [h0.1, h0.2] at hy0
    rw [h1.1, h1.2] at hy1
    obtain ⟨e0, z0⟩ := hy0
    obtain ⟨A, c, e1, z1, s1⟩ := hy1
    simp at e0 e1
    obtain ⟨e1, e2⟩ := e1
    subst e0 e1 e2
    exact ⟨⟨y0, y1⟩, A, c, rfl, z0, z1, s1⟩
end

theorem opens_cell : Opens Tryd.prog 51 pCel := opens_cel Tryd.underlying51 (by kernel_rfl) ⟨rfl, by kernel_rfl⟩ ⟨rfl, by kernel_rfl⟩ (opens_str Tryd.underlying9) opens_mod'
theorem opens_cells : Opens Tryd.prog 26 (pSl pCel) := opens_slice Tryd.underlying26 (by kernel_rfl) (by decide) opens_cell
theorem info_cel : (Tryd.prog.info? 51).map (fun i => (i.zero, i.size, i.bytes)) = some (some (.agg #[.string ByteArray.empty, .int .u8 0, .slice none 0 0]), 3, 48) := by kernel_rfl

/-! ### plain: what the layer's checks compute -/
def pathB (b : UInt8) : Bool := b == 47 || (decide (48 ≤ b.toNat) && decide (b.toNat ≤ 57))
def pathF (s : ByteArray) : Bool := decide (1 ≤ s.size) && decide (s.size ≤ 200) && s.data.toList.all pathB
def greatC (l : List Cel) : Bool := l.any (fun x => decide (300 < x.path.size) || decide (10 < x.mod.args.length)) || decide (2100 < l.length)
def cellsF (chk : List Mod → Int) (l : List Cel) : Int := if 2000 < l.length then 4 else if l.all (fun x => pathF x.path) then chk (l.map (·.mod)) else 8

theorem dropWhile_nil_iff {α : Type} (p : α → Bool) : ∀ l : List α, l.dropWhile p = [] ↔ l.all p = true
  | [] => by simp
  | a :: l => by
    rw [List.dropWhile_cons, List.all_cons]
    cases p a
    · simp
    · simpa using dropWhile_nil_iff p l
theorem trim_nil (l cs : List UInt8) : Lib.trimS l cs = [] ↔ l.all (cs.contains ·) = true := by
  unfold Lib.trimS Lib.trimLeftS Lib.trimRightS
  rw [dropWhile_nil_iff]
  constructor
  · intro h
    have h2 : l.reverse.dropWhile (cs.contains ·) = [] := by
      cases hd : l.reverse.dropWhile (cs.contains ·) with
      | nil => rfl
      | cons a t =>
        exfalso
        have hne := List.head?_dropWhile_not (cs.contains ·) l.reverse
        rw [hd] at hne h
        simp only [List.head?_cons] at hne
        rw [List.all_reverse] at h
        have := List.all_eq_true.1 h a (by simp)
        have hm := List.contains_iff_mem.1 this
        simp at hne
        exact hne hm
    rw [dropWhile_nil_iff, List.all_reverse] at h2
    exact h2
  · intro h
    have h2 : l.reverse.dropWhile (cs.contains ·) = [] := (dropWhile_nil_iff _ _).2 (by rw [List.all_reverse]; exact h)
    rw [h2]; rfl
theorem pathB_contains (b : UInt8) : [47, 48, 49, 50, 51, 52, 53, 54, 55, 56, 57].contains b = pathB b := by
  have h : ∀ n : Fin 256, [47, 48, 49, 50, 51, 52, 53, 54, 55, 56, 57].contains (UInt8.ofNat n.val) = pathB (UInt8.ofNat n.val) := by decide +kernel
  have := h ⟨b.toNat, b.toNat_lt⟩
  simpa using this
end Go.Proofs.YtlipmagkplbkdaaDoor
