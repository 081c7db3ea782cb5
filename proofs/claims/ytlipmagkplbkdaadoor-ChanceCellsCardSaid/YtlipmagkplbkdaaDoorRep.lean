/-
  How modules, forms, shapes and rules lie in cells. No program is named here.
-/
import Derived.Test.YtlipmagkplbkdaaDoorBase
namespace Go.Proofs.YtlipmagkplbkdaaDoor
open Go.RowKit

structure Mod where
  name : Int
  args : List Int
  deriving DecidableEq, Inhabited
structure Frm where
  const : Int
  coefs : List Int
  deriving DecidableEq, Inhabited
structure Shp where
  name : Int
  args : List Frm
  deriving DecidableEq, Inhabited
structure Rul where
  name : Int
  arity : Int
  left : Int
  right : Int
  guards : List Frm
  weight : Int
  out : List Shp
  deriving DecidableEq, Inhabited

def pMod : Rp Mod where
  n := 2
  R F w cs m := ∃ A c, cs = [.int .u8 m.name, .slice A m.args.length c] ∧ Fits .u8 m.name ∧ SlAt (pI .i64) F w A c m.args
  len := by rintro F w cs x ⟨A, c, rfl, _⟩; rfl
  keep := by rintro F w w' cs x ⟨A, c, rfl, h1, h2⟩ k; exact ⟨A, c, rfl, h1, h2.keep k⟩
  wide := by rintro F F' w cs x ⟨A, c, rfl, h1, h2⟩ k; exact ⟨A, c, rfl, h1, h2.wide k⟩
  one := by
    rintro F w cs x ⟨A, c, rfl, _⟩ v hv
    simp at hv; rcases hv with rfl | rfl <;> rfl

def pFrm : Rp Frm where
  n := 2
  R F w cs m := ∃ A c, cs = [.int .i64 m.const, .slice A m.coefs.length c] ∧ Fits .i64 m.const ∧ SlAt (pI .i64) F w A c m.coefs
  len := by rintro F w cs x ⟨A, c, rfl, _⟩; rfl
  keep := by rintro F w w' cs x ⟨A, c, rfl, h1, h2⟩ k; exact ⟨A, c, rfl, h1, h2.keep k⟩
  wide := by rintro F F' w cs x ⟨A, c, rfl, h1, h2⟩ k; exact ⟨A, c, rfl, h1, h2.wide k⟩
  one := by
    rintro F w cs x ⟨A, c, rfl, _⟩ v hv
    simp at hv; rcases hv with rfl | rfl <;> rfl

def pShp : Rp Shp where
  n := 2
  R F w cs m := ∃ A c, cs = [.int .u8 m.name, .slice A m.args.length c] ∧ Fits .u8 m.name ∧ SlAt pFrm F w A c m.args
  len := by rintro F w cs x ⟨A, c, rfl, _⟩; rfl
  keep := by rintro F w w' cs x ⟨A, c, rfl, h1, h2⟩ k; exact ⟨A, c, rfl, h1, h2.keep k⟩
  wide := by rintro F F' w cs x ⟨A, c, rfl, h1, h2⟩ k; exact ⟨A, c, rfl, h1, h2.wide k⟩
  one := by
    rintro F w cs x ⟨A, c, rfl, _⟩ v hv
    simp at hv; rcases hv with rfl | rfl <;> rfl

def pRul : Rp Rul where
  n := 7
  R F w cs m := ∃ A c A' c', cs = [.int .u8 m.name, .int .i64 m.arity, .int .u8 m.left, .int .u8 m.right, .slice A m.guards.length c, .int .i64 m.weight, .slice A' m.out.length c'] ∧
    (Fits .u8 m.name ∧ Fits .i64 m.arity ∧ Fits .u8 m.left ∧ Fits .u8 m.right ∧ Fits .i64 m.weight) ∧ SlAt pFrm F w A c m.guards ∧ SlAt pShp F w A' c' m.out
  len := by rintro F w cs x ⟨A, c, A', c', rfl, _⟩; rfl
  keep := by rintro F w w' cs x ⟨A, c, A', c', rfl, h1, h2, h3⟩ k; exact ⟨A, c, A', c', rfl, h1, h2.keep k, h3.keep k⟩
  wide := by rintro F F' w cs x ⟨A, c, A', c', rfl, h1, h2, h3⟩ k; exact ⟨A, c, A', c', rfl, h1, h2.wide k, h3.wide k⟩
  one := by
    rintro F w cs x ⟨A, c, A', c', rfl, _⟩ v hv
    simp at hv; rcases hv with rfl | rfl | rfl | rfl | rfl | rfl | rfl <;> rfl

/-- a module whose arguments may be written -/
def pModF : Rp Mod where
  n := 2
  R F w cs m := ∃ A c, cs = [.int .u8 m.name, .slice A m.args.length c] ∧ Fits .u8 m.name ∧ SlAt (pI .i64) F w A c m.args ∧ (m.args ≠ [] → ∀ b o, A = some ⟨b, o, none⟩ → Unf w b)
  len := by rintro F w cs x ⟨A, c, rfl, _⟩; rfl
  keep := by
    rintro F w w' cs x ⟨A, c, rfl, h1, h2, h3⟩ k
    refine ⟨A, c, rfl, h1, h2.keep k, fun hne b o hA => unf_same (h3 hne b o hA) ?_⟩
    obtain ⟨b', o', _, _, hA', hF, _⟩ := h2.getI (i := 0) (List.length_pos_iff.2 hne)
    rw [hA] at hA'; cases hA'; exact k _ ‹_›
  wide := by rintro F F' w cs x ⟨A, c, rfl, h1, h2, h3⟩ k; exact ⟨A, c, rfl, h1, h2.wide k, h3⟩
  one := by
    rintro F w cs x ⟨A, c, rfl, _⟩ v hv
    simp at hv; rcases hv with rfl | rfl <;> rfl
theorem slAt_modF {F : Nat → Prop} {w : World} {A : Option Addr} {cap : Nat} {xs : List Mod} (h : SlAt pModF F w A cap xs) : SlAt pMod F w A cap xs :=
  ⟨h.le, h.mx, h.nil, fun i x hx => by
    obtain ⟨b, o, cs, h1, h2, ⟨A', c', h3, h4, h5, _⟩, h6⟩ := h.el i x hx
    exact ⟨b, o, cs, h1, h2, ⟨A', c', h3, h4, h5⟩, h6⟩⟩

section
variable {F : Nat → Prop} {w : World} {A : Option Addr} {cap : Nat}
/-- element i of a word -/
theorem SlAt.getMod {xs : List Mod} (h : SlAt pMod F w A cap xs) {i : Nat} (hi : i < xs.length) :
    ∃ b o A' c' m, Hid (xs.drop i = m :: xs.drop (i + 1)) ∧ A = some ⟨b, o, none⟩ ∧ F b ∧ w.cell? ⟨b, o + i * 2, none⟩ = some (.int .u8 m.name) ∧ w.cell? ⟨b, o + i * 2 + 1, none⟩ = some (.slice A' m.args.length c') ∧
      Fits .u8 m.name ∧ Hid (SlAt (pI .i64) F w A' c' m.args) ∧ m.args.length ≤ 9223372036854775807 := by
  obtain ⟨b, o, cs, x, h0, h1, h2, ⟨A', c', rfl, h3, h5⟩, h4⟩ := h.get hi
  exact ⟨b, o, A', c', x, h0, h1, h2, by simpa [pMod] using h4 0 _ rfl, by simpa [pMod] using h4 1 _ rfl, h3, h5, h5.lenle.1⟩
theorem SlAt.getFrm {xs : List Frm} (h : SlAt pFrm F w A cap xs) {i : Nat} (hi : i < xs.length) :
    ∃ b o A' c' m, Hid (xs.drop i = m :: xs.drop (i + 1)) ∧ A = some ⟨b, o, none⟩ ∧ F b ∧ w.cell? ⟨b, o + i * 2, none⟩ = some (.int .i64 m.const) ∧ w.cell? ⟨b, o + i * 2 + 1, none⟩ = some (.slice A' m.coefs.length c') ∧
      Fits .i64 m.const ∧ Hid (SlAt (pI .i64) F w A' c' m.coefs) ∧ m.coefs.length ≤ 9223372036854775807 := by
  obtain ⟨b, o, cs, x, h0, h1, h2, ⟨A', c', rfl, h3, h5⟩, h4⟩ := h.get hi
  exact ⟨b, o, A', c', x, h0, h1, h2, by simpa [pFrm] using h4 0 _ rfl, by simpa [pFrm] using h4 1 _ rfl, h3, h5, h5.lenle.1⟩
theorem SlAt.getShp {xs : List Shp} (h : SlAt pShp F w A cap xs) {i : Nat} (hi : i < xs.length) :
    ∃ b o A' c' m, Hid (xs.drop i = m :: xs.drop (i + 1)) ∧ A = some ⟨b, o, none⟩ ∧ F b ∧ w.cell? ⟨b, o + i * 2, none⟩ = some (.int .u8 m.name) ∧ w.cell? ⟨b, o + i * 2 + 1, none⟩ = some (.slice A' m.args.length c') ∧
      Fits .u8 m.name ∧ Hid (SlAt pFrm F w A' c' m.args) ∧ m.args.length ≤ 9223372036854775807 := by
  obtain ⟨b, o, cs, x, h0, h1, h2, ⟨A', c', rfl, h3, h5⟩, h4⟩ := h.get hi
  exact ⟨b, o, A', c', x, h0, h1, h2, by simpa [pShp] using h4 0 _ rfl, by simpa [pShp] using h4 1 _ rfl, h3, h5, h5.lenle.1⟩
theorem SlAt.getRul {xs : List Rul} (h : SlAt pRul F w A cap xs) {i : Nat} (hi : i < xs.length) :
    ∃ b o A' c' A'' c'' m, Hid (xs.drop i = m :: xs.drop (i + 1)) ∧ A = some ⟨b, o, none⟩ ∧ F b ∧
      w.cell? ⟨b, o + i * 7, none⟩ = some (.int .u8 m.name) ∧ w.cell? ⟨b, o + i * 7 + 1, none⟩ = some (.int .i64 m.arity) ∧ w.cell? ⟨b, o + i * 7 + 2, none⟩ = some (.int .u8 m.left) ∧ w.cell? ⟨b, o + i * 7 + 3, none⟩ = some (.int .u8 m.right) ∧
      w.cell? ⟨b, o + i * 7 + 4, none⟩ = some (.slice A' m.guards.length c') ∧ w.cell? ⟨b, o + i * 7 + 5, none⟩ = some (.int .i64 m.weight) ∧ w.cell? ⟨b, o + i * 7 + 6, none⟩ = some (.slice A'' m.out.length c'') ∧
      (Fits .u8 m.name ∧ Fits .i64 m.arity ∧ Fits .u8 m.left ∧ Fits .u8 m.right ∧ Fits .i64 m.weight) ∧ Hid (SlAt pFrm F w A' c' m.guards) ∧ Hid (SlAt pShp F w A'' c'' m.out) ∧
      m.guards.length ≤ 9223372036854775807 ∧ m.out.length ≤ 9223372036854775807 := by
  obtain ⟨b, o, cs, x, h0, h1, h2, ⟨A', c', A'', c'', rfl, h3, h5, h6⟩, h4⟩ := h.get hi
  exact ⟨b, o, A', c', A'', c'', x, h0, h1, h2, by simpa [pRul] using h4 0 _ rfl, by simpa [pRul] using h4 1 _ rfl, by simpa [pRul] using h4 2 _ rfl, by simpa [pRul] using h4 3 _ rfl, by simpa [pRul] using h4 4 _ rfl, by simpa [pRul] using h4 5 _ rfl, by simpa [pRul] using h4 6 _ rfl,
    h3, h5, h6, h5.lenle.1, h6.lenle.1⟩
end

section
variable {P : Program} {t : TypeId}
theorem opens_field {H : Type} {enc : TypeId × Value → H} {w : World} {n : Nat} {cs : List Value} {xs : List (DataW H × List MemPlace)} {α : Type} {E : Rp α} {fs : Array Field} (hlen : xs.length = fs.size) {i : Nat} {f : Field} (hf : fs[i]? = some f)
    (h : DataW.trod enc P w 0 (fun _ => true) true n f.type ((cs.drop f.offset).take (P.cellsOf f.type)) = xs[i]?) (hE : Opens P f.type E) : ∃ y, E.R (Old w) w ((cs.drop f.offset).take (P.cellsOf f.type)) y := by
  have hi : i < xs.length := by rw [hlen]; exact (Array.getElem?_eq_some_iff.1 hf).1
  rw [List.getElem?_eq_getElem hi] at h
  exact hE H enc w n _ _ h
theorem opens_mod {f0 f1 : Field} (ht : P.underlying t = some (.struct #[f0, f1])) (hc : P.cellsOf t = 2) (h0 : f0.offset = 0 ∧ P.cellsOf f0.type = 1) (h1 : f1.offset = 1 ∧ P.cellsOf f1.type = 1)
    (o0 : Opens P f0.type (pI .u8)) (o1 : Opens P f1.type (pSl (pI .i64))) : Opens P t pMod := by
  intro H enc w fuel cs x h
  obtain ⟨xs, n, rfl, rfl, hl, hlen, hf⟩ := DataW.trod_struct ht h
  rw [hc] at hl
  match cs, hl with
  | [c0, c1], _ =>
    obtain ⟨y0, hy0⟩ := opens_field (f := f0) hlen (i := 0) rfl (hf 0 f0 rfl) o0
    obtain ⟨y1, hy1⟩ := opens_field (f := f1) hlen (i := 1) rfl (hf 1 f1 rfl) o1
    rw [h0.1, h0.2] at hy0
    rw [h1.1, h1.2] at hy1
    obtain ⟨e0, z0⟩ := hy0
    obtain ⟨A, c, e1, s1⟩ := hy1
    simp at e0 e1
    subst e0 e1
    exact ⟨⟨y0, y1⟩, A, c, rfl, z0, s1⟩
theorem opens_frm {f0 f1 : Field} (ht : P.underlying t = some (.struct #[f0, f1])) (hc : P.cellsOf t = 2) (h0 : f0.offset = 0 ∧ P.cellsOf f0.type = 1) (h1 : f1.offset = 1 ∧ P.cellsOf f1.type = 1)
    (o0 : Opens P f0.type (pI .i64)) (o1 : Opens P f1.type (pSl (pI .i64))) : Opens P t pFrm := by
  intro H enc w fuel cs x h
  obtain ⟨xs, n, rfl, rfl, hl, hlen, hf⟩ := DataW.trod_struct ht h
  rw [hc] at hl
  match cs, hl with
  | [c0, c1], _ =>
    obtain ⟨y0, hy0⟩ := opens_field (f := f0) hlen (i := 0) rfl (hf 0 f0 rfl) o0
    obtain ⟨y1, hy1⟩ := opens_field (f := f1) hlen (i := 1) rfl (hf 1 f1 rfl) o1
    rw [h0.1, h0.2] at hy0
    rw [h1.1, h1.2] at hy1
    obtain ⟨e0, z0⟩ := hy0
    obtain ⟨A, c, e1, s1⟩ := hy1
    simp at e0 e1
    subst e0 e1
    exact ⟨⟨y0, y1⟩, A, c, rfl, z0, s1⟩
theorem opens_shp {f0 f1 : Field} (ht : P.underlying t = some (.struct #[f0, f1])) (hc : P.cellsOf t = 2) (h0 : f0.offset = 0 ∧ P.cellsOf f0.type = 1) (h1 : f1.offset = 1 ∧ P.cellsOf f1.type = 1)
    (o0 : Opens P f0.type (pI .u8)) (o1 : Opens P f1.type (pSl pFrm)) : Opens P t pShp := by
  intro H enc w fuel cs x h
  obtain ⟨xs, n, rfl, rfl, hl, hlen, hf⟩ := DataW.trod_struct ht h
  rw [hc] at hl
  match cs, hl with
  | [c0, c1], _ =>
    obtain ⟨y0, hy0⟩ := opens_field (f := f0) hlen (i := 0) rfl (hf 0 f0 rfl) o0
    obtain ⟨y1, hy1⟩ := opens_field (f := f1) hlen (i := 1) rfl (hf 1 f1 rfl) o1
    rw [h0.1, h0.2] at hy0
    rw [h1.1, h1.2] at hy1
    obtain ⟨e0, z0⟩ := hy0
    obtain ⟨A, c, e1, s1⟩ := hy1
    simp at e0 e1
    subst e0 e1
    exact ⟨⟨y0, y1⟩, A, c, rfl, z0, s1⟩
theorem opens_rul {f0 f1 f2 f3 f4 f5 f6 : Field} (ht : P.underlying t = some (.struct #[f0, f1, f2, f3, f4, f5, f6])) (hc : P.cellsOf t = 7)
    (ho : [f0, f1, f2, f3, f4, f5, f6].map (fun f => (f.offset, P.cellsOf f.type)) = [(0, 1), (1, 1), (2, 1), (3, 1), (4, 1), (5, 1), (6, 1)])
    (o0 : Opens P f0.type (pI .u8)) (o1 : Opens P f1.type (pI .i64)) (o2 : Opens P f2.type (pI .u8)) (o3 : Opens P f3.type (pI .u8)) (o4 : Opens P f4.type (pSl pFrm)) (o5 : Opens P f5.type (pI .i64)) (o6 : Opens P f6.type (pSl pShp)) : Opens P t pRul := by
  intro H enc w fuel cs x h
  simp only [List.map_cons, List.map_nil, List.cons.injEq, Prod.mk.injEq, and_true] at ho
  obtain ⟨a0, a1, a2, a3, a4, a5, a6⟩ := ho
  obtain ⟨xs, n, rfl, rfl, hl, hlen, hf⟩ := DataW.trod_struct ht h
  rw [hc] at hl
  match cs, hl with
  | [c0, c1, c2, c3, c4, c5, c6], _ =>
    obtain ⟨y0, hy0⟩ := opens_field (f := f0) hlen (i := 0) rfl (hf 0 f0 rfl) o0
    obtain ⟨y1, hy1⟩ := opens_field (f := f1) hlen (i := 1) rfl (hf 1 f1 rfl) o1
    obtain ⟨y2, hy2⟩ := opens_field (f := f2) hlen (i := 2) rfl (hf 2 f2 rfl) o2
    obtain ⟨y3, hy3⟩ := opens_field (f := f3) hlen (i := 3) rfl (hf 3 f3 rfl) o3
    obtain ⟨y4, hy4⟩ := opens_field (f := f4) hlen (i := 4) rfl (hf 4 f4 rfl) o4
    obtain ⟨y5, hy5⟩ := opens_field (f := f5) hlen (i := 5) rfl (hf 5 f5 rfl) o5
    obtain ⟨y6, hy6⟩ := opens_field (f := f6) hlen (i := 6) rfl (hf 6 f6 rfl) o6
    rw [a0.1, a0.2] at hy0
    rw [a1.1, a1.2] at hy1
    rw [a2.1, a2.2] at hy2
    rw [a3.1, a3.2] at hy3
    rw [a4.1, a4.2] at hy4
    rw [a5.1, a5.2] at hy5
    rw [a6.1, a6.2] at hy6
    obtain ⟨e0, z0⟩ := hy0
    obtain ⟨e1, z1⟩ := hy1
    obtain ⟨e2, z2⟩ := hy2
    obtain ⟨e3, z3⟩ := hy3
    obtain ⟨A, c, e4, s4⟩ := hy4
    obtain ⟨e5, z5⟩ := hy5
    obtain ⟨A', c', e6, s6⟩ := hy6
    simp at e0 e1 e2 e3 e4 e5 e6
    subst e0 e1 e2 e3 e4 e5 e6
    exact ⟨⟨y0, y1, y2, y3, y4, y5, y6⟩, A, c, A', c', rfl, ⟨z0, z1, z2, z3, z5⟩, s4, s6⟩
end

end Go.Proofs.YtlipmagkplbkdaaDoor
