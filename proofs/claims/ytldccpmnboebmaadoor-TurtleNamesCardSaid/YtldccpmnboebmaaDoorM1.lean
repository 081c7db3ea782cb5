/-
  Several texts in one.
-/
import Derived.Test.YtldccpmnboebmaaDoorBase
import Derived.Test.YtldccpmnboebmaaDoorProg
import Derived.Deep.QuietTactic
import Derived.BigQuiet
import Derived.Lib.QuietBelow
import Derived.Lib.Bytealg
import Derived.Lib.Walk
import Derived.Lib.ItoaNum
import Derived.Lib.ItoaMem
import Derived.Lib.AtoiTie
import Derived.Shelf.Strings.BuilderK
import Derived.Test.YtldccpmnboebmaaDoorShelf
import Derived.Lib.AppendIntMem
import Derived.Lib.VarintMem
import Derived.Test.YtldccpmnboebmaaDoorRows
import Derived.ProofKit
import Derived.HandedShaped
import Derived.LaidMore
import Derived.Stop.Joined
import Derived.Stop.LaidErr
import Derived.Lib.LaidTab
import Derived.Lib.CutLaws
import Derived.Lib.SplitLaws
import Derived.Lib.IndexBytes
import Derived.Lib.AtoiErrMem
/-! Rep -/
namespace Go.Proofs.YtldccpmnboebmaaDoor
open Go.RowKit

structure Mod where
  name : Int
  args : List Int
  deriving DecidableEq, Inhabited
structure Frm where
  const : Int
  coefs : List Int
  deriving DecidableEq, Inhabited
structure Shp where
  name : Int
  args : List Frm
  deriving DecidableEq, Inhabited
structure Rul where
  name : Int
  arity : Int
  left : Int
  right : Int
  guards : List Frm
  weight : Int
  out : List Shp
  deriving DecidableEq, Inhabited

def pMod : Rp Mod where
  n := 2
  R F w cs m := ∃ A c, cs = [.int .u8 m.name, .slice A m.args.length c] ∧ Fits .u8 m.name ∧ SlAt (pI .i64) F w A c m.args
  len := by rintro F w cs x ⟨A, c, rfl, _⟩; rfl
  keep := by rintro F w w' cs x ⟨A, c, rfl, h1, h2⟩ k; exact ⟨A, c, rfl, h1, h2.keep k⟩
  wide := by rintro F F' w cs x ⟨A, c, rfl, h1, h2⟩ k; exact ⟨A, c, rfl, h1, h2.wide k⟩
  one := by
    rintro F w cs x ⟨A, c, rfl, _⟩ v hv
    simp at hv; rcases hv with rfl | rfl <;> rfl

def pFrm : Rp Frm where
  n := 2
  R F w cs m := ∃ A c, cs = [.int .i64 m.const, .slice A m.coefs.length c] ∧ Fits .i64 m.const ∧ SlAt (pI .i64) F w A c m.coefs
  len := by rintro F w cs x ⟨A, c, rfl, _⟩; rfl
  keep := by rintro F w w' cs x ⟨A, c, rfl, h1, h2⟩ k; exact ⟨A, c, rfl, h1, h2.keep k⟩
  wide := by rintro F F' w cs x ⟨A, c, rfl, h1, h2⟩ k; exact ⟨A, c, rfl, h1, h2.wide k⟩
  one := by
    rintro F w cs x ⟨A, c, rfl, _⟩ v hv
    simp at hv; rcases hv with rfl | rfl <;> rfl

def pShp : Rp Shp where
  n := 2
  R F w cs m := ∃ A c, cs = [.int .u8 m.name, .slice A m.args.length c] ∧ Fits .u8 m.name ∧ SlAt pFrm F w A c m.args
  len := by rintro F w cs x ⟨A, c, rfl, _⟩; rfl
  keep := by rintro F w w' cs x ⟨A, c, rfl, h1, h2⟩ k; exact ⟨A, c, rfl, h1, h2.keep k⟩
  wide := by rintro F F' w cs x ⟨A, c, rfl, h1, h2⟩ k; exact ⟨A, c, rfl, h1, h2.wide k⟩
  one := by
    rintro F w cs x ⟨A, c, rfl, _⟩ v hv
    simp at hv; rcases hv with rfl | rfl <;> rfl

def pRul : Rp Rul where
  n := 7
  R F w cs m := ∃ A c A' c', cs = [.int .u8 m.name, .int .i64 m.arity, .int .u8 m.left, .int .u8 m.right, .slice A m.guards.length c, .int .i64 m.weight, .slice A' m.out.length c'] ∧
    (Fits .u8 m.name ∧ Fits .i64 m.arity ∧ Fits .u8 m.left ∧ Fits .u8 m.right ∧ Fits .i64 m.weight) ∧ SlAt pFrm F w A c m.guards ∧ SlAt pShp F w A' c' m.out
  len := by rintro F w cs x ⟨A, c, A', c', rfl, _⟩; rfl
  keep := by rintro F w w' cs x ⟨A, c, A', c', rfl, h1, h2, h3⟩ k; exact ⟨A, c, A', c', rfl, h1, h2.keep k, h3.keep k⟩
  wide := by rintro F F' w cs x ⟨A, c, A', c', rfl, h1, h2, h3⟩ k; exact ⟨A, c, A', c', rfl, h1, h2.wide k, h3.wide k⟩
  one := by
    rintro F w cs x ⟨A, c, A', c', rfl, _⟩ v hv
    simp at hv; rcases hv with rfl | rfl | rfl | rfl | rfl | rfl | rfl <;> rfl

/-- a module whose arguments may be written -/
def pModF : Rp Mod where
  n := 2
  R F w cs m := ∃ A c, cs = [.int .u8 m.name, .slice A m.args.length c] ∧ Fits .u8 m.name ∧ SlAt (pI .i64) F w A c m.args ∧ (m.args ≠ [] → ∀ b o, A = some ⟨b, o, none⟩ → Unf w b)
  len := by rintro F w cs x ⟨A, c, rfl, _⟩; rfl
  keep := by
    rintro F w w' cs x ⟨A, c, rfl, h1, h2, h3⟩ k
    refine ⟨A, c, rfl, h1, h2.keep k, fun hne b o hA => unf_same (h3 hne b o hA) ?_⟩
    obtain ⟨b', o', _, _, hA', hF, _⟩ := h2.getI (i := 0) (List.length_pos_iff.2 hne)
    rw [hA] at hA'; cases hA'; exact k _ ‹_›
  wide := by rintro F F' w cs x ⟨A, c, rfl, h1, h2, h3⟩ k; exact ⟨A, c, rfl, h1, h2.wide k, h3⟩
  one := by
    rintro F w cs x ⟨A, c, rfl, _⟩ v hv
    simp at hv; rcases hv with rfl | rfl <;> rfl
theorem slAt_modF {F : Nat → Prop} {w : World} {A : Option Addr} {cap : Nat} {xs : List Mod} (h : SlAt pModF F w A cap xs) : SlAt pMod F w A cap xs :=
  ⟨h.le, h.mx, h.nil, fun i x hx => by
    obtain ⟨b, o, cs, h1, h2, ⟨A', c', h3, h4, h5, _⟩, h6⟩ := h.el i x hx
    exact ⟨b, o, cs, h1, h2, ⟨A', c', h3, h4, h5⟩, h6⟩⟩

section
variable {F : Nat → Prop} {w : World} {A : Option Addr} {cap : Nat}
/-- element i of a word -/
theorem SlAt.getMod {xs : List Mod} (h : SlAt pMod F w A cap xs) {i : Nat} (hi : i < xs.length) :
    ∃ b o A' c' m, Hid (xs.drop i = m :: xs.drop (i + 1)) ∧ A = some ⟨b, o, none⟩ ∧ F b ∧ w.cell? ⟨b, o + i * 2, none⟩ = some (.int .u8 m.name) ∧ w.cell? ⟨b, o + i * 2 + 1, none⟩ = some (.slice A' m.args.length c') ∧
      Fits .u8 m.name ∧ Hid (SlAt (pI .i64) F w A' c' m.args) ∧ m.args.length ≤ 9223372036854775807 := by
  obtain ⟨b, o, cs, x, h0, h1, h2, ⟨A', c', rfl, h3, h5⟩, h4⟩ := h.get hi
  exact ⟨b, o, A', c', x, h0, h1, h2, by simpa [pMod] using h4 0 _ rfl, by simpa [pMod] using h4 1 _ rfl, h3, h5, h5.lenle.1⟩
theorem SlAt.getFrm {xs : List Frm} (h : SlAt pFrm F w A cap xs) {i : Nat} (hi : i < xs.length) :
    ∃ b o A' c' m, Hid (xs.drop i = m :: xs.drop (i + 1)) ∧ A = some ⟨b, o, none⟩ ∧ F b ∧ w.cell? ⟨b, o + i * 2, none⟩ = some (.int .i64 m.const) ∧ w.cell? ⟨b, o + i * 2 + 1, none⟩ = some (.slice A' m.coefs.length c') ∧
      Fits .i64 m.const ∧ Hid (SlAt (pI .i64) F w A' c' m.coefs) ∧ m.coefs.length ≤ 9223372036854775807 := by
  obtain ⟨b, o, cs, x, h0, h1, h2, ⟨A', c', rfl, h3, h5⟩, h4⟩ := h.get hi
  exact ⟨b, o, A', c', x, h0, h1, h2, by simpa [pFrm] using h4 0 _ rfl, by simpa [pFrm] using h4 1 _ rfl, h3, h5, h5.lenle.1⟩
theorem SlAt.getShp {xs : List Shp} (h : SlAt pShp F w A cap xs) {i : Nat} (hi : i < xs.length) :
    ∃ b o A' c' m, Hid (xs.drop i = m :: xs.drop (i + 1)) ∧ A = some ⟨b, o, none⟩ ∧ F b ∧ w.cell? ⟨b, o + i * 2, none⟩ = some (.int .u8 m.name) ∧ w.cell? ⟨b, o + i * 2 + 1, none⟩ = some (.slice A' m.args.length c') ∧
      Fits .u8 m.name ∧ Hid (SlAt pFrm F w A' c' m.args) ∧ m.args.length ≤ 9223372036854775807 := by
  obtain ⟨b, o, cs, x, h0, h1, h2, ⟨A', c', rfl, h3, h5⟩, h4⟩ := h.get hi
  exact ⟨b, o, A', c', x, h0, h1, h2, by simpa [pShp] using h4 0 _ rfl, by simpa [pShp] using h4 1 _ rfl, h3, h5, h5.lenle.1⟩
theorem SlAt.getRul {xs : List Rul} (h : SlAt pRul F w A cap xs) {i : Nat} (hi : i < xs.length) :
    ∃ b o A' c' A'' c'' m, Hid (xs.drop i = m :: xs.drop (i + 1)) ∧ A = some ⟨b, o, none⟩ ∧ F b ∧
      w.cell? ⟨b, o + i * 7, none⟩ = some (.int .u8 m.name) ∧ w.cell? ⟨b, o + i * 7 + 1, none⟩ = some (.int .i64 m.arity) ∧ w.cell? ⟨b, o + i * 7 + 2, none⟩ = some (.int .u8 m.left) ∧ w.cell? ⟨b, o + i * 7 + 3, none⟩ = some (.int .u8 m.right) ∧
      w.cell? ⟨b, o + i * 7 + 4, none⟩ = some (.slice A' m.guards.length c') ∧ w.cell? ⟨b, o + i * 7 + 5, none⟩ = some (.int .i64 m.weight) ∧ w.cell? ⟨b, o + i * 7 + 6, none⟩ = some (.slice A'' m.out.length c'') ∧
      (Fits .u8 m.name ∧ Fits .i64 m.arity ∧ Fits .u8 m.left ∧ Fits .u8 m.right ∧ Fits .i64 m.weight) ∧ Hid (SlAt pFrm F w A' c' m.guards) ∧ Hid (SlAt pShp F w A'' c'' m.out) ∧
      m.guards.length ≤ 9223372036854775807 ∧ m.out.length ≤ 9223372036854775807 := by
  obtain ⟨b, o, cs, x, h0, h1, h2, ⟨A', c', A'', c'', rfl, h3, h5, h6⟩, h4⟩ := h.get hi
  exact ⟨b, o, A', c', A'', c'', x, h0, h1, h2, by simpa [pRul] using h4 0 _ rfl, by simpa [pRul] using h4 1 _ rfl, by simpa [pRul] using h4 2 _ rfl, by simpa [pRul] using h4 3 _ rfl, by simpa [pRul] using h4 4 _ rfl, by simpa [pRul] using h4 5 _ rfl, by simpa [pRul] using h4 6 _ rfl,
    h3, h5, h6, h5.lenle.1, h6.lenle.1⟩
end

section
variable {P : Program} {t : TypeId}
theorem opens_field {H : Type} {enc : TypeId × Value → H} {w : World} {n : Nat} {cs : List Value} {xs : List (DataW H × List MemPlace)} {α : Type} {E : Rp α} {fs : Array Field} (hlen : xs.length = fs.size) {i : Nat} {f : Field} (hf : fs[i]? = some f)
    (h : DataW.trod enc P w 0 (fun _ => true) true n f.type ((cs.drop f.offset).take (P.cellsOf f.type)) = xs[i]?) (hE : Opens P f.type E) : ∃ y, E.R (Old w) w ((cs.drop f.offset).take (P.cellsOf f.type)) y := by
  have hi : i < xs.length := by rw [hlen]; exact (Array.getElem?_eq_some_iff.1 hf).1
  rw [List.getElem?_eq_getElem hi] at h
  exact hE H enc w n _ _ h
theorem opens_mod {f0 f1 : Field} (ht : P.underlying t = some (.struct #[f0, f1])) (hc : P.cellsOf t = 2) (h0 : f0.offset = 0 ∧ P.cellsOf f0.type = 1) (h1 : f1.offset = 1 ∧ P.cellsOf f1.type = 1)
    (o0 : Opens P f0.type (pI .u8)) (o1 : Opens P f1.type (pSl (pI .i64))) : Opens P t pMod := by
  intro H enc w fuel cs x h
  obtain ⟨xs, n, rfl, rfl, hl, hlen, hf⟩ := DataW.trod_struct ht h
  rw [hc] at hl
  match cs, hl with
  | [c0, c1], _ =>
    obtain ⟨y0, hy0⟩ := opens_field (f := f0) hlen (i := 0) rfl (hf 0 f0 rfl) o0
    obtain ⟨y1, hy1⟩ := opens_field (f := f1) hlen (i := 1) rfl (hf 1 f1 rfl) o1
    rw [h0.1, h0.2] at hy0
    rw [h1.1, h1.2] at hy1
    obtain ⟨e0, z0⟩ := hy0
    obtain ⟨A, c, e1, s1⟩ := hy1
    simp at e0 e1
    subst e0 e1
    exact ⟨⟨y0, y1⟩, A, c, rfl, z0, s1⟩
theorem opens_frm {f0 f1 : Field} (ht : P.underlying t = some (.struct #[f0, f1])) (hc : P.cellsOf t = 2) (h0 : f0.offset = 0 ∧ P.cellsOf f0.type = 1) (h1 : f1.offset = 1 ∧ P.cellsOf f1.type = 1)
    (o0 : Opens P f0.type (pI .i64)) (o1 : Opens P f1.type (pSl (pI .i64))) : Opens P t pFrm := by
  intro H enc w fuel cs x h
  obtain ⟨xs, n, rfl, rfl, hl, hlen, hf⟩ := DataW.trod_struct ht h
  rw [hc] at hl
  match cs, hl with
  | [c0, c1], _ =>
    obtain ⟨y0, hy0⟩ := opens_field (f := f0) hlen (i := 0) rfl (hf 0 f0 rfl) o0
    obtain ⟨y1, hy1⟩ := opens_field (f := f1) hlen (i := 1) rfl (hf 1 f1 rfl) o1
    rw [h0.1, h0.2] at hy0
    rw [h1.1, h1.2] at hy1
    obtain ⟨e0, z0⟩ := hy0
    obtain ⟨A, c, e1, s1⟩ := hy1
    simp at e0 e1
    subst e0 e1
    exact ⟨⟨y0, y1⟩, A, c, rfl, z0, s1⟩
theorem opens_shp {f0 f1 : Field} (ht : P.underlying t = some (.struct #[f0, f1])) (hc : P.cellsOf t = 2) (h0 : f0.offset = 0 ∧ P.cellsOf f0.type = 1) (h1 : f1.offset = 1 ∧ P.cellsOf f1.type = 1)
    (o0 : Opens P f0.type (pI .u8)) (o1 : Opens P f1.type (pSl pFrm)) : Opens P t pShp := by
  intro H enc w fuel cs x h
  obtain ⟨xs, n, rfl, rfl, hl, hlen, hf⟩ := DataW.trod_struct ht h
  rw [hc] at hl
  match cs, hl with
  | [c0, c1], _ =>
    obtain ⟨y0, hy0⟩ := opens_field (f := f0) hlen (i := 0) rfl (hf 0 f0 rfl) o0
    obtain ⟨y1, hy1⟩ := opens_field (f := f1) hlen (i := 1) rfl (hf 1 f1 rfl) o1
    rw [h0.1, h0.2] at hy0
    rw [h1.1, h1.2] at hy1
    obtain ⟨e0, z0⟩ := hy0
    obtain ⟨A, c, e1, s1⟩ := hy1
    simp at e0 e1
    subst e0 e1
    exact ⟨⟨y0, y1⟩, A, c, rfl, z0, s1⟩
theorem opens_rul {f0 f1 f2 f3 f4 f5 f6 : Field} (ht : P.underlying t = some (.struct #[f0, f1, f2, f3, f4, f5, f6])) (hc : P.cellsOf t = 7)
    (ho : [f0, f1, f2, f3, f4, f5, f6].map (fun f => (f.offset, P.cellsOf f.type)) = [(0, 1), (1, 1), (2, 1), (3, 1), (4, 1), (5, 1), (6, 1)])
    (o0 : Opens P f0.type (pI .u8)) (o1 : Opens P f1.type (pI .i64)) (o2 : Opens P f2.type (pI .u8)) (o3 : Opens P f3.type (pI .u8)) (o4 : Opens P f4.type (pSl pFrm)) (o5 : Opens P f5.type (pI .i64)) (o6 : Opens P f6.type (pSl pShp)) : Opens P t pRul := by
  intro H enc w fuel cs x h
  simp only [List.map_cons, List.map_nil, List.cons.injEq, Prod.mk.injEq, and_true] at ho
  obtain ⟨a0, a1, a2, a3, a4, a5, a6⟩ := ho
  obtain ⟨xs, n, rfl, rfl, hl, hlen, hf⟩ := DataW.trod_struct ht h
  rw [hc] at hl
  match cs, hl with
  | [c0, c1, c2, c3, c4, c5, c6], _ =>
    obtain ⟨y0, hy0⟩ := opens_field (f := f0) hlen (i := 0) rfl (hf 0 f0 rfl) o0
    obtain ⟨y1, hy1⟩ := opens_field (f := f1) hlen (i := 1) rfl (hf 1 f1 rfl) o1
    obtain ⟨y2, hy2⟩ := opens_field (f := f2) hlen (i := 2) rfl (hf 2 f2 rfl) o2
    obtain ⟨y3, hy3⟩ := opens_field (f := f3) hlen (i := 3) rfl (hf 3 f3 rfl) o3
    obtain ⟨y4, hy4⟩ := opens_field (f := f4) hlen (i := 4) rfl (hf 4 f4 rfl) o4
    obtain ⟨y5, hy5⟩ := opens_field (f := f5) hlen (i := 5) rfl (hf 5 f5 rfl) o5
    obtain ⟨y6, hy6⟩ := opens_field (f := f6) hlen (i := 6) rfl (hf 6 f6 rfl) o6
    rw [a0.1, a0.2] at hy0
    rw [a1.1, a1.2] at hy1
    rw [a2.1, a2.2] at hy2
    rw [a3.1, a3.2] at hy3
    rw [a4.1, a4.2] at hy4
    rw [a5.1, a5.2] at hy5
    rw [a6.1, a6.2] at hy6
    obtain ⟨e0, z0⟩ := hy0
    obtain ⟨e1, z1⟩ := hy1
    obtain ⟨e2, z2⟩ := hy2
    obtain ⟨e3, z3⟩ := hy3
    obtain ⟨A, c, e4, s4⟩ := hy4
    obtain ⟨e5, z5⟩ := hy5
    obtain ⟨A', c', e6, s6⟩ := hy6
    simp at e0 e1 e2 e3 e4 e5 e6
    subst e0 e1 e2 e3 e4 e5 e6
    exact ⟨⟨y0, y1, y2, y3, y4, y5, y6⟩, A, c, A', c', rfl, ⟨z0, z1, z2, z3, z5⟩, s4, s6⟩
end

end Go.Proofs.YtldccpmnboebmaaDoor

/-! Wa -/
namespace Go.Proofs.YtldccpmnboebmaaDoor
open Go.RowKit

def symL : List Int := [43, 45, 38, 94, 124, 33, 91, 93]
def symB (c : Int) : Bool := symL.contains c
def upB (c : Int) : Bool := decide (65 ≤ c) && decide (c ≤ 90)
def loB (c : Int) : Bool := decide (97 ≤ c) && decide (c ≤ 122)
def letterB (c : Int) : Bool := upB c || loB c || symB c
def argOk (x : Int) : Bool := decide (-1000000000 ≤ x) && decide (x ≤ 1000000000)
def shapeOk (m : Mod) : Bool := m.args.length == 0 || (decide (m.args.length ≤ 4) && m.name != 91 && m.name != 93)
def fineF (m : Mod) : Bool := letterB m.name && m.args.all argOk && shapeOk m
/-- how many brackets are open in the end; none: a ] came first -/
def scan (n : Nat) : List Mod → Option Nat
  | [] => some n
  | m :: ms => if m.name = 91 then scan (n + 1) ms else if m.name = 93 then (if n = 0 then none else scan (n - 1) ms) else scan n ms
def checkF (w : List Mod) : Int :=
  if 2000 < w.length then 4 else if w.all fineF = false then 8 else match scan 0 w with
  | none => 28
  | some n => if 0 < n then 28 else 0

def symS : ByteArray := ⟨#[43, 45, 38, 94, 124, 33, 91, 93]⟩
theorem sym_index : ∀ n : Fin 256, (decide (Lib.indexByte [43, 45, 38, 94, 124, 33, 91, 93] n.val.toUInt8 < 0)) = !symB (n.val : Int) := by decide +kernel
set_option maxRecDepth 100000 in
theorem indexByte_calls (s : ByteArray) (c : Int) (w : World) : Calls Tryd.prog 58 #[.string s, .int .u8 c] w fun e w' => e = .returned (.int .i64 (Lib.indexByte s.data.toList c.toNat.toUInt8)) ∧ w = w' := by
  go_enter Tryd.func58, Tryd.ntmps58
  go_wp2
  rw [run_callFunc_extern Tryd.func82 (by kernel_rfl) (by kernel_rfl) (by kernel_rfl) (e := Extern.BytealgIndexByte.indexByte) (by kernel_rfl), Lib.run_indexByteString]
  simp only [Result.andThen]
  rw [Oper.upon_value]
  go_wp2
  go_ret
  exact ⟨rfl, rfl⟩

def symIx (c : Int) : Int := Lib.indexByte [43, 45, 38, 94, 124, 33, 91, 93] c.toNat.toUInt8
theorem symIx_neg {c : Int} (h0 : 0 ≤ c) (h1 : c ≤ 255) : symIx c < 0 ↔ symB c = false := by
  obtain ⟨n, rfl⟩ := Int.eq_ofNat_of_zero_le h0
  have := sym_index ⟨n, by omega⟩
  unfold symIx
  simp only [Int.toNat_natCast] at this ⊢
  rw [← decide_eq_true_iff (p := _ < (0 : Int)), this]; simp
theorem symIx_calls (c : Int) (w : World) : Calls Tryd.prog 58 #[.string ⟨#[43, 45, 38, 94, 124, 33, 91, 93]⟩, .int .u8 c] w fun e w' => e = .returned (.int .i64 (symIx c)) ∧ w = w' := indexByte_calls _ _ _

def FinePost (m : Mod) (w : World) (e : Ending) (w' : World) : Prop := e = .returned (.bool (fineF m)) ∧ Below w.heap.size w w'
theorem argOk_no {x : Int} (h : x < -1000000000 ∨ 1000000000 < x) : argOk x = false := by unfold argOk; simp; omega
theorem argOk_yes {x : Int} (h0 : ¬ x < -1000000000) (h1 : ¬ 1000000000 < x) : argOk x = true := by unfold argOk; simp; omega

set_option maxRecDepth 100000 in
set_option maxHeartbeats 4000000 in
theorem fine_calls {F : Nat → Prop} (A : Option Addr) (c : Nat) (m : Mod) (w : World) (h : SlAt (pI .i64) F w A c m.args) (hF : ∀ k, F k → k < w.heap.size) (hn : Fits .u8 m.name) :
    Calls Tryd.prog 37 #[.agg #[.int .u8 m.name, .slice A m.args.length c]] w (FinePost m w) := by
  obtain ⟨nm, args⟩ := m
  simp only at h hn ⊢
  have hb8 := hn.u8
  have hmx := h.lenle
  have H := Lib.hid h; clear h
  have HF := Lib.hid hF; clear hF
  have hsx := symIx_neg hb8.1 hb8.2
  have Hsx := Lib.hid hsx; clear hsx
  cases hlt : letterB nm
  · have hno := hlt
    unfold letterB at hno
    rw [Bool.or_eq_false_iff, Bool.or_eq_false_iff] at hno
    have hs := Hsx.out.2 hno.2
    have hup : nm < 65 ∨ 90 < nm := by have := hno.1.1; unfold upB at this; simp at this; omega
    have hlo : nm < 97 ∨ 122 < nm := by have := hno.1.2; unfold loB at this; simp at this; omega
    clear hno
    have Hlt := Lib.hid hlt; clear hlt
    have hres : FinePost ⟨nm, args⟩ w (.returned (.bool false)) (w.alloc (.cells #[.int .u8 nm, .slice A args.length c] 44)) :=
      ⟨by unfold fineF; rw [Hlt.out]; rfl, (Below.refl _ _).alloc (Nat.le_refl _) _⟩
    have Hres := Lib.hid hres; clear hres
    have h3 : nm < 65 ∨ (90 < nm ∧ nm < 97) ∨ 122 < nm := by omega
    clear hup hlo
    rcases h3 with h3 | ⟨h3, h4⟩ | h3
    · by_cases h0 : nm = 0
      · have e0 : (nm == 0) = true := by simp [h0]
        clear h0
        go_enter Tryd.func37, Tryd.ntmps37
        go_wp2_with (go_at_call 58; refine (symIx_calls _ _).mono ?_; rintro e w' ⟨rfl, rfl⟩)
        go_ret
        exact Hres.out
      · have e0 : (nm == 0) = false := by simp [h0]
        clear h0
        go_enter Tryd.func37, Tryd.ntmps37
        go_wp2_with (go_at_call 58; refine (symIx_calls _ _).mono ?_; rintro e w' ⟨rfl, rfl⟩)
        go_ret
        exact Hres.out
    · have e0 : (nm == 0) = false := by simp; omega
      go_enter Tryd.func37, Tryd.ntmps37
      go_wp2_with (go_at_call 58; refine (symIx_calls _ _).mono ?_; rintro e w' ⟨rfl, rfl⟩)
      go_ret
      exact Hres.out
    · have e0 : (nm == 0) = false := by simp; omega
      go_enter Tryd.func37, Tryd.ntmps37
      go_wp2_with (go_at_call 58; refine (symIx_calls _ _).mono ?_; rintro e w' ⟨rfl, rfl⟩)
      go_ret
      exact Hres.out
  · have hcase : (65 ≤ nm ∧ nm ≤ 90) ∨ (97 ≤ nm ∧ nm ≤ 122) ∨ (nm < 65 ∧ ¬ symIx nm < 0 ∧ ((nm == 0) = false)) ∨ (90 < nm ∧ nm < 97 ∧ ¬ symIx nm < 0 ∧ ((nm == 0) = false)) ∨ (122 < nm ∧ ¬ symIx nm < 0 ∧ ((nm == 0) = false)) := by
      unfold letterB at hlt
      rw [Bool.or_eq_true, Bool.or_eq_true] at hlt
      rcases hlt with (hu | hl) | hs
      · unfold upB at hu; simp at hu; omega
      · unfold loB at hl; simp at hl; omega
      · have h1 : ¬ symIx nm < 0 := by rw [Hsx.out, hs]; decide
        have h2 : nm ≠ 0 := by rintro rfl; revert hs; decide
        have h3 : (nm == 0) = false := by simp [h2]
        by_cases h4 : nm < 65
        · exact .inr (.inr (.inl ⟨h4, h1, h3⟩))
        · by_cases h5 : nm ≤ 90
          · exact .inl ⟨by omega, h5⟩
          · by_cases h6 : nm < 97
            · exact .inr (.inr (.inr (.inl ⟨by omega, h6, h1, h3⟩)))
            · by_cases h7 : nm ≤ 122
              · exact .inr (.inl ⟨by omega, h7⟩)
              · exact .inr (.inr (.inr (.inr ⟨by omega, h1, h3⟩)))
    have Hlt := Lib.hid hlt; clear hlt
    go_enter Tryd.func37, Tryd.ntmps37
    rcases hcase with ⟨h1, h2⟩ | ⟨h1, h2⟩ | ⟨h1, h2, h3⟩ | ⟨h1, h2, h3, h4⟩ | ⟨h1, h2, h3⟩
    all_goals
      go_wp2_with (go_at_call 58; refine (symIx_calls _ _).mono ?_; rintro e w' ⟨rfl, rfl⟩)
      clear h1 h2
      try clear h3
      try clear h4
      have hkp : ∀ k, F k → (w.alloc (.cells #[.int .u8 nm, .slice A args.length c] 44)).heap[k]? = w.heap[k]? := fun k hk => Below.heap_alloc _ _ _ (HF.out k hk)
      have H2 := Lib.hid (H.out.keep hkp)
      clear hkp
      go_loop [34] (fun i => ∃ k : Nat, k ≤ args.length ∧ i = .int .i64 k ∧ Hid (args.all argOk = (args.drop k).all argOk)) (fun i => args.length - (intOf i).toNat)
      case atStart => exact ⟨0, Nat.zero_le _, rfl, rfl⟩
      case round =>
        obtain ⟨k, hk, rfl, hall⟩ := hrel
        by_cases hlt : k < args.length
        · obtain ⟨b, o, x, hd, rfl, _, hcx, _⟩ := H2.out.getI hlt
          by_cases hx0 : x < -1000000000
          · go_wp2
            go_ret
            refine ⟨ret_bool ?_, (Below.refl _ _).alloc (Nat.le_refl _) _⟩
            unfold fineF; rw [hall.out, hd.out, List.all_cons, argOk_no (.inl hx0)]; simp
          · by_cases hx1 : 1000000000 < x
            · go_wp2
              go_ret
              refine ⟨ret_bool ?_, (Below.refl _ _).alloc (Nat.le_refl _) _⟩
              unfold fineF; rw [hall.out, hd.out, List.all_cons, argOk_no (.inr hx1)]; simp
            · go_wp2
              go_round
              case rel =>
                refine ⟨k + 1, by omega, by go_num, ?_⟩
                unfold Hid; rw [hall.out, hd.out, List.all_cons, argOk_yes hx0 hx1]; rfl
              case measure => simp [intOf]; omega
        · have hok : args.all argOk = true := by rw [hall.out, drop_end hlt]; rfl
          have Hok := Lib.hid hok; clear hok
          by_cases hl0 : args.length = 0
          · have e0 : ((args.length : Int) == 0) = true := by simp [hl0]
            have Hl0 := Lib.hid hl0; clear hl0
            go_wp2
            go_ret
            refine ⟨ret_bool ?_, (Below.refl _ _).alloc (Nat.le_refl _) _⟩
            unfold fineF shapeOk; rw [Hlt.out, Hok.out]; simp [Hl0.out]
          · have e0 : ((args.length : Int) == 0) = false := by simpa using hl0
            by_cases hl4 : args.length ≤ 4
            · by_cases h91 : nm = 91
              · have e1 : (nm != 91) = false := by simp [h91]
                have H91 := Lib.hid h91; clear h91
                go_wp2
                go_ret
                refine ⟨ret_bool ?_, (Below.refl _ _).alloc (Nat.le_refl _) _⟩
                unfold fineF shapeOk; simp [H91.out, hl0]
              · have e1 : (nm != 91) = true := by simp [h91]
                by_cases h93 : nm = 93
                · have e2 : (nm != 93) = false := by simp [h93]
                  have H93 := Lib.hid h93; clear h93
                  go_wp2
                  go_ret
                  refine ⟨ret_bool ?_, (Below.refl _ _).alloc (Nat.le_refl _) _⟩
                  unfold fineF shapeOk; simp [H93.out, hl0]
                · have e2 : (nm != 93) = true := by simp [h93]
                  go_wp2
                  go_ret
                  refine ⟨ret_bool ?_, (Below.refl _ _).alloc (Nat.le_refl _) _⟩
                  unfold fineF shapeOk; rw [Hlt.out, Hok.out]; simp [hl0, hl4, h91, h93]
            · go_wp2
              go_ret
              refine ⟨ret_bool ?_, (Below.refl _ _).alloc (Nat.le_refl _) _⟩
              unfold fineF shapeOk; rw [Hlt.out, Hok.out]; simp [hl0, hl4]

end Go.Proofs.YtldccpmnboebmaaDoor

/-! Pa -/
namespace Go.Proofs.YtldccpmnboebmaaDoor
open Go.RowKit

/-! ### digits -/
theorem digB {n : Nat} (h : n < 10) : (UInt8.ofNat (48 + n)).toNat = 48 + n := by
  rw [UInt8.toNat_ofNat']; omega
theorem dec_big {u : Nat} (h : ¬ u < 10) : Lib.decDigits u = Lib.decDigits (u / 10) ++ [UInt8.ofNat (48 + u % 10)] := by rw [Lib.decDigits, dif_neg h]
theorem dec_dig : ∀ (u : Nat), ∀ b ∈ Lib.decDigits u, 48 ≤ b.toNat ∧ b.toNat ≤ 57 := by
  intro u
  induction u using Nat.strongRecOn with
  | _ u ih =>
    intro b hb
    by_cases h : u < 10
    · rw [Lib.decDigits_one h] at hb
      obtain rfl := List.mem_singleton.1 hb
      rw [digB h]; omega
    · rw [dec_big h] at hb
      rcases List.mem_append.1 hb with hb | hb
      · exact ih (u / 10) (by omega) b hb
      · obtain rfl := List.mem_singleton.1 hb
        rw [digB (by omega)]; omega
theorem dec_ne (u : Nat) : Lib.decDigits u ≠ [] := by
  by_cases h : u < 10
  · rw [Lib.decDigits_one h]; simp
  · rw [dec_big h]; simp
theorem decFrom_snoc : ∀ (l : List UInt8) (acc : Nat) (b : UInt8), Lib.decFrom acc (l ++ [b]) = (Lib.decFrom acc l).bind fun n => (Lib.digitVal b).map fun d => n * 10 + d
  | [], acc, b => by
    show Lib.decFrom acc [b] = (Lib.digitVal b).map _
    unfold Lib.decFrom
    cases Lib.digitVal b <;> rfl
  | a :: l, acc, b => by
    rw [List.cons_append]
    unfold Lib.decFrom
    cases h : Lib.digitVal a with
    | none => rfl
    | some d => exact decFrom_snoc l _ b
theorem digitVal_of {n : Nat} (h : n < 10) : Lib.digitVal (UInt8.ofNat (48 + n)) = some n := by
  unfold Lib.digitVal
  rw [digB h, if_pos ⟨by omega, by omega⟩]; congr 1; omega
theorem dec_from (u : Nat) : Lib.decFrom 0 (Lib.decDigits u) = some u := by
  induction u using Nat.strongRecOn with
  | _ u ih =>
    by_cases h : u < 10
    · rw [Lib.decDigits_one h, show [UInt8.ofNat (48 + u)] = [] ++ [UInt8.ofNat (48 + u)] from rfl, decFrom_snoc, digitVal_of h]
      show some (0 * 10 + u) = some u
      congr 1; omega
    · rw [dec_big h, decFrom_snoc, ih (u / 10) (by omega), digitVal_of (by omega)]
      show some (u / 10 * 10 + u % 10) = some u
      congr 1; omega
theorem dec_head (u : Nat) : ∀ r, Lib.decDigits u = 48 :: r → u = 0 ∧ r = [] := by
  induction u using Nat.strongRecOn with
  | _ u ih =>
    intro r hr
    by_cases h : u < 10
    · rw [Lib.decDigits_one h] at hr
      injection hr with h1 h2
      have := congrArg UInt8.toNat h1
      rw [digB h] at this
      exact ⟨by have e : (48 : UInt8).toNat = 48 := rfl
                omega, h2.symm⟩
    · rw [dec_big h] at hr
      cases hd : Lib.decDigits (u / 10) with
      | nil => exact absurd hd (dec_ne _)
      | cons a t =>
        rw [hd] at hr
        injection hr with h1 h2
        subst h1
        have := (ih (u / 10) (by omega) t hd).1
        omega
theorem dec_unique : ∀ (k : Nat) (l : List UInt8) (u : Nat), l.length = k → l ≠ [] → Lib.decFrom 0 l = some u → (∀ r, l = 48 :: r → r = []) → Lib.decDigits u = l
  | 0, l, u, hk, hne, _, _ => absurd (List.eq_nil_of_length_eq_zero hk) hne
  | k + 1, l, u, hk, hne, hd, hz => by
    rcases List.eq_nil_or_concat l with h | ⟨l', b, h⟩
    · exact absurd h hne
    · rw [List.concat_eq_append] at h
      subst h
      rw [decFrom_snoc] at hd
      cases hn : Lib.decFrom 0 l' with
      | none => rw [hn] at hd; cases hd
      | some n =>
        rw [hn] at hd
        cases hb : Lib.digitVal b with
        | none => rw [hb] at hd; cases hd
        | some d =>
          rw [hb] at hd
          have hu : n * 10 + d = u := Option.some.inj hd
          obtain ⟨b1, b2, b3⟩ := Lib.digitVal_eq hb
          have hbe : UInt8.ofNat (48 + d) = b := UInt8.toNat_inj.1 (by rw [digB (by omega)]; omega)
          cases l' with
          | nil =>
            have : n = 0 := by cases hn; rfl
            subst this
            obtain rfl : d = u := by omega
            rw [Lib.decDigits_one (by omega), hbe]; rfl
          | cons a t =>
            have hz' : ∀ r, a :: t = 48 :: r → r = [] := fun r hr => by
              have := hz (r ++ [b]) (by rw [hr]; rfl)
              simp at this
            have ih := dec_unique k (a :: t) n (by simp at hk ⊢; omega) (by simp) hn hz'
            have hn0 : n ≠ 0 := by
              rintro rfl
              rw [Lib.decDigits_one (by decide)] at ih
              injection ih with i1 i2
              have := hz (t ++ [b]) (by rw [← i1]; rfl)
              simp at this
            rw [dec_big (by omega), show u / 10 = n from by omega, show u % 10 = d from by omega, ih, hbe]
theorem dec_len : ∀ (k u : Nat), u < 10 ^ (k + 1) → (Lib.decDigits u).length ≤ k + 1
  | 0, u, h => by rw [Lib.decDigits_one (by simpa using h)]; simp
  | k + 1, u, h => by
    by_cases h1 : u < 10
    · rw [Lib.decDigits_one h1]; simp
    · rw [dec_big h1, List.length_append, List.length_singleton]
      have := dec_len k (u / 10) (by rw [Nat.pow_succ] at h; omega)
      omega

/-! ### whole numbers -/
theorem itoa_bytes (n : Int) : ∀ b ∈ Lib.itoa n, b = 45 ∨ (48 ≤ b.toNat ∧ b.toNat ≤ 57) := by
  intro b hb
  unfold Lib.itoa at hb
  split at hb
  · rcases List.mem_cons.1 hb with h | h
    · exact .inl h
    · exact .inr (dec_dig _ b h)
  · exact .inr (dec_dig _ b hb)
theorem itoa_not {n : Int} {c : UInt8} (h : c ≠ 45) (h' : ¬ (48 ≤ c.toNat ∧ c.toNat ≤ 57)) : c ∉ Lib.itoa n := fun hc => (itoa_bytes n c hc).elim h h'
theorem itoa_pos (u : Nat) : Lib.itoa (u : Int) = Lib.decDigits u := Lib.itoa_nonneg u
theorem itoa_len {n : Int} (h0 : -1000000000 ≤ n) (h1 : n ≤ 1000000000) : (Lib.itoa n).length ≤ 11 := by
  unfold Lib.itoa
  split
  · rw [List.length_cons]
    have := dec_len 9 n.natAbs (by omega)
    omega
  · have := dec_len 9 n.toNat (by omega)
    omega
theorem atoi_cons (b : UInt8) (r : List UInt8) : Lib.atoi (b :: r) = if b == 45 then (Lib.decNat r).map fun (m : Nat) => -(m : Int) else if b == 43 then (Lib.decNat r).map fun (m : Nat) => (m : Int) else (Lib.decNat (b :: r)).map fun (m : Nat) => (m : Int) := rfl
theorem itoa_atoi {n : Int} : Lib.atoi (Lib.itoa n) = some n := by
  unfold Lib.itoa
  by_cases h : n < 0
  · rw [if_pos h, atoi_cons, if_pos (by decide : ((45 : UInt8) == 45) = true)]
    unfold Lib.decNat
    rw [show (Lib.decDigits n.natAbs).isEmpty = false from by
      cases hd : Lib.decDigits n.natAbs with
      | nil => exact absurd hd (dec_ne _)
      | cons => rfl]
    rw [if_neg (by decide), dec_from]
    show some (-(n.natAbs : Int)) = some n
    congr 1; omega
  · rw [if_neg h]
    cases hd : Lib.decDigits n.toNat with
    | nil => exact absurd hd (dec_ne _)
    | cons b r =>
      have hb := dec_dig n.toNat b (by rw [hd]; simp)
      rw [atoi_cons]
      have e1 : (b == 45) = false := by rw [beq_eq_false_iff_ne]; rintro rfl; revert hb; decide
      have e2 : (b == 43) = false := by rw [beq_eq_false_iff_ne]; rintro rfl; revert hb; decide
      simp only [e1, e2, Bool.false_eq_true, if_false]
      unfold Lib.decNat
      rw [List.isEmpty_cons, if_neg (by decide), ← hd, dec_from]
      show some (n.toNat : Int) = some n
      congr 1; omega
theorem argOk_le {x : Int} (h : argOk x = true) : -1000000000 ≤ x ∧ x ≤ 1000000000 := by
  unfold argOk at h; simp at h; omega

/-! ### the program's reading of a number -/
def numP (t : List UInt8) : Option Int := match Lib.atoiAll t with
  | .ok n => if Lib.itoa n = t then some n else none
  | _ => none
theorem numP_text {t : List UInt8} {n : Int} (h : numP t = some n) : Lib.itoa n = t := by
  unfold numP at h
  split at h
  · split at h
    · cases h; assumption
    · cases h
  · cases h
theorem numP_of {n : Int} (h : argOk n = true) : numP (Lib.itoa n) = some n := by
  obtain ⟨h0, h1⟩ := argOk_le h
  unfold numP
  rw [Lib.atoiAll_short _ (by have := itoa_len h0 h1; omega), itoa_atoi]
  show (if Lib.itoa n = Lib.itoa n then some n else none) = _
  rw [if_pos rfl]

/-! ### the reference's reading of a number -/
def digsR : Nat → Int → List UInt8 → Int × List UInt8
  | 0, n, l => (n, l)
  | _ + 1, n, [] => (n, [])
  | k + 1, n, b :: r => if 48 ≤ b.toNat ∧ b.toNat ≤ 57 then digsR k (10 * n + ((b.toNat : Int) - 48)) r else (n, b :: r)
def tailR (neg : Bool) (l : List UInt8) : Option (Int × List UInt8) :=
  if (digsR 10 0 l).2.length = l.length ∨ (l.head? = some 48 ∧ (digsR 10 0 l).2.length + 1 < l.length) ∨ ((digsR 10 0 l).1 = 0 ∧ neg = true) then none
  else some ((if neg = true then -(digsR 10 0 l).1 else (digsR 10 0 l).1), (digsR 10 0 l).2)
def numR : List UInt8 → Option (Int × List UInt8)
  | [] => tailR false []
  | b :: r => if b = 45 then tailR true r else tailR false (b :: r)
theorem numR_cons (b : UInt8) (r : List UInt8) : numR (b :: r) = if b = 45 then tailR true r else tailR false (b :: r) := rfl
theorem digsR_spec : ∀ (k : Nat) (n : Nat) (l : List UInt8), ∃ (ds r : List UInt8) (m : Nat), digsR k (n : Int) l = ((m : Int), r) ∧ l = ds ++ r ∧ Lib.decFrom n ds = some m
  | 0, n, l => ⟨[], l, n, by unfold digsR; rfl, rfl, rfl⟩
  | k + 1, n, [] => ⟨[], [], n, by unfold digsR; rfl, rfl, rfl⟩
  | k + 1, n, b :: r => by
    unfold digsR
    by_cases h : 48 ≤ b.toNat ∧ b.toNat ≤ 57
    · rw [if_pos h]
      obtain ⟨ds, r', m, h1, h2, h3⟩ := digsR_spec k (n * 10 + (b.toNat - 48)) r
      refine ⟨b :: ds, r', m, ?_, by rw [h2]; rfl, ?_⟩
      · rw [← h1]; congr 1; omega
      · unfold Lib.decFrom Lib.digitVal
        rw [if_pos h]; exact h3
    · rw [if_neg h]; exact ⟨[], b :: r, n, rfl, rfl, rfl⟩
theorem tailR_text {neg : Bool} {l : List UInt8} {n : Int} {r : List UInt8} (h : tailR neg l = some (n, r)) : (if neg = true then [45] else []) ++ l = Lib.itoa n ++ r ∧ r.length < l.length := by
  obtain ⟨ds, r', m, h1, h2, h3⟩ := digsR_spec 10 0 l
  have h1' : digsR 10 0 l = ((m : Int), r') := h1
  unfold tailR at h
  rw [h1'] at h
  split at h
  · cases h
  · rename_i hc
    simp only [not_or, not_and] at hc
    obtain ⟨c1, c2, c3⟩ := hc
    cases h
    have c1' : ¬ r'.length = l.length := c1
    have c2' : l.head? = some 48 → ¬ r'.length + 1 < l.length := c2
    have hlen : l.length = ds.length + r'.length := by rw [h2, List.length_append]
    have hds : ds ≠ [] := by rintro rfl; simp at hlen; omega
    have hu := dec_unique _ ds m rfl hds h3 (fun q hq => by
      have hh : l.head? = some 48 := by rw [h2, hq]; rfl
      have := c2' hh
      rw [hq] at hlen
      simp at hlen
      exact List.eq_nil_of_length_eq_zero (by omega))
    refine ⟨?_, show r'.length < l.length by have : 0 < ds.length := List.length_pos_iff.2 hds
                                             omega⟩
    cases neg
    · simp only [Bool.false_eq_true, if_false, List.nil_append]
      rw [itoa_pos, hu, h2]
    · simp only [if_true]
      have hm : m ≠ 0 := by
        rintro rfl
        exact c3 rfl rfl
      rw [Lib.itoa_neg m (by omega), hu, h2]; rfl
theorem numR_text {l : List UInt8} {n : Int} {r : List UInt8} (h : numR l = some (n, r)) : l = Lib.itoa n ++ r ∧ r.length < l.length := by
  cases l with
  | nil =>
    have := tailR_text (show tailR false [] = some (n, r) from h)
    exact ⟨by simpa using this.1, this.2⟩
  | cons b t =>
    rw [numR_cons] at h
    by_cases hb : b = 45
    · rw [if_pos hb] at h
      obtain ⟨h1, h2⟩ := tailR_text h
      exact ⟨by rw [hb, ← h1]; rfl, by rw [List.length_cons]; omega⟩
    · rw [if_neg hb] at h
      obtain ⟨h1, h2⟩ := tailR_text h
      exact ⟨by simpa using h1, h2⟩
/-- what comes next is no digit -/
def NoDig (r : List UInt8) : Prop := ∀ b t, r = b :: t → ¬ (48 ≤ b.toNat ∧ b.toNat ≤ 57)
theorem digsR_of : ∀ (k : Nat) (ds : List UInt8) (n m : Nat) (r : List UInt8), Lib.decFrom n ds = some m → ds.length ≤ k → NoDig r → digsR k (n : Int) (ds ++ r) = ((m : Int), r)
  | 0, ds, n, m, r, h, hl, _ => by
    obtain rfl := List.eq_nil_of_length_eq_zero (Nat.le_zero.1 hl)
    cases h; unfold digsR; rfl
  | k + 1, [], n, m, r, h, _, hn => by
    cases h
    cases r with
    | nil => unfold digsR; rfl
    | cons b t => rw [List.nil_append]; unfold digsR; rw [if_neg (hn b t rfl)]
  | k + 1, b :: ds, n, m, r, h, hl, hn => by
    rw [List.cons_append]
    unfold digsR
    unfold Lib.decFrom at h
    cases hb : Lib.digitVal b with
    | none => rw [hb] at h; cases h
    | some d =>
      rw [hb] at h
      obtain ⟨b1, b2, b3⟩ := Lib.digitVal_eq hb
      rw [if_pos ⟨b1, b2⟩]
      have := digsR_of k ds (n * 10 + d) m r h (by simpa using hl) hn
      rw [← this]; congr 1; omega
theorem numR_of {n : Int} {r : List UInt8} (h : argOk n = true) (hr : NoDig r) : numR (Lib.itoa n ++ r) = some (n, r) := by
  obtain ⟨h0, h1⟩ := argOk_le h
  have key : ∀ (u : Nat), u ≤ 1000000000 → ∀ neg, (neg = true → u ≠ 0) → tailR neg (Lib.decDigits u ++ r) = some ((if neg = true then -(u : Int) else (u : Int)), r) := fun u hu neg hneg => by
    have hd : digsR 10 0 (Lib.decDigits u ++ r) = ((u : Int), r) := digsR_of 10 _ 0 u r (dec_from u) (dec_len 9 u (by omega)) hr
    have hpos : 0 < (Lib.decDigits u).length := List.length_pos_iff.2 (dec_ne u)
    unfold tailR
    rw [hd, if_neg]
    rw [List.length_append]
    simp only [not_or, not_and]
    refine ⟨by omega, fun hh => ?_, fun hu0 hn => hneg hn (by omega)⟩
    cases he : Lib.decDigits u with
    | nil => exact absurd he (dec_ne u)
    | cons a t =>
      rw [he] at hh
      have : a = 48 := by simpa using hh
      rw [this] at he
      have := (dec_head u t he).2
      subst this
      simp; omega
  by_cases hn : n < 0
  · have e : Lib.itoa n = 45 :: Lib.decDigits n.natAbs := by unfold Lib.itoa; rw [if_pos hn]
    rw [e, List.cons_append]
    rw [numR_cons, if_pos rfl, key n.natAbs (by omega) true (fun _ => by omega)]
    simp only [if_true]
    congr 2; omega
  · have e : Lib.itoa n = Lib.decDigits n.toNat := by unfold Lib.itoa; rw [if_neg hn]
    rw [e]
    have hk := key n.toNat (by omega) false (fun h => by cases h)
    cases hd : Lib.decDigits n.toNat with
    | nil => exact absurd hd (dec_ne _)
    | cons b t =>
      have hb := dec_dig n.toNat b (by rw [hd]; simp)
      rw [hd] at hk
      rw [List.cons_append] at hk ⊢
      rw [numR_cons, if_neg (by rintro rfl; revert hb; decide), hk]
      simp only [Bool.false_eq_true, if_false]
      congr 2; omega
end Go.Proofs.YtldccpmnboebmaaDoor

/-! Pb -/
namespace Go.Proofs.YtldccpmnboebmaaDoor
open Go.RowKit

theorem letter_fine {m : Mod} (h : fineF m = true) : letterB m.name = true := by
  unfold fineF at h; simp only [Bool.and_eq_true] at h; exact h.1.1
theorem check_all {w : List Mod} (h : checkF w = 0) : w.all fineF = true := by
  unfold checkF at h
  by_cases h1 : 2000 < w.length
  · rw [if_pos h1] at h; cases h
  · rw [if_neg h1] at h
    cases h2 : w.all fineF
    · rw [h2] at h; cases h
    · rfl
/-! ### the text of a word -/
def bodyA (ns : List Int) : List UInt8 := ns.flatMap fun k => 44 :: Lib.itoa k
def argL : List Int → List UInt8
  | [] => []
  | n :: ns => 40 :: (Lib.itoa n ++ bodyA ns ++ [41])
def modL (m : Mod) : List UInt8 := m.name.toNat.toUInt8 :: argL m.args
def textL (ms : List Mod) : List UInt8 := ms.flatMap modL
def textF (ms : List Mod) : List UInt8 × Int := if checkF ms = 0 then (if 50000 < (textL ms).length then ([], 4) else (textL ms, 0)) else ([], checkF ms)
theorem bodyA_cons (n : Int) (ns : List Int) : bodyA (n :: ns) = 44 :: (Lib.itoa n ++ bodyA ns) := rfl
theorem textL_cons (m : Mod) (ms : List Mod) : textL (m :: ms) = modL m ++ textL ms := rfl
theorem letter_small {c : Int} (h : letterB c = true) : 0 ≤ c ∧ c ≤ 255 := by
  unfold letterB upB loB symB symL at h
  simp at h
  omega
theorem name_byte {c : Int} (h : letterB c = true) : ((c.toNat.toUInt8).toNat : Int) = c := by
  have := letter_small h
  rw [show (c.toNat.toUInt8).toNat = c.toNat % 256 from rfl]; omega

/-! ### cut and split at a byte -/
def cutC (c : UInt8) : List UInt8 → Option (List UInt8 × List UInt8)
  | [] => none
  | b :: r => if b = c then some ([], r) else (cutC c r).map fun p => (b :: p.1, p.2)
theorem cutC_text {c : UInt8} : ∀ {l p q : List UInt8}, cutC c l = some (p, q) → l = p ++ c :: q
  | [], _, _, h => by cases h
  | b :: r, p, q, h => by
    unfold cutC at h
    by_cases hb : b = c
    · rw [if_pos hb] at h; cases h; rw [hb]; rfl
    · rw [if_neg hb] at h
      cases hc : cutC c r with
      | none => rw [hc] at h; cases h
      | some x =>
        rw [hc] at h; cases h
        rw [cutC_text hc]; rfl
theorem cutC_of {c : UInt8} : ∀ {p q : List UInt8}, c ∉ p → cutC c (p ++ c :: q) = some (p, q)
  | [], q, _ => by rw [List.nil_append]; unfold cutC; rw [if_pos rfl]
  | b :: p, q, h => by
    rw [List.cons_append]; unfold cutC
    rw [if_neg (fun e => h (by simp [e])), cutC_of (fun e => h (by simp [e]))]; rfl
def splitC (c : UInt8) : List UInt8 → List (List UInt8)
  | [] => [[]]
  | b :: r => if b = c then [] :: splitC c r else match splitC c r with
    | [] => [[b]]
    | p :: ps => (b :: p) :: ps
def joinC (c : UInt8) : List (List UInt8) → List UInt8
  | [] => []
  | p :: ps => p ++ ps.flatMap (c :: ·)
theorem splitC_ne (c : UInt8) : ∀ l, splitC c l ≠ []
  | [] => by unfold splitC; simp
  | b :: r => by
    unfold splitC
    split
    · simp
    · split <;> simp
theorem join_split (c : UInt8) : ∀ l, joinC c (splitC c l) = l
  | [] => rfl
  | b :: r => by
    have ih := join_split c r
    unfold splitC
    by_cases h : b = c
    · rw [if_pos h]
      cases hs : splitC c r with
      | nil => exact absurd hs (splitC_ne c r)
      | cons p ps =>
        rw [hs] at ih
        show [] ++ (c :: p ++ ps.flatMap (c :: ·)) = b :: r
        rw [List.nil_append, List.cons_append, h]
        exact congrArg (c :: ·) ih
    · rw [if_neg h]
      cases hs : splitC c r with
      | nil => exact absurd hs (splitC_ne c r)
      | cons p ps =>
        rw [hs] at ih
        exact congrArg (b :: ·) ih
theorem split_front {c : UInt8} : ∀ {p : List UInt8} (r : List UInt8), c ∉ p → ∃ q qs, splitC c r = q :: qs ∧ splitC c (p ++ r) = (p ++ q) :: qs
  | [], r, _ => by
    cases hs : splitC c r with
    | nil => exact absurd hs (splitC_ne c r)
    | cons q qs => exact ⟨q, qs, rfl, by rw [List.nil_append, List.nil_append]; exact hs⟩
  | b :: p, r, h => by
    obtain ⟨q, qs, h1, h2⟩ := split_front r (p := p) (fun e => h (List.mem_cons_of_mem _ e))
    refine ⟨q, qs, h1, ?_⟩
    rw [List.cons_append]
    conv => lhs; unfold splitC
    rw [if_neg (fun e => h (by rw [e]; exact List.mem_cons_self)), h2]; rfl
theorem split_join {c : UInt8} : ∀ {ps : List (List UInt8)} {p : List UInt8}, (∀ q ∈ p :: ps, c ∉ q) → splitC c (joinC c (p :: ps)) = p :: ps
  | [], p, h => by
    obtain ⟨q, qs, h1, h2⟩ := split_front (c := c) (p := p) [] (h p (by simp))
    show splitC c (p ++ []) = [p]
    rw [h2]
    cases h1; simp
  | q :: ps, p, h => by
    have ih := split_join (ps := ps) (p := q) fun x hx => h x (List.mem_cons_of_mem _ hx)
    obtain ⟨x, xs, h1, h2⟩ := split_front (c := c) (p := p) (c :: joinC c (q :: ps)) (h p (by simp))
    have h3 : splitC c (c :: joinC c (q :: ps)) = [] :: splitC c (joinC c (q :: ps)) := by
      conv => lhs; unfold splitC
      rw [if_pos rfl]
    rw [h3, ih] at h1
    cases h1
    have e : joinC c (p :: q :: ps) = p ++ c :: joinC c (q :: ps) := rfl
    rw [e, h2]; simp

/-! ### the program's reading -/
def allP : List (List UInt8) → Option (List Int)
  | [] => some []
  | t :: ts => match numP t with
    | none => none
    | some n => (allP ts).map (n :: ·)
def modP (c : UInt8) : List UInt8 → Option (Mod × List UInt8)
  | [] => some (⟨c.toNat, []⟩, [])
  | b :: r => if b = 40 then (match cutC 41 r with
    | none => none
    | some (l, rest) => (allP (splitC 44 l)).map fun ag => (⟨c.toNat, ag⟩, rest)) else some (⟨c.toNat, []⟩, b :: r)
theorem modP_cons (c b : UInt8) (r : List UInt8) : modP c (b :: r) = if b = 40 then (match cutC 41 r with
    | none => none
    | some (l, rest) => (allP (splitC 44 l)).map fun ag => (⟨c.toNat, ag⟩, rest)) else some (⟨c.toNat, []⟩, b :: r) := rfl
theorem allP_text : ∀ {ts : List (List UInt8)} {ag : List Int}, allP ts = some ag → ts = ag.map Lib.itoa
  | [], ag, h => by cases h; rfl
  | t :: ts, ag, h => by
    unfold allP at h
    cases hn : numP t with
    | none => rw [hn] at h; cases h
    | some n =>
      rw [hn] at h
      cases ha : allP ts with
      | none => rw [ha] at h; cases h
      | some ag' =>
        rw [ha] at h; cases h
        rw [allP_text ha, List.map_cons, numP_text hn]
theorem allP_of : ∀ {ag : List Int}, ag.all argOk = true → allP (ag.map Lib.itoa) = some ag
  | [], _ => rfl
  | a :: ag, h => by
    rw [List.all_cons, Bool.and_eq_true] at h
    rw [List.map_cons]
    unfold allP
    rw [numP_of h.1, allP_of h.2]; rfl
theorem join_args (n : Int) (ns : List Int) : joinC 44 ((n :: ns).map Lib.itoa) = Lib.itoa n ++ bodyA ns := by
  show Lib.itoa n ++ (ns.map Lib.itoa).flatMap (44 :: ·) = _
  unfold bodyA
  rw [List.flatMap_map]
theorem modL_byte (c : UInt8) (ag : List Int) : modL ⟨c.toNat, ag⟩ = c :: argL ag := by
  unfold modL
  congr 1
  apply UInt8.toNat_inj.1
  show (((c.toNat : Int).toNat).toUInt8).toNat = c.toNat
  rw [Int.toNat_natCast, show (c.toNat.toUInt8).toNat = c.toNat % 256 from rfl]
  have := c.toNat_lt; omega
theorem modP_text {c : UInt8} {s : List UInt8} {m : Mod} {r : List UInt8} (h : modP c s = some (m, r)) : c :: s = modL m ++ r := by
  cases s with
  | nil => cases h; rw [modL_byte]; rfl
  | cons b t =>
    rw [modP_cons] at h
    by_cases hb : b = 40
    · rw [if_pos hb] at h
      cases hc : cutC 41 t with
      | none => rw [hc] at h; cases h
      | some x =>
        obtain ⟨l, rest⟩ := x
        rw [hc] at h
        dsimp only at h
        cases ha : allP (splitC 44 l) with
        | none => rw [ha] at h; cases h
        | some ag =>
          rw [ha] at h; cases h
          have hs := allP_text ha
          have hl := join_split 44 l
          rw [hs] at hl
          cases ag with
          | nil => exact absurd hs (splitC_ne 44 l)
          | cons n ns =>
            rw [join_args] at hl
            rw [modL_byte, cutC_text hc, ← hl, hb]
            show _ = c :: (40 :: (Lib.itoa n ++ bodyA ns ++ [41])) ++ r
            simp
    · rw [if_neg hb] at h; cases h; rw [modL_byte]; rfl
/-- what follows a module -/
def Sep (r : List UInt8) : Prop := ∀ b t, r = b :: t → b ≠ 40 ∧ b ≠ 44
theorem itoa_no {n : Int} {c : UInt8} (h : c = 40 ∨ c = 41 ∨ c = 44) : c ∉ Lib.itoa n := by
  refine itoa_not ?_ ?_
  · rcases h with rfl | rfl | rfl <;> decide
  · rcases h with rfl | rfl | rfl <;> decide
theorem body_no {ns : List Int} : (41 : UInt8) ∉ bodyA ns := by
  unfold bodyA
  intro h
  obtain ⟨k, _, hk⟩ := List.mem_flatMap.1 h
  rcases List.mem_cons.1 hk with e | e
  · revert e; decide
  · exact itoa_no (.inr (.inl rfl)) e
theorem modP_of {m : Mod} (h : fineF m = true) {r : List UInt8} (hr : Sep r) : modP m.name.toNat.toUInt8 (argL m.args ++ r) = some (m, r) := by
  have hl : letterB m.name = true ∧ m.args.all argOk = true := by unfold fineF at h; simp only [Bool.and_eq_true] at h; exact h.1
  have hm : ∀ ag, m.args = ag → (⟨((m.name.toNat.toUInt8).toNat : Int), ag⟩ : Mod) = m := fun ag e => by
    rw [name_byte hl.1, ← e]
  cases ha : m.args with
  | nil =>
    show modP _ ([] ++ r) = _
    rw [List.nil_append]
    cases r with
    | nil => show some ((⟨_, []⟩ : Mod), _) = _; rw [hm [] ha]
    | cons b t => rw [modP_cons, if_neg (hr b t rfl).1, hm [] ha]
  | cons n ns =>
    show modP _ (40 :: (Lib.itoa n ++ bodyA ns ++ [41]) ++ r) = _
    rw [List.cons_append, modP_cons, if_pos rfl]
    have e1 : Lib.itoa n ++ bodyA ns ++ [41] ++ r = (Lib.itoa n ++ bodyA ns) ++ 41 :: r := by simp
    rw [e1, cutC_of (fun hx => by
      rcases List.mem_append.1 hx with e | e
      · exact itoa_no (.inr (.inl rfl)) e
      · exact body_no e)]
    dsimp only
    rw [← join_args, List.map_cons, split_join (fun q hq => by
      rw [← List.map_cons] at hq
      obtain ⟨k, _, rfl⟩ := List.mem_map.1 hq
      exact itoa_no (.inr (.inr rfl))), ← List.map_cons, allP_of (by rw [← ha]; exact hl.2)]
    show some ((⟨_, n :: ns⟩ : Mod), r) = _
    rw [hm _ ha]

/-! ### the reference's reading -/
def argsR : Nat → List Int → List UInt8 → Option (List Int × List UInt8)
  | _, ag, [] => some (ag, [])
  | 0, ag, b :: r => some (ag, b :: r)
  | f + 1, ag, b :: r => if (b = 40 ∧ ag = []) ∨ (b = 44 ∧ ag ≠ []) then (match numR r with
    | none => none
    | some (n, r') => argsR f (ag ++ [n]) r') else some (ag, b :: r)
theorem argsR_nil (f : Nat) (ag : List Int) : argsR f ag [] = some (ag, []) := by cases f <;> rfl
theorem argsR_cons (f : Nat) (ag : List Int) (b : UInt8) (r : List UInt8) : argsR (f + 1) ag (b :: r) = if (b = 40 ∧ ag = []) ∨ (b = 44 ∧ ag ≠ []) then (match numR r with
    | none => none
    | some (n, r') => argsR f (ag ++ [n]) r') else some (ag, b :: r) := rfl
def closeR (c : UInt8) (ag : List Int) (l : List UInt8) : Option (Mod × List UInt8) :=
  if ag = [] then some (⟨c.toNat, []⟩, l) else if l.head? = some 41 then some (⟨c.toNat, ag⟩, l.tail) else none
def modR (c : UInt8) (s : List UInt8) : Option (Mod × List UInt8) := match argsR s.length [] s with
  | none => none
  | some (ag, l) => closeR c ag l
theorem argsR_more : ∀ (f : Nat) {ag ag' : List Int} {l r : List UInt8}, ag ≠ [] → argsR f ag l = some (ag', r) → ∃ ns, ag' = ag ++ ns ∧ l = bodyA ns ++ r
  | f, ag, ag', [], r, _, h => by
    rw [argsR_nil] at h; cases h
    exact ⟨[], by simp, rfl⟩
  | 0, ag, ag', b :: t, r, _, h => by cases h; exact ⟨[], by simp, rfl⟩
  | f + 1, ag, ag', b :: t, r, hne, h => by
    rw [argsR_cons] at h
    split at h
    · rename_i hc
      have hb : b = 44 := by rcases hc with ⟨_, e⟩ | ⟨e, _⟩; exact absurd e hne; exact e
      cases hn : numR t with
      | none => rw [hn] at h; cases h
      | some x =>
        obtain ⟨n, r'⟩ := x
        rw [hn] at h
        obtain ⟨ns, h1, h2⟩ := argsR_more f (by simp) h
        refine ⟨n :: ns, by rw [h1]; simp, ?_⟩
        rw [hb, (numR_text hn).1, h2, bodyA_cons]; simp
    · cases h; exact ⟨[], by simp, rfl⟩
theorem modR_text {c : UInt8} {s : List UInt8} {m : Mod} {r : List UInt8} (h : modR c s = some (m, r)) : c :: s = modL m ++ r := by
  unfold modR at h
  cases s with
  | nil => cases h; rw [modL_byte]; rfl
  | cons b t =>
    rw [show (b :: t).length = t.length + 1 from rfl, argsR_cons] at h
    by_cases hb : b = 40
    · rw [if_pos (.inl ⟨hb, rfl⟩)] at h
      cases hn : numR t with
      | none => rw [hn] at h; cases h
      | some x =>
        obtain ⟨n, r'⟩ := x
        rw [hn] at h
        dsimp only at h
        cases ha : argsR t.length ([] ++ [n]) r' with
        | none => rw [ha] at h; cases h
        | some y =>
          obtain ⟨ag, l⟩ := y
          rw [ha] at h
          obtain ⟨ns, h1, h2⟩ := argsR_more _ (by simp) ha
          dsimp only at h
          unfold closeR at h
          rw [if_neg (by rw [h1]; simp)] at h
          split at h
          · rename_i hh
            cases h
            cases l with
            | nil => cases hh
            | cons d l =>
              have hd : d = 41 := by simpa using hh
              rw [modL_byte, (numR_text hn).1, h2, hb, hd, h1]
              show _ = c :: (40 :: (Lib.itoa n ++ bodyA ns ++ [41])) ++ l
              simp
          · cases h
    · rw [if_neg (by rintro (⟨e, _⟩ | ⟨_, e⟩); exact hb e; exact e rfl)] at h
      have h' : some ((⟨c.toNat, []⟩ : Mod), b :: t) = some (m, r) := h
      cases h'; rw [modL_byte]; rfl
theorem argsR_of : ∀ (f : Nat) {ag : List Int} (ns : List Int) {r : List UInt8}, ag ≠ [] → ns.all argOk = true → (bodyA ns ++ 41 :: r).length ≤ f → argsR f ag (bodyA ns ++ 41 :: r) = some (ag ++ ns, 41 :: r)
  | 0, ag, ns, r, _, _, hl => by simp at hl
  | f + 1, ag, [], r, hne, _, _ => by
    show argsR (f + 1) ag (41 :: r) = _
    rw [argsR_cons, if_neg (by rintro (⟨e, _⟩ | ⟨e, _⟩) <;> revert e <;> decide)]; simp
  | f + 1, ag, n :: ns, r, hne, ha, hl => by
    rw [List.all_cons, Bool.and_eq_true] at ha
    rw [bodyA_cons] at hl ⊢
    rw [List.cons_append, argsR_cons, if_pos (.inr ⟨rfl, hne⟩), List.append_assoc, numR_of ha.1 (by
      intro b t e
      cases ns with
      | nil => cases e; decide
      | cons k ks => rw [bodyA_cons] at e; cases e; decide)]
    show argsR f (ag ++ [n]) (bodyA ns ++ 41 :: r) = _
    rw [argsR_of f ns (by simp) ha.2 (by simp at hl ⊢; omega)]; simp
theorem modR_of {m : Mod} (h : fineF m = true) {r : List UInt8} (hr : Sep r) : modR m.name.toNat.toUInt8 (argL m.args ++ r) = some (m, r) := by
  have hl : letterB m.name = true ∧ m.args.all argOk = true := by unfold fineF at h; simp only [Bool.and_eq_true] at h; exact h.1
  have hm : ∀ ag, m.args = ag → (⟨((m.name.toNat.toUInt8).toNat : Int), ag⟩ : Mod) = m := fun ag e => by
    rw [name_byte hl.1, ← e]
  unfold modR
  cases ha : m.args with
  | nil =>
    show (match argsR ([] ++ r).length [] ([] ++ r) with | none => none | some (ag, l) => closeR _ ag l) = _
    rw [List.nil_append]
    have : argsR r.length [] r = some ([], r) := by
      cases r with
      | nil => rfl
      | cons b t => rw [show (b :: t).length = t.length + 1 from rfl, argsR_cons, if_neg (by rintro (⟨e, _⟩ | ⟨_, e⟩); exact (hr b t rfl).1 e; exact e rfl)]
    rw [this]
    show closeR _ [] r = _
    unfold closeR
    rw [if_pos rfl, hm [] ha]
  | cons n ns =>
    have hok := hl.2
    rw [ha, List.all_cons, Bool.and_eq_true] at hok
    have e1 : argL (n :: ns) ++ r = 40 :: (Lib.itoa n ++ (bodyA ns ++ 41 :: r)) := by
      show 40 :: (Lib.itoa n ++ bodyA ns ++ [41]) ++ r = _
      simp
    rw [e1, List.length_cons, argsR_cons, if_pos (.inl ⟨rfl, rfl⟩), numR_of hok.1 (by
      intro b t e
      cases ns with
      | nil => cases e; decide
      | cons k ks => rw [bodyA_cons] at e; cases e; decide)]
    dsimp only
    rw [argsR_of _ ns (by simp) hok.2 (by simp)]
    show closeR _ ([n] ++ ns) (41 :: r) = _
    unfold closeR
    rw [if_neg (by simp), if_pos (by rfl)]
    show some ((⟨_, [n] ++ ns⟩ : Mod), r) = _
    rw [show [n] ++ ns = n :: ns from rfl, hm _ ha]

/-! ### the modules of a text -/
def modsG (g : UInt8 → List UInt8 → Option (Mod × List UInt8)) : Nat → List UInt8 → Option (List Mod)
  | _, [] => some []
  | 0, _ :: _ => none
  | f + 1, c :: s => match g c s with
    | none => none
    | some (m, r) => (modsG g f r).map (m :: ·)
theorem modsG_nil (g : UInt8 → List UInt8 → Option (Mod × List UInt8)) (f : Nat) : modsG g f [] = some [] := by cases f <;> rfl
theorem modsG_cons (g : UInt8 → List UInt8 → Option (Mod × List UInt8)) (f : Nat) (c : UInt8) (s : List UInt8) : modsG g (f + 1) (c :: s) = match g c s with
    | none => none
    | some (m, r) => (modsG g f r).map (m :: ·) := rfl
def parseG (g : UInt8 → List UInt8 → Option (Mod × List UInt8)) (s : List UInt8) : List Mod × Int :=
  if 50000 < s.length then ([], 12) else match modsG g s.length s with
    | none => ([], 12)
    | some ws => if checkF ws = 0 then (ws, 0) else ([], 12)
def parseF (s : List UInt8) : List Mod × Int := parseG modP s
theorem modsG_text {g : UInt8 → List UInt8 → Option (Mod × List UInt8)} (hg : ∀ c s m r, g c s = some (m, r) → c :: s = modL m ++ r) : ∀ (f : Nat) {s : List UInt8} {ws : List Mod}, modsG g f s = some ws → textL ws = s
  | f, [], ws, h => by rw [modsG_nil] at h; cases h; rfl
  | 0, _ :: _, ws, h => by cases h
  | f + 1, c :: s, ws, h => by
    rw [modsG_cons] at h
    cases hm : g c s with
    | none => rw [hm] at h; cases h
    | some x =>
      obtain ⟨m, r⟩ := x
      rw [hm] at h
      dsimp only at h
      cases hr : modsG g f r with
      | none => rw [hr] at h; cases h
      | some ws' =>
        rw [hr] at h; cases h
        rw [textL_cons, modsG_text hg f hr, hg _ _ _ _ hm]
theorem text_sep {ms : List Mod} (h : ms.all fineF = true) : Sep (textL ms) := by
  intro b t e
  cases ms with
  | nil => cases e
  | cons m ms =>
    rw [List.all_cons, Bool.and_eq_true] at h
    have hl : letterB m.name = true := letter_fine h.1
    rw [textL_cons] at e
    have hb : b = m.name.toNat.toUInt8 := by
      unfold modL at e; cases e; rfl
    have hn := name_byte hl
    rw [← hb] at hn
    constructor
    · rintro rfl
      rw [← hn] at hl; revert hl; decide
    · rintro rfl
      rw [← hn] at hl; revert hl; decide
theorem modsG_of {g : UInt8 → List UInt8 → Option (Mod × List UInt8)} (hg : ∀ m, fineF m = true → ∀ r, Sep r → g m.name.toNat.toUInt8 (argL m.args ++ r) = some (m, r)) : ∀ (f : Nat) {ws : List Mod}, ws.all fineF = true → (textL ws).length ≤ f → modsG g f (textL ws) = some ws
  | f, [], _, _ => modsG_nil g f
  | 0, m :: ws, _, hl => by rw [textL_cons] at hl; unfold modL at hl; simp at hl
  | f + 1, m :: ws, h, hl => by
    rw [List.all_cons, Bool.and_eq_true] at h
    rw [textL_cons] at hl ⊢
    unfold modL at hl ⊢
    rw [List.cons_append, modsG_cons, hg m h.1 _ (text_sep h.2)]
    dsimp only
    rw [modsG_of hg f h.2 (by simp at hl; omega)]; rfl
theorem parseG_iff {g : UInt8 → List UInt8 → Option (Mod × List UInt8)} (h1 : ∀ c s m r, g c s = some (m, r) → c :: s = modL m ++ r) (h2 : ∀ m, fineF m = true → ∀ r, Sep r → g m.name.toNat.toUInt8 (argL m.args ++ r) = some (m, r)) (s : List UInt8) :
    (∃ ws, parseG g s = (ws, 0) ∧ textL ws = s ∧ checkF ws = 0 ∧ s.length ≤ 50000) ∨ (parseG g s = ([], 12) ∧ ∀ ws, textL ws = s → checkF ws = 0 → 50000 < s.length) := by
  unfold parseG
  by_cases hl : 50000 < s.length
  · rw [if_pos hl]; exact .inr ⟨rfl, fun _ _ _ => hl⟩
  · rw [if_neg hl]
    have hno : ∀ ws, textL ws = s → checkF ws = 0 → modsG g s.length s = some ws := fun ws e hc => by
      subst e
      exact modsG_of h2 _ (check_all hc) (Nat.le_refl _)
    cases hm : modsG g s.length s with
    | none =>
      refine .inr ⟨rfl, fun ws e hc => ?_⟩
      have := hno ws e hc
      rw [hm] at this; cases this
    | some ws =>
      by_cases hc : checkF ws = 0
      · exact .inl ⟨ws, by show (if checkF ws = 0 then (ws, 0) else ([], 12)) = _; rw [if_pos hc], modsG_text h1 _ hm, hc, by omega⟩
      · refine .inr ⟨by show (if checkF ws = 0 then (ws, 0) else ([], 12)) = _; rw [if_neg hc], fun ws' e hc' => ?_⟩
        have := hno ws' e hc'
        rw [hm] at this; cases this
        exact absurd hc' hc
theorem text_inj {a b : List Mod} (ha : checkF a = 0) (hb : checkF b = 0) (h : textL a = textL b) : a = b := by
  have h1 := modsG_of (g := modP) (fun m hm r hr => modP_of hm hr) _ (check_all ha) (Nat.le_refl (textL a).length)
  have h2 := modsG_of (g := modP) (fun m hm r hr => modP_of hm hr) _ (check_all hb) (Nat.le_refl (textL b).length)
  rw [h, h2] at h1
  exact (Option.some.inj h1).symm
theorem parse_alike (s : List UInt8) : parseG modR s = parseF s := by
  rcases parseG_iff (g := modR) (fun c s m r h => modR_text h) (fun m hm r hr => modR_of hm hr) s with ⟨ws, h1, h2, h3, h4⟩ | ⟨h1, h2⟩
  · rcases parseG_iff (g := modP) (fun c s m r h => modP_text h) (fun m hm r hr => modP_of hm hr) s with ⟨vs, k1, k2, k3, k4⟩ | ⟨k1, k2⟩
    · have := text_inj h3 k3 (h2.trans k2.symm)
      subst this
      exact h1.trans k1.symm
    · have := k2 ws h2 h3; omega
  · rcases parseG_iff (g := modP) (fun c s m r h => modP_text h) (fun m hm r hr => modP_of hm hr) s with ⟨vs, k1, k2, k3, k4⟩ | ⟨k1, k2⟩
    · have := h2 vs k2 k3; omega
    · exact h1.trans k1.symm
/-- the stage's theorem: the reading of a word's text is the word -/
theorem parse_back {ms : List Mod} (hc : checkF ms = 0) (hl : ¬ 50000 < (textL ms).length) : parseF (textL ms) = (ms, 0) := by
  rcases parseG_iff (g := modP) (fun c s m r h => modP_text h) (fun m hm r hr => modP_of hm hr) (textL ms) with ⟨vs, k1, k2, k3, k4⟩ | ⟨k1, k2⟩
  · have := text_inj k3 hc k2
    subst this
    exact k1
  · have := k2 ms rfl hc; omega
theorem parse_ok {s : List UInt8} (h : (parseF s).2 = 0) : textL (parseF s).1 = s ∧ checkF (parseF s).1 = 0 ∧ s.length ≤ 50000 := by
  rcases parseG_iff (g := modP) (fun c s m r h => modP_text h) (fun m hm r hr => modP_of hm hr) s with ⟨vs, k1, k2, k3, k4⟩ | ⟨k1, k2⟩
  · have e : parseF s = (vs, 0) := k1
    rw [e]; exact ⟨k2, k3, k4⟩
  · have e : parseF s = ([], 12) := k1
    rw [e] at h; cases h
end Go.Proofs.YtldccpmnboebmaaDoor

/-! Pc -/
namespace Go.Proofs.YtldccpmnboebmaaDoor
open Go.RowKit

end Go.Proofs.YtldccpmnboebmaaDoor

/-! Wb -/
namespace Go.Proofs.YtldccpmnboebmaaDoor
open Go.RowKit

def CheckPost (ms : List Mod) (w : World) (e : Ending) (w' : World) : Prop := e = .returned (.int .i64 (checkF ms)) ∧ Below w.heap.size w w'

theorem modAt_keep {w w' : World} {A : Option Addr} {c : Nat} {xs : List Mod} (h : SlAt pMod (Old w) w A c xs) (hb : Below w.heap.size w w') : SlAt pMod (Old w) w' A c xs := h.below hb

set_option maxRecDepth 100000 in
set_option maxHeartbeats 1000000 in
theorem wordCheck_calls (A : Option Addr) (c : Nat) (ms : List Mod) (w : World) (h : SlAt pMod (Old w) w A c ms) :
    Calls Tryd.prog 24 #[.slice A ms.length c] w (CheckPost ms w) := by
  have hmx := h.lenle
  have H := Lib.hid h; clear h
  by_cases hbig : 2000 < ms.length
  · go_enter Tryd.func24, Tryd.ntmps24
    go_wp2
    go_ret
    exact ⟨ret_int (by unfold checkF; rw [if_pos hbig]), Below.refl _ _⟩
  · have Hbig := Lib.hid hbig; clear hbig
    have hle : ms.length ≤ 2000 := by have := Hbig.out; omega
    go_enter Tryd.func24, Tryd.ntmps24
    go_wp2
    go_loopw [12] (fun i wr => ∃ k : Nat, k ≤ ms.length ∧ i = .int .i64 k ∧ Hid (Below w.heap.size w wr) ∧ w.heap.size ≤ wr.heap.size ∧ Hid (ms.all fineF = (ms.drop k).all fineF)) (fun i _ => ms.length - (intOf i).toNat)
    case atStart => exact ⟨0, Nat.zero_le _, rfl, Below.refl _ _, Nat.le_refl _, rfl⟩
    case round =>
      obtain ⟨k, hk, rfl, hb, hsz, hall⟩ := hrel
      obtain ⟨wo, rfl⟩ : ∃ wo : World, wo = wr := ⟨_, rfl⟩
      by_cases hlt : k < ms.length
      · obtain ⟨b, o, A', c', m, hd, rfl, hob, hc0, hc1, hf8, hargs, hl⟩ := (H.out.below hb.out).getMod hlt
        have hob' : b < wo.heap.size := Nat.lt_of_lt_of_le hob hsz
        have hcall : ∀ W : World, Below wo.heap.size wo W → Calls Tryd.prog 37 #[.agg #[.int .u8 m.name, .slice A' m.args.length c']] W (FinePost m W) := fun W hW =>
          fine_calls A' c' m W (hargs.out.keep fun q hq => hW.block q (Nat.lt_of_lt_of_le hq hsz)) (fun q hq => Nat.lt_of_lt_of_le hq (Nat.le_trans hsz hW.size)) hf8
        have Hcall := Lib.hid hcall; clear hcall
        go_wp2_with fail
        refine (Hcall.out _ (((Below.refl _ _).alloc (Nat.le_refl _) _))).mono ?_
        rintro e w1 ⟨rfl, hb1⟩
        have hsz1 := hb1.size
        simp at hsz1
        have hbw : Below w.heap.size w w1 := (hb.out.alloc hsz _).trans (hb1.mono (by simp; omega))
        have Hbw := Lib.hid hbw; clear hbw hb1
        cases hfm : fineF m
        · go_wp2
          go_ret
          refine ⟨ret_int ?_, Hbw.out⟩
          unfold checkF
          rw [if_neg Hbig.out, if_pos]
          rw [hall.out, hd.out, List.all_cons, hfm]; rfl
        · go_wp2
          go_roundw
          case rel =>
            refine ⟨k + 1, by omega, by go_num, Hbw, Hbw.out.size, ?_⟩
            unfold Hid; rw [hall.out, hd.out, List.all_cons, hfm]; rfl
          case measure => simp [intOf]; omega
      · have hok : ms.all fineF = true := by rw [hall.out, drop_end hlt]; rfl
        have Hok := Lib.hid hok; clear hok
        go_wp2
        go_loopw [22, 5] (fun i n wr => ∃ k o : Nat, k ≤ ms.length ∧ o ≤ k ∧ i = .int .i64 k ∧ n = .int .i64 o ∧ wr = wo ∧ Hid (scan 0 ms = scan o (ms.drop k))) (fun i _ _ => ms.length - (intOf i).toNat)
        case atStart => exact ⟨0, 0, Nat.zero_le _, Nat.le_refl _, rfl, rfl, rfl, rfl⟩
        case round =>
          obtain ⟨k2, op, hk2, hop, rfl, rfl, rfl, hsc⟩ := hrel
          by_cases hlt2 : k2 < ms.length
          · obtain ⟨b, o, A', c', m, hd, rfl, hob, hc0, hc1, hf8, hargs, hl⟩ := (H.out.below hb.out).getMod hlt2
            by_cases h91 : m.name = 91
            · have e0 : (m.name == 91) = true := by simp [h91]
              have e1 : (m.name == 93) = false := by simp [h91]
              have H91 := Lib.hid h91; clear h91
              go_wp2
              go_roundw
              case rel =>
                refine ⟨k2 + 1, op + 1, by omega, by omega, by go_num, by go_num, trivial, ?_⟩
                unfold Hid; rw [hsc.out, hd.out]; simp [scan, H91.out]
              case measure => simp [intOf]; omega
            · have e0 : (m.name == 91) = false := by simp [h91]
              by_cases h93 : m.name = 93
              · have e1 : (m.name == 93) = true := by simp [h93]
                have H93 := Lib.hid h93; clear h93
                by_cases h0 : op = 0
                · subst h0
                  go_wp2
                  go_ret
                  refine ⟨ret_int ?_, hb.out⟩
                  unfold checkF
                  rw [if_neg Hbig.out, if_neg (by rw [Hok.out]; decide), hsc.out, hd.out]; simp [scan, H93.out]
                · have e2 : ((op : Int) == 0) = false := by simp; omega
                  go_wp2
                  go_roundw
                  case rel =>
                    refine ⟨k2 + 1, op - 1, by omega, by omega, by go_num, by congr 1; omega, trivial, ?_⟩
                    unfold Hid; rw [hsc.out, hd.out]; simp [scan, H93.out, h0]
                  case measure => simp [intOf]; omega
              · have e1 : (m.name == 93) = false := by simp [h93]
                go_wp2
                go_roundw
                case rel =>
                  refine ⟨k2 + 1, op, by omega, by omega, by go_num, rfl, trivial, ?_⟩
                  unfold Hid; rw [hsc.out, hd.out]; simp [scan, h91, h93]
                case measure => simp [intOf]; omega
          · have hs : scan 0 ms = some op := by rw [hsc.out, drop_end hlt2]; rfl
            have Hs := Lib.hid hs; clear hs
            by_cases h0 : 0 < op
            · go_wp2
              go_ret
              refine ⟨ret_int ?_, hb.out⟩
              unfold checkF
              rw [if_neg Hbig.out, if_neg (by rw [Hok.out]; decide), Hs.out]; simp [h0]
            · obtain rfl : op = 0 := by omega
              go_wp2
              go_ret
              refine ⟨ret_int ?_, hb.out⟩
              unfold checkF
              rw [if_neg Hbig.out, if_neg (by rw [Hok.out]; decide), Hs.out]; rfl

/-! ### the reference -/
theorem symS_get (k : Nat) (hk : k < (⟨#[43, 45, 38, 94, 124, 33, 91, 93]⟩ : ByteArray).size) : symL[k]? = some (((⟨#[43, 45, 38, 94, 124, 33, 91, 93]⟩ : ByteArray)[k]'hk).toNat : Int) := by
  have h8 : k < 8 := hk
  rcases (show k = 0 ∨ k = 1 ∨ k = 2 ∨ k = 3 ∨ k = 4 ∨ k = 5 ∨ k = 6 ∨ k = 7 by omega) with rfl | rfl | rfl | rfl | rfl | rfl | rfl | rfl <;> rfl
set_option maxRecDepth 100000 in
set_option maxHeartbeats 2000000 in
theorem letter_calls (c : Int) (w : World) : Calls Tryd.prog 57 #[.int .u8 c] w fun e w' => e = .returned (.bool (letterB c)) ∧ w = w' := by
  go_enter Tryd.func57, Tryd.ntmps57
  go_wp2
  go_loop [4] (fun i => ∃ k : Nat, k ≤ 8 ∧ i = .int .i64 k ∧ Hid (symB c = (symL.drop k).contains c)) (fun i => 8 - (intOf i).toNat)
  case atStart => exact ⟨0, by omega, rfl, rfl⟩
  case round =>
    obtain ⟨k, hk, rfl, hs⟩ := hrel
    by_cases h8 : k < 8
    · have step : ∀ v : Int, symL[k]? = some v → v = c ∨ (v ≠ c ∧ symB c = (symL.drop (k + 1)).contains c) := by
        intro v hv
        by_cases hvc : v = c
        · exact .inl hvc
        · refine .inr ⟨hvc, ?_⟩
          rw [hs.out, drop_cons hv, List.contains_cons]
          simp [Ne.symm hvc]
      have yes : ∀ v : Int, symL[k]? = some v → v = c → letterB c = true := by
        intro v hv hvc
        unfold letterB
        rw [hs.out, drop_cons hv, List.contains_cons, hvc]; simp
      have hget := symS_get k h8
      by_cases hvc : (((⟨#[43, 45, 38, 94, 124, 33, 91, 93]⟩ : ByteArray)[k]'h8).toNat : Int) = c
      · have hy := yes _ hget hvc
        have e0 : ((((⟨#[43, 45, 38, 94, 124, 33, 91, 93]⟩ : ByteArray)[k]'h8).toNat : Int) == c) = true := by simpa using hvc
        have Hy := Lib.hid hy
        clear hy step yes hget hvc
        go_wp2
        go_ret
        exact ⟨ret_bool Hy.out.symm, rfl⟩
      · have hy := (step _ hget).resolve_left hvc
        have e0 : ((((⟨#[43, 45, 38, 94, 124, 33, 91, 93]⟩ : ByteArray)[k]'h8).toNat : Int) == c) = false := by simpa using hvc
        have Hn := Lib.hid hy.2
        clear hy step yes hget hvc
        go_wp2
        go_round
        case rel => exact ⟨k + 1, by omega, by go_num, Hn⟩
        case measure => simp [intOf]; omega
    · have hs2 : symB c = false := by rw [hs.out, drop_end (show ¬ k < symL.length from h8)]; rfl
      have Hs2 := Lib.hid hs2; clear hs2
      have hcs : c < 65 ∨ (65 ≤ c ∧ c ≤ 90) ∨ (90 < c ∧ c < 97) ∨ (97 ≤ c ∧ c ≤ 122) ∨ 122 < c := by omega
      rcases hcs with h1 | ⟨h1, h2⟩ | ⟨h1, h2⟩ | ⟨h1, h2⟩ | h1
      all_goals
        go_wp2
        go_ret
        refine ⟨ret_bool ?_, rfl⟩
        unfold letterB upB loB; rw [Hs2.out, Bool.eq_iff_iff]; simp; try omega

def openL (n : Nat) : List Mod → Option (List Int)
  | [] => some []
  | m :: ms => if m.name = 91 then (openL (n + 1) ms).map ((((n + 1 : Nat) : Int)) :: ·) else if m.name = 93 then (if n = 0 then none else (openL (n - 1) ms).map (((n - 1 : Nat) : Int) :: ·)) else (openL n ms).map ((n : Int) :: ·)
theorem scan_openL : ∀ (ms : List Mod) (n : Nat), Option.map (fun k : Nat => (k : Int)) (scan n ms) = (openL n ms).map (fun l => l.getLast?.getD (n : Int))
  | [], n => rfl
  | m :: ms, n => by
    have key : ∀ k : Nat, Option.map (fun k : Nat => (k : Int)) (scan k ms) = ((openL k ms).map ((k : Int) :: ·)).map (fun l => l.getLast?.getD (n : Int)) := by
      intro k
      rw [scan_openL ms k, Option.map_map]
      congr 1
      funext l
      cases l with
      | nil => rfl
      | cons x l => simp [List.getLast?_cons]
    unfold scan openL
    split
    · exact key (n + 1)
    · split
      · split
        · rfl
        · exact key (n - 1)
      · exact key n

set_option maxRecDepth 100000 in
set_option maxHeartbeats 2000000 in
theorem refFine_calls {F : Nat → Prop} (A : Option Addr) (c : Nat) (m : Mod) (w : World) (h : SlAt (pI .i64) F w A c m.args) (hF : ∀ k, F k → k < w.heap.size) :
    Calls Tryd.prog 35 #[.agg #[.int .u8 m.name, .slice A m.args.length c]] w (FinePost m w) := by
  obtain ⟨nm, args⟩ := m
  simp only at h ⊢
  have hmx := h.lenle
  have H := Lib.hid h; clear h
  have HF := Lib.hid hF; clear hF
  have hkp : ∀ k, F k → (w.alloc (.cells #[.int .u8 nm, .slice A args.length c] 44)).heap[k]? = w.heap[k]? := fun k hk => Below.heap_alloc _ _ _ (HF.out k hk)
  have H2 := Lib.hid (H.out.keep hkp)
  clear hkp
  have no : fineF ⟨nm, args⟩ = false → FinePost ⟨nm, args⟩ w (.returned (.bool false)) (w.alloc (.cells #[.int .u8 nm, .slice A args.length c] 44)) := fun hn => ⟨by rw [hn], (Below.refl _ _).alloc (Nat.le_refl _) _⟩
  have No := Lib.hid no; clear no
  cases hlt : letterB nm
  · go_enter Tryd.func35, Tryd.ntmps35
    go_wp2_with (go_at_call 57; refine (letter_calls _ _).mono ?_; rintro e w' ⟨rfl, rfl⟩)
    go_ret
    exact No.out (by unfold fineF; rw [hlt]; rfl)
  · by_cases h4 : 4 < args.length
    · go_enter Tryd.func35, Tryd.ntmps35
      go_wp2_with (go_at_call 57; refine (letter_calls _ _).mono ?_; rintro e w' ⟨rfl, rfl⟩)
      go_ret
      exact No.out (by unfold fineF shapeOk; rw [show (args.length == 0) = false from by simp; rintro rfl; simp at h4, show decide (args.length ≤ 4) = false from by simp; omega]; simp)
    · have hcase : (shapeOk ⟨nm, args⟩ = false ∧ 0 < args.length ∧ (((nm == 91) = true) ∨ ((nm == 91) = false ∧ (nm == 93) = true))) ∨
          (shapeOk ⟨nm, args⟩ = true ∧ (((nm == 91) = true ∧ ¬ 0 < args.length) ∨ ((nm == 91) = false ∧ (nm == 93) = true ∧ ¬ 0 < args.length) ∨ ((nm == 91) = false ∧ (nm == 93) = false))) := by
        unfold shapeOk
        by_cases h0 : 0 < args.length
        · have e0 : (args.length == 0) = false := by simp; rintro rfl; simp at h0
          have e4 : decide (args.length ≤ 4) = true := by simp; omega
          simp only [e0, e4]
          by_cases h1 : nm = 91
          · left; subst h1; exact ⟨rfl, h0, .inl rfl⟩
          · by_cases h3 : nm = 93
            · left; subst h3; exact ⟨rfl, h0, .inr ⟨rfl, rfl⟩⟩
            · right; exact ⟨by simp [h1, h3], .inr (.inr ⟨by simp [h1], by simp [h3]⟩)⟩
        · have e0 : (args.length == 0) = true := by simp; exact List.eq_nil_of_length_eq_zero (by omega)
          right
          refine ⟨by simp [e0], ?_⟩
          by_cases h1 : nm = 91
          · exact .inl ⟨by simp [h1], h0⟩
          · by_cases h3 : nm = 93
            · exact .inr (.inl ⟨by simp [h1], by simp [h3], h0⟩)
            · exact .inr (.inr ⟨by simp [h1], by simp [h3]⟩)
      rcases hcase with ⟨hsh, h0, h1 | ⟨h1, h3⟩⟩ | ⟨hsh, hcs⟩
      · go_enter Tryd.func35, Tryd.ntmps35
        go_wp2_with (go_at_call 57; refine (letter_calls _ _).mono ?_; rintro e w' ⟨rfl, rfl⟩)
        go_ret
        exact No.out (by unfold fineF; rw [hsh]; simp)
      · go_enter Tryd.func35, Tryd.ntmps35
        go_wp2_with (go_at_call 57; refine (letter_calls _ _).mono ?_; rintro e w' ⟨rfl, rfl⟩)
        go_ret
        exact No.out (by unfold fineF; rw [hsh]; simp)
      · have Hsh := Lib.hid hsh; clear hsh
        go_enter Tryd.func35, Tryd.ntmps35
        rcases hcs with ⟨h1, h0⟩ | ⟨h1, h3, h0⟩ | ⟨h1, h3⟩
        · go_wp2_with (go_at_call 57; refine (letter_calls _ _).mono ?_; rintro e w' ⟨rfl, rfl⟩)
          have Hlt := Lib.hid hlt
          go_loop [3] (fun i => i = .int .i64 0) (fun i => 0)
          case atStart => rfl
          case round =>
            subst hrel
            go_wp2
            go_ret
            refine ⟨ret_bool ?_, (Below.refl _ _).alloc (Nat.le_refl _) _⟩
            have ha : args = [] := List.eq_nil_of_length_eq_zero (by omega)
            unfold fineF; rw [Hlt.out, Hsh.out, ha]; rfl
        · go_wp2_with (go_at_call 57; refine (letter_calls _ _).mono ?_; rintro e w' ⟨rfl, rfl⟩)
          have Hlt := Lib.hid hlt
          go_loop [3] (fun i => i = .int .i64 0) (fun i => 0)
          case atStart => rfl
          case round =>
            subst hrel
            go_wp2
            go_ret
            refine ⟨ret_bool ?_, (Below.refl _ _).alloc (Nat.le_refl _) _⟩
            have ha : args = [] := List.eq_nil_of_length_eq_zero (by omega)
            unfold fineF; rw [Hlt.out, Hsh.out, ha]; rfl
        · go_wp2_with (go_at_call 57; refine (letter_calls _ _).mono ?_; rintro e w' ⟨rfl, rfl⟩)
          have Hlt := Lib.hid hlt
          go_loop [3] (fun i => ∃ k : Nat, k ≤ args.length ∧ i = .int .i64 k ∧ Hid (args.all argOk = (args.drop k).all argOk)) (fun i => args.length - (intOf i).toNat)
          case atStart => exact ⟨0, Nat.zero_le _, rfl, rfl⟩
          case round =>
            obtain ⟨k, hk, rfl, hall⟩ := hrel
            by_cases hlt2 : k < args.length
            · obtain ⟨b, o, x, hd, rfl, _, hcx, _⟩ := H2.out.getI hlt2
              by_cases hx0 : x < -1000000000
              · go_wp2
                go_ret
                exact No.out (by unfold fineF; rw [hall.out, hd.out, List.all_cons, argOk_no (.inl hx0)]; simp)
              · by_cases hx1 : 1000000000 < x
                · go_wp2
                  go_ret
                  exact No.out (by unfold fineF; rw [hall.out, hd.out, List.all_cons, argOk_no (.inr hx1)]; simp)
                · go_wp2
                  go_round
                  case rel =>
                    refine ⟨k + 1, by omega, by go_num, ?_⟩
                    unfold Hid; rw [hall.out, hd.out, List.all_cons, argOk_yes hx0 hx1]; rfl
                  case measure => simp [intOf]; omega
            · go_wp2
              go_ret
              refine ⟨ret_bool ?_, (Below.refl _ _).alloc (Nat.le_refl _) _⟩
              unfold fineF; rw [Hlt.out, hall.out, drop_end hlt2, Hsh.out]; rfl

end Go.Proofs.YtldccpmnboebmaaDoor

/-! Wc -/
namespace Go.Proofs.YtldccpmnboebmaaDoor
open Go.RowKit

theorem openL_open {m : Mod} {ms : List Mod} {n : Nat} (h : m.name = 91) : openL n (m :: ms) = (openL (n + 1) ms).map ((((n + 1 : Nat) : Int)) :: ·) := by
  conv => lhs; unfold openL
  rw [if_pos h]
theorem openL_close {m : Mod} {ms : List Mod} {n : Nat} (h : m.name = 93) (h0 : ¬ n = 0) : openL n (m :: ms) = (openL (n - 1) ms).map (((n - 1 : Nat) : Int) :: ·) := by
  conv => lhs; unfold openL
  rw [if_neg (by omega), if_pos h, if_neg h0]
theorem openL_no {m : Mod} {ms : List Mod} {n : Nat} (h : m.name = 93) (h0 : n = 0) : openL n (m :: ms) = none := by
  conv => lhs; unfold openL
  rw [if_neg (by omega), if_pos h, if_pos h0]
theorem openL_else {m : Mod} {ms : List Mod} {n : Nat} (h : ¬ m.name = 91) (h' : ¬ m.name = 93) : openL n (m :: ms) = (openL n ms).map ((n : Int) :: ·) := by
  conv => lhs; unfold openL
  rw [if_neg h, if_neg h']

def OpenPost (ms : List Mod) (w : World) (e : Ending) (w' : World) : Prop :=
  Below w.heap.size w w' ∧ ((openL 0 ms = none ∧ e = .returned (.tuple #[.slice none 0 0, .bool false])) ∨
    ∃ l A c, openL 0 ms = some l ∧ l.length = ms.length ∧ e = .returned (.tuple #[.slice A l.length c, .bool true]) ∧ SlAt (pI .i64) (fun k => w.heap.size ≤ k ∧ k < w'.heap.size) w' A c l)
theorem openL_length : ∀ {ms : List Mod} {n : Nat} {l : List Int}, openL n ms = some l → l.length = ms.length
  | [], n, l, h => by cases h; rfl
  | m :: ms, n, l, h => by
    unfold openL at h
    split at h
    · obtain ⟨l', h1, rfl⟩ := Option.map_eq_some_iff.1 h
      simp [openL_length h1]
    · split at h
      · split at h
        · cases h
        · obtain ⟨l', h1, rfl⟩ := Option.map_eq_some_iff.1 h
          simp [openL_length h1]
      · obtain ⟨l', h1, rfl⟩ := Option.map_eq_some_iff.1 h
        simp [openL_length h1]
section
/-- 'out = append(out, n)' over []int -/
theorem pushI {ops : Array Oper} {rest : List Oper} {o1 o2 : Oper} {a : Act} {Q : Exit → Act → World → Prop} {w : World} {base : Nat} {G : Nat → Prop} {v : Value} {xs : List Int} (tmp : Nat) (s xo : Operand)
    (hg1 : o1.guard = none) (hg2 : o2.guard = none) (hd1 : o1.dst = some tmp) (ho1 : o1.op = .buildSlice 42 1 #[(0, xo)])
    (ho2 : o2.op = .call { callee := .builtin .append, args := #[s, .tmp tmp], argTypes := #[42, 42] })
    (hs : ∀ u, (a.put (some tmp) u).eval s = v) (ht2 : ∀ u, (a.put (some tmp) u).eval (.tmp tmp) = u) (hown : Own (pI .i64) 3 base G w v xs)
    (n : Int) (hu : a.eval xo = .int .i64 n) (hf : Fits .i64 n) (hlen : Room xs.length) (hbase : base ≤ w.heap.size)
    (h : ∀ A' c' w', Hid (Own (pI .i64) 3 base G w' (.slice A' (xs.length + 1) c') (xs ++ [n])) → Below base w w' → Hid (∀ k, k < w.heap.size → some k ≠ v.ownBlock → w'.heap[k]? = w.heap[k]?) →
      wpList Tryd.prog ops Q rest ((a.put (some tmp) (.slice (some ⟨w.heap.size, 0, none⟩) 1 1)).put o2.dst (.slice A' (xs.length + 1) c')) w') : wpList Tryd.prog ops Q (o1 :: o2 :: rest) a w :=
  wpList_push (E := pI .i64) 42 3 (.int .i64 0) 8 tmp s xo hg1 hg2 hd1 ho1 ho2 Tryd.underlying42 (by kernel_rfl) rfl (by decide) hs ht2 hown (.int .i64 n) hu n (fun _ => False) ⟨rfl, hf⟩ (fun _ hk => hk.elim) hlen ⟨by decide, by decide⟩ hbase h
end

theorem info_int : (Tryd.prog.info? 3).map (fun i => (i.zero, i.size, i.bytes)) = some (some (.int .i64 0), 1, 8) := by kernel_rfl
set_option maxRecDepth 100000 in
set_option maxHeartbeats 1000000 in
theorem refOpen_calls (A : Option Addr) (c : Nat) (ms : List Mod) (w : World) (h : SlAt pMod (Old w) w A c ms) (hbd : ms.length ≤ 1000000) :
    Calls Tryd.prog 36 #[.slice A ms.length c] w (OpenPost ms w) := by
  have hmx := h.lenle
  have H := Lib.hid h; clear h
  go_enter Tryd.func36, Tryd.ntmps36
  go_wp2
  go_loopw [6, 5, 4] (fun i n out wr => ∃ k op : Nat, k ≤ ms.length ∧ op ≤ k ∧ i = .int .i64 k ∧ n = .int .i64 op ∧ Hid (Below w.heap.size w wr) ∧ w.heap.size ≤ wr.heap.size ∧ ∃ done : List Int, Hid (done.length = k) ∧
    Hid (Own (pI .i64) 3 w.heap.size (w.heap.size ≤ ·) wr out done) ∧ Hid (openL 0 ms = (openL op (ms.drop k)).map (done ++ ·))) (fun i _ _ _ => ms.length - (intOf i).toNat)
  case atStart => exact ⟨0, 0, Nat.zero_le _, Nat.le_refl _, rfl, rfl, Below.refl _ _, Nat.le_refl _, [], rfl, Own.nil, by unfold Hid; simp⟩
  case round =>
    obtain ⟨k, op, hk, hop, rfl, rfl, hb, hsz, done, hdl, hown, hgo⟩ := hrel
    obtain ⟨wo, rfl⟩ : ∃ wo : World, wo = wr := ⟨_, rfl⟩
    obtain ⟨out, rfl⟩ : ∃ out, out = u4 := ⟨_, rfl⟩
    by_cases hlt : k < ms.length
    · obtain ⟨b, o, A', c', m, hd, rfl, hob, hc0, hc1, hf8, hargs, hl⟩ := (H.out.below hb.out).getMod hlt
      have hpush : ∀ (v : Nat) (w2 : World) (A2 : Option Addr) (c2 : Nat), Own (pI .i64) 3 w.heap.size (w.heap.size ≤ ·) w2 (.slice A2 (done.length + 1) c2) (done ++ [(v : Int)]) → Below w.heap.size wo w2 → Hid (openL 0 ms = ((openL v (ms.drop (k + 1))).map ((v : Int) :: ·)).map (done ++ ·)) →
          Hid (Below w.heap.size w w2) ∧ w.heap.size ≤ w2.heap.size ∧ Hid ((done ++ [(v : Int)]).length = k + 1) ∧ Hid (Own (pI .i64) 3 w.heap.size (w.heap.size ≤ ·) w2 (.slice A2 (done.length + 1) c2) (done ++ [(v : Int)])) ∧ Hid (openL 0 ms = (openL v (ms.drop (k + 1))).map ((done ++ [(v : Int)]) ++ ·)) := by
        intro v w2 A2 c2 h1 h2 h3
        refine ⟨hb.out.trans h2, (hb.out.trans h2).size, by unfold Hid; simp [hdl.out], h1, ?_⟩
        unfold Hid; rw [h3.out, Option.map_map]; congr 1; funext l; simp
      have Hpush := Lib.hid hpush; clear hpush
      have hd12 : done.length ≤ 1000000 := by rw [hdl.out]; omega
      by_cases h91 : m.name = 91
      · have e0 : (m.name == 91) = true := by simp [h91]
        have e1 : (m.name == 93) = false := by simp [h91]
        have hg2 : Hid (openL 0 ms = ((openL (op + 1) (ms.drop (k + 1))).map (((op + 1 : Nat) : Int) :: ·)).map (done ++ ·)) := by
          unfold Hid; rw [hgo.out, hd.out, openL_open h91]
        clear h91
        have hfit : Hid (Fits .i64 ((op : Int) + 1)) := fits_i64 (by omega)
        have e2 : decide ((op : Int) + 1 < 0) = false := by simp; omega
        go_wp2_with ((with_reducible show wpList _ _ _ (Oper.mk (some 33) _ _ _ _ _ :: _) _ _); refine pushI 33 (.tmp 31) (.tmp 32) rfl rfl rfl rfl rfl (fun _ => rfl) (fun _ => rfl) hown.out ((op : Int) + 1) rfl hfit.out (room_of hd12) hsz ?_; intro A2 c2 w2 Hown2 hb2 hk2)
        obtain ⟨p1, p2, p3, p4, p5⟩ := Hpush.out (op + 1) w2 A2 c2 Hown2.out hb2 hg2
        go_roundw
        case rel => exact ⟨k + 1, op + 1, by omega, by omega, by go_num, by go_num, p1, p2, _, p3, p4, p5⟩
        case measure => simp [intOf]; omega
      · have e0 : (m.name == 91) = false := by simp [h91]
        by_cases h93 : m.name = 93
        · have e1 : (m.name == 93) = true := by simp [h93]
          by_cases h0 : op = 0
          · have hno : openL 0 ms = none := by rw [hgo.out, hd.out, openL_no h93 h0]; rfl
            have Hno := Lib.hid hno
            subst h0
            clear h91 h93 hno
            go_wp2
            go_ret2
            exact ⟨hb.out, .inl ⟨Hno.out, rfl⟩⟩
          · have hg2 : Hid (openL 0 ms = ((openL (op - 1) (ms.drop (k + 1))).map (((op - 1 : Nat) : Int) :: ·)).map (done ++ ·)) := by
              unfold Hid; rw [hgo.out, hd.out, openL_close h93 h0]
            have hop1 : (1 : Int) ≤ (op : Int) := by omega
            have hfit : Hid (Fits .i64 ((op : Int) - 1)) := fits_i64 (by omega)
            clear h91 h93 h0
            go_wp2_with ((with_reducible show wpList _ _ _ (Oper.mk (some 33) _ _ _ _ _ :: _) _ _); refine pushI 33 (.tmp 31) (.tmp 32) rfl rfl rfl rfl rfl (fun _ => rfl) (fun _ => rfl) hown.out ((op : Int) - 1) rfl hfit.out (room_of hd12) hsz ?_; intro A2 c2 w2 Hown2 hb2 hk2)
            rw [show ((op : Int) - 1) = ((op - 1 : Nat) : Int) from by omega] at Hown2
            obtain ⟨p1, p2, p3, p4, p5⟩ := Hpush.out (op - 1) w2 A2 c2 Hown2.out hb2 hg2
            go_roundw
            case rel => exact ⟨k + 1, op - 1, by omega, by omega, by go_num, by congr 1; omega, p1, p2, _, p3, p4, p5⟩
            case measure => simp [intOf]; omega
        · have e1 : (m.name == 93) = false := by simp [h93]
          have hg2 : Hid (openL 0 ms = ((openL op (ms.drop (k + 1))).map ((op : Int) :: ·)).map (done ++ ·)) := by
            unfold Hid; rw [hgo.out, hd.out, openL_else h91 h93]
          have hfit : Hid (Fits .i64 (op : Int)) := fits_i64 (by omega)
          clear h91 h93
          go_wp2_with ((with_reducible show wpList _ _ _ (Oper.mk (some 33) _ _ _ _ _ :: _) _ _); refine pushI 33 (.tmp 31) (.tmp 32) rfl rfl rfl rfl rfl (fun _ => rfl) (fun _ => rfl) hown.out (op : Int) rfl hfit.out (room_of hd12) hsz ?_; intro A2 c2 w2 Hown2 hb2 hk2)
          obtain ⟨p1, p2, p3, p4, p5⟩ := Hpush.out op w2 A2 c2 Hown2.out hb2 hg2
          go_roundw
          case rel => exact ⟨k + 1, op, by omega, by omega, by go_num, rfl, p1, p2, _, p3, p4, p5⟩
          case measure => simp [intOf]; omega
    · have hs : openL 0 ms = some done := by rw [hgo.out, drop_end hlt]; simp [openL]
      have Hs := Lib.hid hs; clear hs
      obtain ⟨A2, c2, hv2, hs2⟩ := hown.out.fresh
      subst hv2
      have Hs2 := Lib.hid hs2; clear hs2
      go_wp2
      go_ret2
      exact ⟨hb.out, .inr ⟨done, A2, c2, Hs.out, openL_length Hs.out, rfl, Hs2.out⟩⟩

end Go.Proofs.YtldccpmnboebmaaDoor

/-! Wd -/
namespace Go.Proofs.YtldccpmnboebmaaDoor
open Go.RowKit

theorem checkF_open {ms : List Mod} (h1 : ¬ 2000 < ms.length) (h2 : ms.all fineF = true) : checkF ms = match openL 0 ms with
    | none => 28
    | some l => if 0 < l.getLast?.getD 0 then 28 else 0 := by
  unfold checkF
  rw [if_neg h1, if_neg (by rw [h2]; decide)]
  have := scan_openL ms 0
  cases hs : scan 0 ms with
  | none =>
    rw [hs] at this
    cases ho : openL 0 ms with
    | none => rfl
    | some l => rw [ho] at this; cases this
  | some n =>
    rw [hs] at this
    cases ho : openL 0 ms with
    | none => rw [ho] at this; cases this
    | some l =>
      rw [ho] at this
      simp only [Option.map_some, Option.some.injEq] at this
      have h3 : l.getLast?.getD 0 = (n : Int) := this.symm
      simp only [h3]
      by_cases h0 : 0 < n
      · rw [if_pos h0, if_pos (by omega)]
      · rw [if_neg h0, if_neg (by omega)]

set_option maxRecDepth 100000 in
set_option maxHeartbeats 1000000 in
theorem refCheck_calls (A : Option Addr) (c : Nat) (ms : List Mod) (w : World) (h : SlAt pMod (Old w) w A c ms) :
    Calls Tryd.prog 23 #[.slice A ms.length c] w (CheckPost ms w) := by
  have hmx := h.lenle
  have H := Lib.hid h; clear h
  by_cases hbig : 2000 < ms.length
  · go_enter Tryd.func23, Tryd.ntmps23
    go_wp2
    go_ret
    exact ⟨ret_int (by unfold checkF; rw [if_pos hbig]), Below.refl _ _⟩
  · have Hbig := Lib.hid hbig; clear hbig
    have hle : ms.length ≤ 2000 := by have := Hbig.out; omega
    go_enter Tryd.func23, Tryd.ntmps23
    go_wp2
    go_loopw [3] (fun i wr => ∃ k : Nat, k ≤ ms.length ∧ i = .int .i64 k ∧ Hid (Below w.heap.size w wr) ∧ w.heap.size ≤ wr.heap.size ∧ Hid (ms.all fineF = (ms.drop k).all fineF)) (fun i _ => ms.length - (intOf i).toNat)
    case atStart => exact ⟨0, Nat.zero_le _, rfl, Below.refl _ _, Nat.le_refl _, rfl⟩
    case round =>
      obtain ⟨k, hk, rfl, hb, hsz, hall⟩ := hrel
      obtain ⟨wo, rfl⟩ : ∃ wo : World, wo = wr := ⟨_, rfl⟩
      by_cases hlt : k < ms.length
      · obtain ⟨b, o, A', c', m, hd, rfl, hob, hc0, hc1, hf8, hargs, hl⟩ := (H.out.below hb.out).getMod hlt
        have hob' : b < wo.heap.size := Nat.lt_of_lt_of_le hob hsz
        have hcall : Calls Tryd.prog 35 #[.agg #[.int .u8 m.name, .slice A' m.args.length c']] wo (FinePost m wo) :=
          refFine_calls A' c' m wo hargs.out (fun q hq => Nat.lt_of_lt_of_le hq hsz)
        have Hcall := Lib.hid hcall; clear hcall
        go_wp2_with fail
        refine Hcall.out.mono ?_
        rintro e w1 ⟨rfl, hb1⟩
        have hbw : Below w.heap.size w w1 := hb.out.trans (hb1.mono hsz)
        have Hbw := Lib.hid hbw; clear hbw hb1
        cases hfm : fineF m
        · go_wp2
          go_ret
          refine ⟨ret_int ?_, Hbw.out⟩
          unfold checkF
          rw [if_neg Hbig.out, if_pos]
          rw [hall.out, hd.out, List.all_cons, hfm]; rfl
        · go_wp2
          go_roundw
          case rel =>
            refine ⟨k + 1, by omega, by go_num, Hbw, Hbw.out.size, ?_⟩
            unfold Hid; rw [hall.out, hd.out, List.all_cons, hfm]; rfl
          case measure => simp [intOf]; omega
      · have hok : ms.all fineF = true := by rw [hall.out, drop_end hlt]; rfl
        have Hck := Lib.hid (checkF_open Hbig.out hok)
        clear hok
        have hop := refOpen_calls A c ms wo (((H.out.below hb.out)).wide fun q hq => Nat.lt_of_lt_of_le hq hsz) (by omega)
        have Hop := Lib.hid hop; clear hop
        go_wp2_with fail
        refine Hop.out.mono ?_
        rintro e w1 ⟨hb1, ⟨hn, rfl⟩ | ⟨l, A1, c1, hsome, hll, rfl, hsl⟩⟩
        · have hbw : Below w.heap.size w w1 := hb.out.trans (hb1.mono hsz)
          have Hbw := Lib.hid hbw; clear hbw hb1
          have Hn := Lib.hid hn; clear hn
          go_wp2
          go_ret
          exact ⟨ret_int (by rw [Hck.out, Hn.out]), Hbw.out⟩
        · have hbw : Below w.heap.size w w1 := hb.out.trans (hb1.mono hsz)
          have Hbw := Lib.hid hbw; clear hbw hb1
          have Hn := Lib.hid hsome; clear hsome
          have Hll := Lib.hid hll; clear hll
          have Hsl := Lib.hid hsl; clear hsl
          have hlx : l.length ≤ 2000 := by rw [Hll.out]; exact hle
          by_cases hl0 : l = []
          · subst hl0
            go_wp2
            go_ret
            exact ⟨ret_int (by rw [Hck.out, Hn.out]; rfl), Hbw.out⟩
          · have hpos : 0 < l.length := List.length_pos_iff.2 hl0
            obtain ⟨b, o, x, hd, rfl, _, hcx, _⟩ := Hsl.out.getI (i := l.length - 1) (by omega)
            have hlast : l.getLast?.getD 0 = x := by
              rw [List.getLast?_eq_getElem?, get_of_drop hd.out]; rfl
            have Hlast := Lib.hid hlast; clear hlast
            have hposI : decide ((0 : Int) < (l.length : Int)) = true := by simpa using hpos
            have hidx : ((l.length : Int) - 1).toNat = l.length - 1 := by omega
            clear hl0
            by_cases hx : 0 < x
            · go_wp2
              go_ret
              exact ⟨ret_int (by rw [Hck.out, Hn.out]; simp only [Hlast.out]; rw [if_pos hx]), Hbw.out⟩
            · go_wp2
              go_ret
              exact ⟨ret_int (by rw [Hck.out, Hn.out]; simp only [Hlast.out]; rw [if_neg (by omega)]), Hbw.out⟩

def greatF (ms : List Mod) : Bool := decide (2100 < ms.length) || ms.any (fun m => decide (10 < m.args.length))
end Go.Proofs.YtldccpmnboebmaaDoor

/-! Pd -/
namespace Go.Proofs.YtldccpmnboebmaaDoor
open Go.RowKit Go.Sort
set_option linter.unusedVariables false

theorem below_grow' (w : World) (k : Nat) (os : Array Obj) : Below w.heap.size w (grow (w.drewN k) os) :=
  ⟨rfl, rfl, rfl, by show w.heap.size ≤ (w.heap ++ os).size; simp, fun i hi => by show (w.heap ++ os)[i]? = _; rw [Array.getElem?_append_left hi]⟩
theorem var_later {w w' : World} {n : String} {cs : Array Value} (h : w.var? Tryd.prog n = some cs) (hb : Below w.heap.size w w') : w'.var? Tryd.prog n = some cs := by
  unfold World.var? at h ⊢
  cases hg : Tryd.prog.globalNamed n with
  | none => rw [hg] at h; cases h
  | some g =>
    rw [hg] at h
    simp only [Option.bind_some] at h ⊢
    have hlt : g < w.heap.size := by
      rcases Nat.lt_or_ge g w.heap.size with hl | hl
      · exact hl
      · rw [Array.getElem?_eq_none hl] at h; cases h
    rw [hb.block g hlt]; exact h
/-- what the walks of texts read of the library's variables -/
structure LibAt (w : World) : Prop where
  tab : Lib.TabIs Tryd.prog w "internal/strconv.uint64pow10" .u64 Lib.pow10Tab
  syn : ∃ tp p, w.var? Tryd.prog "strconv.ErrSyntax" = some #[.iface tp p]
  rng : ∃ tp p, w.var? Tryd.prog "strconv.ErrRange" = some #[.iface tp p]
  mx : ∃ m, w.cell? ⟨0, 0, none⟩ = some (.int .i64 m)
theorem LibAt.later {w w' : World} (h : LibAt w) (hb : Below w.heap.size w w') : LibAt w' := by
  obtain ⟨h1, ⟨t2, p2, h2⟩, ⟨t3, p3, h3⟩, ⟨m, h4⟩⟩ := h
  refine ⟨var_later h1 hb, ⟨t2, p2, var_later h2 hb⟩, ⟨t3, p3, var_later h3 hb⟩, ⟨m, ?_⟩⟩
  rw [cell_keep (hb.block _ (World.block_lt_of_cell? _ _ h4))]; exact h4

theorem builder_later {T e : TypeId} {B b : Nat} {bs : List Value} {w w' : World} (h : Lib.IsBuilderF T e B b bs w) (hb : Below w.heap.size w w') : Lib.IsBuilderF T e B b bs w' := by
  have one : ∀ p, Lib.BuilderAtF T e B b p bs w → Lib.BuilderAtF T e B b p bs w' := fun p hp => by
    have hlt := hp.lt
    obtain ⟨hB, v, hbk, hown, hne⟩ := hp
    refine ⟨hB, v, (hb.block b hlt).trans hbk, ?_, hne⟩
    obtain ⟨h1, h2⟩ := hown
    refine ⟨h1, ?_⟩
    rcases h2 with h2 | ⟨g, cap, cur, fz, k1, k2, k3, k4⟩
    · exact .inl h2
    · exact .inr ⟨g, cap, cur, fz, k1, k2, (hb.block g (by
        rcases Nat.lt_or_ge g w.heap.size with hl | hl
        · exact hl
        · rw [Array.getElem?_eq_none hl] at k3; cases k3)).trans k3, k4⟩
  exact h.elim (fun h => .inl (one _ h)) (fun h => .inr (one _ h))
theorem blk_kept {e T : TypeId} {b g : Nat} {cs : Array Value} {w w' : World} (h : Blk w g T cs) (hk : Lib.OthersKept e (some b) w w') (hb : g ≠ b) (hT : T ≠ e) : Blk w' g T cs :=
  hk g _ h (by simpa using hb) (fun c fz he => by cases he; exact hT rfl)

/-! ### the text so far -/
def argP : List Int → List UInt8
  | [] => []
  | n :: ns => 40 :: (Lib.itoa n ++ bodyA ns)
theorem argP_snoc (n : Int) : ∀ ns : List Int, argP (ns ++ [n]) = argP ns ++ (if ns.length = 0 then 40 else 44) :: Lib.itoa n
  | [] => by show 40 :: (Lib.itoa n ++ bodyA []) = _; unfold bodyA; simp; rfl
  | k :: ns => by
    show 40 :: (Lib.itoa k ++ bodyA (ns ++ [n])) = 40 :: (Lib.itoa k ++ bodyA ns) ++ 44 :: Lib.itoa n
    unfold bodyA
    rw [List.flatMap_append]; simp
theorem argL_argP (ns : List Int) : argL ns = argP ns ++ (if 0 < ns.length then [41] else []) := by
  cases ns with
  | nil => rfl
  | cons n ns => show 40 :: (Lib.itoa n ++ bodyA ns ++ [41]) = 40 :: (Lib.itoa n ++ bodyA ns) ++ [41]; simp
theorem argP_len : ∀ {ns : List Int}, ns.all argOk = true → (argP ns).length ≤ 12 * ns.length := by
  have hb : ∀ ns : List Int, ns.all argOk = true → (bodyA ns).length ≤ 12 * ns.length := by
    intro ns
    induction ns with
    | nil => intro _; exact Nat.le_refl _
    | cons n ns ih =>
      intro h
      rw [List.all_cons, Bool.and_eq_true] at h
      have := ih h.2
      have h2 := argOk_le h.1
      have h3 := itoa_len h2.1 h2.2
      rw [bodyA_cons]; simp; omega
  intro ns h
  cases ns with
  | nil => exact Nat.le_refl _
  | cons n ns =>
    rw [List.all_cons, Bool.and_eq_true] at h
    have := hb ns h.2
    have h2 := argOk_le h.1
    have h3 := itoa_len h2.1 h2.2
    show (40 :: (Lib.itoa n ++ bodyA ns)).length ≤ _
    simp; omega
theorem fineP_args {m : Mod} (h : fineF m = true) : m.args.all argOk = true ∧ m.args.length ≤ 4 := by
  unfold fineF shapeOk at h
  simp only [Bool.and_eq_true, Bool.or_eq_true, beq_iff_eq, decide_eq_true_eq] at h
  refine ⟨h.1.2, ?_⟩
  rcases h.2 with h | h
  · omega
  · exact h.1.1
theorem modL_len {m : Mod} (h : fineF m = true) : (modL m).length ≤ 50 := by
  obtain ⟨h1, h2⟩ := fineP_args h
  unfold modL
  rw [argL_argP]
  have := argP_len h1
  split <;> simp <;> omega
theorem textL_len : ∀ {ms : List Mod}, ms.all fineF = true → (textL ms).length ≤ 50 * ms.length
  | [], _ => Nat.le_refl _
  | m :: ms, h => by
    rw [List.all_cons, Bool.and_eq_true] at h
    have := textL_len h.2
    have := modL_len h.1
    rw [textL_cons]; simp; omega
theorem textL_take {ms : List Mod} {k : Nat} {m : Mod} {rest : List Mod} (h : ms.drop k = m :: rest) : textL (ms.take (k + 1)) = textL (ms.take k) ++ modL m := by
  rw [take_of_drop h]; unfold textL; rw [List.flatMap_append]; simp
theorem check_len {w : List Mod} (h : checkF w = 0) : w.length ≤ 2000 := by
  unfold checkF at h
  by_cases h1 : 2000 < w.length
  · rw [if_pos h1] at h; cases h
  · omega
theorem cells_name {c : Int} (l : List UInt8) (h : letterB c = true) : Lib.byteCells l ++ [.int .u8 c] = Lib.byteCells (l ++ [c.toNat.toUInt8]) := by
  rw [Lib.byteCells_append]
  unfold Lib.byteCells
  rw [List.map_cons, List.map_nil, name_byte h]
theorem cells_lit (l : List UInt8) (c : UInt8) : Lib.byteCells l ++ [.int .u8 (c.toNat : Int)] = Lib.byteCells (l ++ [c]) := by
  rw [Lib.byteCells_append]; rfl

def TextPost (ms : List Mod) (w : World) (e : Ending) (w' : World) : Prop := e = .returned (.tuple #[.string ⟨(textF ms).1.toArray⟩, .int .i64 (textF ms).2]) ∧ Below w.heap.size w w'
end Go.Proofs.YtldccpmnboebmaaDoor

/-! Pj -/
namespace Go.Proofs.YtldccpmnboebmaaDoor
open Go.RowKit

theorem change_and_shaped {H : Type} {enc : TypeId × Value → H} {a : Assume} {C : Checked} {os : Os} {f : FuncId} {fn : Func} {s : ChangeSpec} {conds : List PathCond} {apart fresh handsOn again : Bool} {X : World → Array Value → Prop}
    (hX : ∀ (w w' : World) (args : Array Value), w.heap = w'.heap → X w args → X w' args)
    (own : ownKnob C.prog.godebug = none) (started : os.Started) (noInit : C.prog.inits.idxOf? f = none) (hfn : C.prog.funcs[f]? = some fn)
    (witness : ∃ (w : World) (tape : Tape) (i : Input), w.os = os ∧ (w.forCall tape i).Shaped C.prog ∧ i.vars = [] ∧ Input.okWide C.prog (w.forCall tape i) .any w.heap.size f i ∧
      ((s.pre enc C.prog fn conds apart (w.forCall tape i).memory i.args ∧ X (w.forCall tape i).memory i.args) ∧ sizedMet enc C.prog fn (OpenSpec.ofChange s) apart (w.forCall tape i).memory i.args) ∧ a.holds C.prog (lone (Frame.enter C.prog f i.args .normal) [] (w.forCall tape i)))
    (contract : ∀ (W : World) (base : Nat) (args : Array Value) (ds gs : List (DataW H)) (before : List MemPlace),
      (∀ (j : Nat) t v, fn.params[j]? = some t → args[j]? = some v → Value.okWide C.prog W .any base t v) →
      DataW.Whole enc C.prog fn.params.toList s.vars apart W args.toList ds gs before →
      conds.all (PathCond.test C.prog ⟨fn.params.toList, ds, s.plain.varTypes C.prog, gs⟩) = true →
      (DataW.weightsEach C.prog (fn.params.toList ++ s.plain.varTypes C.prog) (ds ++ gs)).all (· ≤ reachBytes) = true → W.ShapedOpen C.prog → X W args →
      a.holds C.prog (lone (Frame.enter C.prog f args .normal) [] W) →
      Calls C.prog f args W fun e W' => ∃ v, e = .returned v ∧ s.post enc C.prog fn apart fresh handsOn again W args v W') :
    ReturnsInHanded a C os f .any (fun w args => (s.pre enc C.prog fn conds apart w args ∧ X w args) ∧ sizedMet enc C.prog fn (OpenSpec.ofChange s) apart w args) (s.post enc C.prog fn apart fresh handsOn again) := by
  refine returnsInHanded_of_calls own started noInit witness ?_
  intro w tape i _ hsh _ hok hpre hholds
  obtain ⟨_, _, _, fn', hfn', _, _, _, _, hval⟩ := hok
  have e : fn' = fn := Option.some.inj (hfn'.symm.trans hfn)
  subst e
  obtain ⟨⟨⟨ds, gs, before, hw, hc⟩, hx⟩, hz⟩ := hpre
  have hw' := DataW.Whole.of_heap (w' := w.forCall tape i) (by rfl) hw
  refine (contract (w.forCall tape i) w.heap.size i.args ds gs before hval hw' hc (hz.weights hw) hsh (hX _ _ _ (by rfl) hx) hholds).mono fun e W' ⟨v, he, hp⟩ => ?_
  subst he
  exact ChangeSpec.post_blind hp

theorem star_err : "*" ++ "errors.errorString" = "*errors.errorString" := by decide
theorem row_err (u : TypeId) (h : Tryd.prog.typeName? 3 u = some "*errors.errorString") : u = 155 :=
  typeName_ptr_named (nm := "errors.errorString") (by rw [star_err]; kernel_rfl) (by kernel_rfl) (by decide) u (by rw [star_err]; exact h)
theorem tab_data : (Rows.laid_internal_strconv_uint64pow10 : DataW Unit) = Lib.tabData .u64 Lib.pow10Tab := by kernel_rfl
theorem libAt_of {W : World} {r : List (String × DataW Unit)} (hsh : W.ShapedOpen Tryd.prog)
    (hL : laidMet Tryd.prog (("math/bits.deBruijn32tab", Rows.laid_math_bits_deBruijn32tab) :: ("math/bits.deBruijn64tab", Rows.laid_math_bits_deBruijn64tab) :: ("internal/strconv.uint64pow10", Rows.laid_internal_strconv_uint64pow10) :: ("unicode/utf8.acceptRanges", Rows.laid_unicode_utf8_acceptRanges) :: ("strconv.ErrRange", Rows.laid_strconv_ErrRange) :: ("strconv.ErrSyntax", Rows.laid_strconv_ErrSyntax) :: r) W) : LibAt W := by
  have h3 := hL.tail.tail
  rw [tab_data] at h3
  have h5 := hL.tail.tail.tail.tail
  refine ⟨?_, ?_, ?_, ?_⟩
  · exact Lib.tabIs_of_head (g := 3) (t := 159) (e := 137) (by kernel_rfl) (by kernel_rfl) Tryd.underlying159 Tryd.underlying137 (by kernel_rfl) (by kernel_rfl) h3
  · obtain ⟨a0, s0, hv0, -, -, -⟩ := laid_sentinel (g := 1) (ti := 106) (tp := 155) (te := 157) (ts := 9) h5.tail (by kernel_rfl) (by kernel_rfl) Tryd.underlying106 row_err Tryd.underlying155 Tryd.underlying157 rfl rfl Tryd.underlying9 (by kernel_rfl) (by kernel_rfl)
    exact ⟨_, _, hv0⟩
  · obtain ⟨a0, s0, hv0, -, -, -⟩ := laid_sentinel (g := 2) (ti := 106) (tp := 155) (te := 157) (ts := 9) h5 (by kernel_rfl) (by kernel_rfl) Tryd.underlying106 row_err Tryd.underlying155 Tryd.underlying157 rfl rfl Tryd.underlying9 (by kernel_rfl) (by kernel_rfl)
    exact ⟨_, _, hv0⟩
  · exact Tryd.laysM145.s1_3 W hsh
end Go.Proofs.YtldccpmnboebmaaDoor

/-! Pf -/
namespace Go.Proofs.YtldccpmnboebmaaDoor
open Go.RowKit Go.Sort

theorem index_cut (c : UInt8) : ∀ l : List UInt8, Lib.index l [c] = match cutC c l with
    | none => -1
    | some (p, _) => (p.length : Int)
  | [] => rfl
  | b :: r => by
    have ih := index_cut c r
    unfold Lib.index cutC
    by_cases h : b = c
    · subst h
      simp [List.isPrefixOf]
    · have h1 : ([c] : List UInt8).isPrefixOf (b :: r) = false := by simp [List.isPrefixOf, Ne.symm h]
      rw [h1, if_neg (by decide), if_neg h, ih]
      cases cutC c r with
      | none => rfl
      | some x => obtain ⟨p, q⟩ := x; simp
theorem lib_cut (c : UInt8) (l : List UInt8) : Lib.cut l [c] = match cutC c l with
    | none => (l, [], false)
    | some (p, q) => (p, q, true) := by
  have h := index_cut c l
  unfold Lib.cut
  cases hc : cutC c l with
  | none =>
    rw [hc] at h
    dsimp only at h ⊢
    rw [h, if_neg (by decide)]
  | some x =>
    obtain ⟨p, q⟩ := x
    rw [hc] at h
    dsimp only at h ⊢
    have hl := cutC_text hc
    rw [h, if_pos (Int.natCast_nonneg _), Int.toNat_natCast, hl]
    simp
theorem splitC_none {c : UInt8} : ∀ {l : List UInt8}, cutC c l = none → splitC c l = [l]
  | [], _ => rfl
  | b :: r, h => by
    unfold cutC at h
    unfold splitC
    by_cases hb : b = c
    · rw [if_pos hb] at h; cases h
    · rw [if_neg hb] at h ⊢
      have : cutC c r = none := by
        cases hc : cutC c r with
        | none => rfl
        | some x => rw [hc] at h; cases h
      rw [splitC_none this]
theorem splitC_some {c : UInt8} : ∀ {l p q : List UInt8}, cutC c l = some (p, q) → splitC c l = p :: splitC c q
  | [], _, _, h => by cases h
  | b :: r, p, q, h => by
    unfold cutC at h
    conv => lhs; unfold splitC
    by_cases hb : b = c
    · rw [if_pos hb] at h ⊢; cases h; rfl
    · rw [if_neg hb] at h ⊢
      cases hc : cutC c r with
      | none => rw [hc] at h; cases h
      | some x =>
        rw [hc] at h; cases h
        rw [splitC_some hc]
theorem lib_split (c : UInt8) : ∀ (n : Nat) (l : List UInt8), l.length ≤ n → Lib.splitK [c] 0 (Lib.count l [c]) l = splitC c l
  | n, l, hn => by
    have h := index_cut c l
    cases hc : cutC c l with
    | none =>
      rw [hc] at h
      rw [Lib.count_miss h, splitC_none hc]; rfl
    | some x =>
      obtain ⟨p, q⟩ := x
      rw [hc] at h
      have hl := cutC_text hc
      rw [Lib.count_hit (by simp) h, Nat.add_comm]
      unfold Lib.splitK
      rw [if_neg (by rw [h]; simp), h, Int.toNat_natCast, splitC_some hc]
      have e1 : l.take (p.length + 0) = p := by rw [hl]; simp
      have e2 : l.drop (p.length + [c].length) = q := by rw [hl]; simp
      rw [e1, e2]
      cases n with
      | zero => rw [hl] at hn; simp at hn
      | succ n => rw [lib_split c n q (by rw [hl] at hn; simp at hn; omega)]
theorem pieces_data (l : List UInt8) : (Lib.splitB ⟨#[44]⟩ 0 (Lib.countB ⟨l.toArray⟩ ⟨#[44]⟩) ⟨l.toArray⟩).map (·.data.toList) = splitC 44 l := by
  rw [Lib.splitB_data]
  exact lib_split 44 _ l (Nat.le_refl _)
theorem pieces_len (l : List UInt8) : (Lib.splitB ⟨#[44]⟩ 0 (Lib.countB ⟨l.toArray⟩ ⟨#[44]⟩) ⟨l.toArray⟩).length = Lib.countB ⟨l.toArray⟩ ⟨#[44]⟩ + 1 := Lib.splitB_all _ (by decide) 0 _ _ rfl
theorem splitC_len (c : UInt8) : ∀ l : List UInt8, (splitC c l).length ≤ l.length + 1
  | [] => Nat.le_refl _
  | b :: r => by
    have ih := splitC_len c r
    unfold splitC
    split
    · simp; omega
    · split
      · simp
      · rename_i h; rw [h] at ih; simp at ih ⊢; omega
theorem splitC_piece (c : UInt8) : ∀ l : List UInt8, ∀ p ∈ splitC c l, p.length ≤ l.length
  | [], p, h => by
    have := List.mem_singleton.1 (show p ∈ [[]] from h)
    rw [this]; simp
  | b :: r, p, h => by
    have ih := splitC_piece c r
    unfold splitC at h
    split at h
    · rcases List.mem_cons.1 h with h | h
      · rw [h]; simp
      · have := ih p h; simp; omega
    · split at h
      · have := List.mem_singleton.1 h
        rw [this]; simp
      · rename_i q qs hs
        rcases List.mem_cons.1 h with h | h
        · have := ih q (by rw [hs]; simp)
          rw [h]; simp; omega
        · have := ih p (by rw [hs]; simp [h])
          simp; omega

/-! ### the library's functions, as Parse calls them -/
theorem cut_calls (s : ByteArray) (w : World) (hL : LibAt w) (hs : s.size ≤ 60000) : Calls Tryd.prog 53 #[.string s, .string ⟨#[41]⟩] w fun e w' => (∃ p q : ByteArray, ∃ ok, e = .returned (.tuple #[.string p, .string q, .bool ok]) ∧ Hid (match cutC 41 s.data.toList with
    | none => ok = false
    | some (a, b) => p.data.toList = a ∧ q.data.toList = b ∧ ok = true)) ∧ Below w.heap.size w w' := by
  obtain ⟨m, hm⟩ := hL.mx
  refine (Tryd.strings_Cut s ⟨#[41]⟩ m w (by omega) hm).mono ?_
  rintro e w' ⟨rfl, n, rfl⟩
  refine ⟨⟨_, _, _, rfl, ?_⟩, below_drewN (Below.refl _ _) n⟩
  unfold Hid
  have h : Lib.cut s.data.toList (ByteArray.mk #[41]).data.toList = _ := lib_cut 41 s.data.toList
  rw [h]
  cases cutC 41 s.data.toList with
  | none => rfl
  | some x => obtain ⟨a, b⟩ := x; exact ⟨rfl, rfl, rfl⟩
def PiecesPost (s : ByteArray) (w : World) (e : Ending) (w' : World) : Prop :=
  ∃ ps : List ByteArray, e = .returned (.slice (some ⟨w.heap.size, 0, none⟩) ps.length ps.length) ∧ w' = w.alloc (.cells (ps.map Value.string).toArray 9) ∧ Hid (ps.map (·.data.toList) = splitC 44 s.data.toList) ∧ ps.length ≤ s.size + 1
theorem split_calls (s : ByteArray) (w : World) (hL : LibAt w) (hs : s.size ≤ 60000) : Calls Tryd.prog 54 #[.string s, .string ⟨#[44]⟩] w (PiecesPost s w) := by
  obtain ⟨m, hm⟩ := hL.mx
  obtain ⟨l, rfl⟩ : ∃ l : List UInt8, s = ⟨l.toArray⟩ := ⟨s.data.toList, rfl⟩
  refine (Tryd.strings_Split ⟨l.toArray⟩ ⟨#[44]⟩ m w (by omega) hm (by decide)).mono ?_
  rintro e w' ⟨rfl, rfl⟩
  have h1 := pieces_len l
  refine ⟨_, ?_, rfl, pieces_data l, ?_⟩
  · rw [h1]
  · have h2 := congrArg List.length (pieces_data l)
    rw [List.length_map] at h2
    rw [h2]
    have h3 := splitC_len 44 l
    have h4 : (⟨l.toArray⟩ : ByteArray).size = l.length := by show l.toArray.size = _; simp
    omega
def AtoiPost (t : ByteArray) (w : World) (e : Ending) (w' : World) : Prop :=
  ((∃ v, e = .returned (.tuple #[.int .i64 v, .nilIface]) ∧ Hid (Lib.atoiAll t.data.toList = .ok v) ∧ -9223372036854775808 ≤ v ∧ v ≤ 9223372036854775807) ∨
   (∃ v T p, e = .returned (.tuple #[.int .i64 v, .iface T (.pointer p)]) ∧ Hid (numP t.data.toList = none))) ∧ Below w.heap.size w w'
theorem atoi_calls (t : ByteArray) (w : World) (hL : LibAt w) (hs : t.size ≤ 60000) : Calls Tryd.prog 55 #[.string t] w (AtoiPost t w) := by
  rcases h : Lib.atoiAll t.data.toList with v | _ | _
  · have hb := Lib.atoiAll_bounds h
    refine (Tryd.strconv_Atoi_ok t (by omega) v h w).mono ?_
    rintro e w' ⟨rfl, hw⟩
    refine ⟨.inl ⟨v, rfl, h, hb.1, hb.2⟩, ?_⟩
    rcases hw with rfl | ⟨u, rfl⟩
    · exact Below.refl _ _
    · exact Lib.bytesWorld_below _ _ _
  · obtain ⟨tp, p, hv⟩ := hL.syn
    refine (Tryd.strconv_Atoi_syntax_var t (by omega) h tp p w hv).mono ?_
    rintro e w' ⟨N, rfl, _, _, hb⟩
    exact ⟨.inr ⟨_, _, _, rfl, by unfold Hid numP; rw [h]⟩, hb⟩
  · obtain ⟨tp, p, hv⟩ := hL.rng
    refine (Tryd.strconv_Atoi_range_var t (by omega) h tp p w hv).mono ?_
    rintro e w' ⟨N, rfl, _, _, hb⟩
    exact ⟨.inr ⟨_, _, _, rfl, by unfold Hid numP; rw [h]⟩, hb⟩
theorem itoaB_calls (n : Int) (w : World) (hL : LibAt w) (h0 : -9223372036854775808 ≤ n) (h1 : n ≤ 9223372036854775807) : Calls Tryd.prog 56 #[.int .i64 n] w fun e w' => e = .returned (.string ⟨(Lib.itoa n).toArray⟩) ∧ Below w.heap.size w w' := by
  refine (Tryd.strconv_Itoa n h0 h1 w hL.tab).mono ?_
  rintro e w' ⟨rfl, k, os, rfl⟩
  exact ⟨rfl, below_grow' _ _ _⟩
end Go.Proofs.YtldccpmnboebmaaDoor

/-! Own -/
namespace Go.Proofs.YtldccpmnboebmaaDoor
open Go.RowKit

/-- what an append to v (now v') did to the world -/
structure Grew (base : Nat) (w w' : World) (v v' : Value) : Prop where
  bel : Below base w w'
  oth : ∀ k, k < w.heap.size → some k ≠ v.ownBlock → w'.heap[k]? = w.heap[k]?
  blk : v'.ownBlock = v.ownBlock ∨ ∃ k, v'.ownBlock = some k ∧ w.heap.size ≤ k

section
variable {α : Type} {E : Rp α} {w w' : World} {e : TypeId} {base : Nat} {G : Nat → Prop} {v v' : Value} {xs : List α}
theorem below_drew {B : Nat} {a w : World} (h : Below B a w) : Below B a w.drew := ⟨h.os, h.tape, h.output, h.size, h.block⟩
/-- what an owned slice keeps while others' blocks are written -/
theorem Own.keepG (h : Own E e base G w v xs)
    (hk : ∀ k, k < w.heap.size → (G k ∨ v.ownBlock = some k) → w'.heap[k]? = w.heap[k]?) (hs : w.heap.size ≤ w'.heap.size) : Own E e base G w' v xs := by
  obtain ⟨cells, ⟨h1, h2⟩, h3⟩ := h
  refine ⟨cells, ⟨h1, ?_⟩, (CellsAre.keep (fun k hF => hk k hF.2.1 (.inl hF.1)) h3).wide fun k hF => ⟨hF.1, by omega, hF.2.2⟩⟩
  rcases h2 with h2 | ⟨g, cap, cur, hv, hb, hg, r⟩
  · exact .inl h2
  · exact .inr ⟨g, cap, cur, hv, hb, by rw [hk g (Array.getElem?_eq_some_iff.1 hg).1 (.inr (by rw [hv]; rfl))]; exact hg, r⟩
theorem Own.wideG {G' : Nat → Prop} (h : Own E e base G w v xs) (hG : ∀ k, k < w.heap.size → G k → G' k) : Own E e base G' w v xs := by
  obtain ⟨cells, h1, h3⟩ := h
  exact ⟨cells, h1, h3.wide fun k hF => ⟨hG k hF.2.1 hF.1, hF.2⟩⟩
/-- an owned slice, read -/
theorem Own.sl' {A : Option Addr} {n c : Nat} (h : Own E e base G w (.slice A n c) xs) : xs.length = n ∧ SlAt E (fun k => (G k ∨ base ≤ k) ∧ k < w.heap.size) w A c xs := by
  obtain ⟨A', c', he, hs⟩ := h.sl
  cases he
  exact ⟨rfl, hs⟩
/-- an owned slice, others' blocks written: the form with 'Grew' of another one -/
theorem Own.beside {u u' : Value} {b : Nat} (h : Own E e base G w v xs) (hg : Grew b w w' u u') (hd : ∀ k, u.ownBlock = some k → ¬ G k ∧ v.ownBlock ≠ some k) : Own E e base G w' v xs :=
  h.keepG (fun k hk hG => hg.oth k hk fun he => by
    have := hd k he.symm
    rcases hG with hG | hG
    · exact this.1 hG
    · exact this.2 hG) hg.bel.size
end

section
variable {P : Program} {α : Type} {E : Rp α}
theorem wpList_catG {ops : Array Oper} {rest : List Oper} {o : Oper} {a : Act} {Q : Exit → Act → World → Prop} {w : World} {base : Nat} {G : Nat → Prop} {v : Value} {xs : List α} (t e : TypeId) (z : Value) (bytes : Nat) (s x : Operand) (hgd : o.guard = none)
    (ho : o.op = .call { callee := .builtin .append, args := #[s, x], argTypes := #[t, t] })
    (ht : P.underlying t = some (.slice e)) (hinfo : (P.info? e).map (fun i => (i.zero, i.size, i.bytes)) = some (some z, E.n, bytes)) (hzs : z.cells.size = E.n) (hsz : 0 < E.n)
    (hs : a.eval s = v) (hown : Own E e base G w v xs) (A : Option Addr) (c : Nat) (ys : List α) (hx : a.eval x = .slice A ys.length c) (F : Nat → Prop) (hsl : SlAt E F w A c ys)
    (hF : ∀ k, F k → G k ∧ k < w.heap.size ∧ some k ≠ v.ownBlock) (n : Nat) (hn : (xs ++ ys).length = n) (hlen : Room n) (hb : bytes ≤ 131072) (hbase : base ≤ w.heap.size)
    (h : ∀ A' c' w', Hid (Own E e base G w' (.slice A' n c') (xs ++ ys)) → Hid (Grew base w w' v (.slice A' n c')) → wpList P ops Q rest (a.put o.dst (.slice A' n c')) w') : wpList P ops Q (o :: rest) a w := by
  refine wpList_app_sl t e z bytes hgd s x ho ht hinfo hzs hsz hs hown A c ys hx F hsl hF (by rw [← List.length_append, hn]; exact Nat.le_of_lt hlen) hb hbase fun v' w' h1 h2 h3 => ?_
  obtain ⟨cells, ⟨hl, hv⟩, hc⟩ := h1
  have hform : ∃ A' c', v' = .slice A' n c' := by
    rcases hv with ⟨hv, h0⟩ | ⟨g, cap, cur, hv, _⟩
    · rw [hn] at h0; subst h0; exact ⟨_, _, hv⟩
    · rw [hn] at hv; exact ⟨_, _, hv⟩
  obtain ⟨A', c', rfl⟩ := hform
  exact h A' c' w' ⟨cells, ⟨hl, hv⟩, hc⟩ ⟨below_app (Below.refl base w) h2 hown (Nat.le_refl _) hbase, h2.block, h3.imp id fun he => ⟨_, he, Nat.le_refl _⟩⟩

theorem wpList_pushG {ops : Array Oper} {rest : List Oper} {o1 o2 : Oper} {a : Act} {Q : Exit → Act → World → Prop} {w : World} {base : Nat} {G : Nat → Prop} {v : Value} {xs : List α} (t e : TypeId) (z : Value) (bytes : Nat) (tmp : Nat) (s xo : Operand)
    (hg1 : o1.guard = none) (hg2 : o2.guard = none) (hd1 : o1.dst = some tmp) (ho1 : o1.op = .buildSlice t 1 #[(0, xo)])
    (ho2 : o2.op = .call { callee := .builtin .append, args := #[s, .tmp tmp], argTypes := #[t, t] })
    (ht : P.underlying t = some (.slice e)) (hinfo : (P.info? e).map (fun i => (i.zero, i.size, i.bytes)) = some (some z, E.n, bytes)) (hzs : z.cells.size = E.n) (hsz : 0 < E.n)
    (hs : ∀ u, (a.put (some tmp) u).eval s = v) (ht2 : ∀ u, (a.put (some tmp) u).eval (.tmp tmp) = u) (hown : Own E e base G w v xs)
    (u : Value) (hu : a.eval xo = u) (x : α) (F : Nat → Prop) (hR : E.R F w u.cells.toList x)
    (hF : ∀ k, F k → G k ∧ k < w.heap.size ∧ some k ≠ v.ownBlock) (n : Nat) (hn : xs.length + 1 = n) (hlen : Room xs.length) (hb : bytes ≤ 131072 ∧ E.n ≤ 16777216) (hbase : base ≤ w.heap.size)
    (h : ∀ A' c' w', Hid (Own E e base G w' (.slice A' n c') (xs ++ [x])) → Hid (Grew base w w' v (.slice A' n c')) →
      wpList P ops Q rest ((a.put (some tmp) (.slice (some ⟨w.heap.size, 0, none⟩) 1 1)).put o2.dst (.slice A' n c')) w') : wpList P ops Q (o1 :: o2 :: rest) a w := by
  subst hn
  have hcl := E.len hR
  have hrun := run_buildSlice1 (P := P) (t := t) (e := e) (z := z) (size := E.n) (bytes := bytes) ht hinfo hzs hsz hb.2 u (by simpa using hcl) w
  refine wpList_plain hg1 fun K hK => ?_
  unfold Oper.wp
  rw [show execOp a.eval o1 = do return .value (← Instr.buildSlice t 1 #[(0, u)]) from by simp [execOp, ho1, hu]]
  simp only [Sem.run_bind, hrun, Result.andThen_ok, Sem.run_pure, Oper.upon_value, hd1]
  refine hK _ _ ?_
  have hkp : ∀ k, k < w.heap.size → (w.alloc (.cells u.cells e)).heap[k]? = w.heap[k]? := fun k hk => Below.heap_alloc _ _ _ hk
  refine wpList_app (P := P) (E := E) (base := base) (G := G) (v := v) (xs := xs) t e z bytes hg2 s (.tmp tmp) ho2 ht hinfo hzs hsz (hs _) (hown.alloc _) ⟨w.heap.size, 0, none⟩ 1 1 (ht2 _) u.cells.toList [x] rfl F
    (CellsAre.one (E.keep hR fun k hk => hkp k (hF k hk).2.1)) (fun j c hc => ?_) (fun k hk => ⟨(hF k hk).1, by simp; have := (hF k hk).2.1; omega, (hF k hk).2.2⟩) (by unfold Room at hlen; simp; omega) hb.1 (by simp; omega) (fun v' w' h1 h2 h3 => ?_)
  · rw [add_lit', Nat.zero_add, (Blk.new w e u.cells).cell]; simpa using hc
  · obtain ⟨cells, ⟨hl, hv⟩, hc⟩ := h1
    have hform : ∃ A' c', v' = .slice A' (xs.length + 1) c' := by
      rcases hv with ⟨_, h0⟩ | ⟨g, cap, cur, hv, _⟩
      · simp at h0
      · rw [List.length_append] at hv; exact ⟨_, _, hv⟩
    obtain ⟨A', c', rfl⟩ := hform
    refine h A' c' w' ⟨cells, ⟨hl, hv⟩, hc⟩ ⟨?_, fun k hk hne => (h2.block k (by simp; omega) hne).trans (hkp k hk), h3.imp id fun he => ⟨_, he, by simp⟩⟩
    refine below_app ((Below.refl base w).alloc hbase _) h2 (hown.alloc _) (Nat.le_refl _) (by simp; omega)

theorem wp_catG {o : Oper} {a : Act} {K : Act → World → Prop} {Q : Exit → Act → World → Prop} {w : World} {base : Nat} {G : Nat → Prop} {v : Value} {xs : List α} (t e : TypeId) (z : Value) (bytes : Nat) (s x : Operand)
    (ho : o.op = .call { callee := .builtin .append, args := #[s, x], argTypes := #[t, t] })
    (ht : P.underlying t = some (.slice e)) (hinfo : (P.info? e).map (fun i => (i.zero, i.size, i.bytes)) = some (some z, E.n, bytes)) (hzs : z.cells.size = E.n) (hsz : 0 < E.n)
    (hs : a.eval s = v) (hown : Own E e base G w v xs) (A : Option Addr) (c : Nat) (ys : List α) (hx : a.eval x = .slice A ys.length c) (F : Nat → Prop) (hsl : SlAt E F w A c ys)
    (hF : ∀ k, F k → G k ∧ k < w.heap.size ∧ some k ≠ v.ownBlock) (n : Nat) (hn : (xs ++ ys).length = n) (hlen : Room n) (hb : bytes ≤ 131072) (hbase : base ≤ w.heap.size)
    (h : ∀ A' c' w', Hid (Own E e base G w' (.slice A' n c') (xs ++ ys)) → Hid (Grew base w w' v (.slice A' n c')) → K (a.put o.dst (.slice A' n c')) w') : o.wp P a w K Q := by
  obtain ⟨i, hi, hz, h1, h2⟩ := info_parts hinfo
  have hown' := hown
  obtain ⟨cells, h3, h4⟩ := hown
  cases A with
  | some ad =>
    obtain ⟨news, h5, h6⟩ := hsl.cells
    have hby : (xs.length + ys.length) * bytes ≤ 140737488355328 := by
      rw [← List.length_append, hn]
      have := Nat.mul_le_mul (Nat.le_of_lt hlen) hb
      omega
    have hml : xs.length + ys.length ≤ maxLen := by
      rw [← List.length_append, hn]; unfold Room at hlen; unfold maxLen; omega
    obtain ⟨v', w', hr, k1, k2, _, k4⟩ := run_append_own_at (P := P) w base t o.type e i z E.n bytes ht hi hz h1 h2 hzs hsz v xs.length cells h3 ad ys.length c news h5.length h6 h5.oneCell hml hby hbase
    have hO := own_append h4 h5 hF k1 k2 k4
    have hform : ∃ A' c', v' = .slice A' n c' := by
      obtain ⟨cells', ⟨hl, hv⟩, hc⟩ := hO
      rcases hv with ⟨hv, h0⟩ | ⟨g, cap, cur, hv, _⟩
      · rw [hn] at h0; subst h0; exact ⟨_, _, hv⟩
      · rw [hn] at hv; exact ⟨_, _, hv⟩
    obtain ⟨A', c', rfl⟩ := hform
    unfold Oper.wp execOp
    simp only [ho, resolve, invoke, builtin, Sem.run_bind, Sem.run_pure, Result.andThen_ok, List.map_toArray, List.map_cons, List.map_nil, hs, hx, hr]
    exact h A' c' w' hO ⟨below_app (Below.refl base w) k2 hown' (Nat.le_refl _) hbase, k2.block, k4.imp id fun he => ⟨_, he, Nat.le_refl _⟩⟩
  | none =>
    have hc := hsl.nil rfl
    have hl := hsl.le
    have hy : ys = [] := List.eq_nil_of_length_eq_zero (by omega)
    subst hy
    subst hc
    have hrun := run_append_owned_none (P := P) w base t o.type e i E.n ht hi v xs.length cells h3
    have hform : ∃ A' c', v = .slice A' n c' := by
      rcases h3.2 with ⟨hv, h0⟩ | ⟨g, cap, cur, hv, _⟩
      · rw [List.append_nil] at hn; rw [hn] at h0; subst h0; exact ⟨_, _, hv⟩
      · rw [List.append_nil] at hn; rw [hn] at hv; exact ⟨_, _, hv⟩
    obtain ⟨A', c', rfl⟩ := hform
    unfold Oper.wp execOp
    simp only [List.length_nil] at hx
    simp only [ho, resolve, invoke, builtin, Sem.run_bind, Sem.run_pure, Result.andThen_ok, List.map_toArray, List.map_cons, List.map_nil, hs, hx, hrun]
    exact h A' c' w (by unfold Hid; rw [List.append_nil]; exact hown') ⟨Below.refl base w, fun _ _ _ => rfl, .inl rfl⟩
theorem step_catG {ops : Array Oper} {o : Oper} {a : Act} {K : Act → World → Prop} {Q : Exit → Act → World → Prop} {D : Prop} {w : World} {base : Nat} {G : Nat → Prop} {v : Value} {xs : List α} (t e : TypeId) (z : Value) (bytes : Nat) (s x : Operand) (hgd : o.guard = none)
    (ho : o.op = .call { callee := .builtin .append, args := #[s, x], argTypes := #[t, t] })
    (ht : P.underlying t = some (.slice e)) (hinfo : (P.info? e).map (fun i => (i.zero, i.size, i.bytes)) = some (some z, E.n, bytes)) (hzs : z.cells.size = E.n) (hsz : 0 < E.n)
    (hs : a.eval s = v) (hown : Own E e base G w v xs) (A : Option Addr) (c : Nat) (ys : List α) (hx : a.eval x = .slice A ys.length c) (F : Nat → Prop) (hsl : SlAt E F w A c ys)
    (hF : ∀ k, F k → G k ∧ k < w.heap.size ∧ some k ≠ v.ownBlock) (n : Nat) (hn : (xs ++ ys).length = n) (hlen : Room n) (hb : bytes ≤ 131072) (hbase : base ≤ w.heap.size)
    (h : ∀ A' c' w', Hid (Own E e base G w' (.slice A' n c') (xs ++ ys)) → Hid (Grew base w w' v (.slice A' n c')) → K (a.put o.dst (.slice A' n c')) w') :
    if Region.wanted o (yielded ops a.tmps) = true then Oper.wp P o a w K Q else D := by
  rw [if_pos (by simp [Region.wanted, hgd])]
  exact wp_catG t e z bytes s x ho ht hinfo hzs hsz hs hown A c ys hx F hsl hF n hn hlen hb hbase h
end

/-- the zeros that 'make([]int, n)' lays, as a slice -/
theorem zeros_sl {w : World} {g n : Nat} {t : TypeId} {F : Nat → Prop} (h : Blk w g t (madeCells #[Value.int .i64 0] n)) (hF : F g) (hn : n ≤ maxLen) : SlAt (pI .i64) F w (some ⟨g, 0, none⟩) n (List.replicate n 0) := by
  rw [cellsN_made] at h
  have := sl_of_blk h hF hn fun i _ => (fits_i64 (by omega) : Fits .i64 0)
  rwa [List.map_const', List.length_range] at this
end Go.Proofs.YtldccpmnboebmaaDoor

/-! Pg -/
namespace Go.Proofs.YtldccpmnboebmaaDoor
open Go.RowKit Go.Sort
set_option linter.unusedVariables false

def ParsePost (s : List UInt8) (w : World) (e : Ending) (w' : World) : Prop :=
  ∃ A c, e = .returned (.tuple #[.slice A (parseF s).1.length c, .int .i64 (parseF s).2]) ∧ Own pMod 44 w.heap.size (w.heap.size ≤ ·) w' (.slice A (parseF s).1.length c) (parseF s).1 ∧ Below w.heap.size w w'
theorem parse_err {s : List UInt8} {w w' : World} (h : parseF s = ([], 12)) (hb : Below w.heap.size w w') : ParsePost s w (.returned (.tuple #[.slice none 0 0, .int .i64 12])) w' := by
  unfold ParsePost
  rw [h]
  exact ⟨none, 0, rfl, Own.nil, hb⟩
theorem parse_none {s : List UInt8} (h : modsG modP s.length s = none) : parseF s = ([], 12) := by
  unfold parseF parseG
  rw [h]; split <;> rfl
theorem map_more (done : List Mod) (m : Mod) (x : Option (List Mod)) : (x.map (m :: ·)).map (done ++ ·) = x.map ((done ++ [m]) ++ ·) := by cases x <;> simp
theorem map_moreI (vals : List Int) (m : Int) (x : Option (List Int)) : (x.map (m :: ·)).map (vals ++ ·) = x.map ((vals ++ [m]) ++ ·) := by cases x <;> simp
theorem str_cell {W : World} {g : Nat} {T : TypeId} {ps : List ByteArray} (h : Blk W g T (ps.map Value.string).toArray) {j : Nat} {x : ByteArray} {rest : List ByteArray} (hd : ps.drop j = x :: rest) : W.cell? ⟨g, j, none⟩ = some (.string x) := by
  rw [h.cell j]
  have := get_of_drop hd
  simp [this]
theorem map_none {α β : Type} {f : α → β} {x : Option α} (h : x = none) : x.map f = none := by rw [h]; rfl

set_option maxRecDepth 100000 in
set_option maxHeartbeats 4000000 in
theorem parse_calls (s : ByteArray) (w : World) (hs : s.size ≤ 60000) (hL : LibAt w) :
    Calls Tryd.prog 34 #[.string s] w (ParsePost s.data.toList w) := by
  have hsl : s.size = s.data.toList.length := Lib.size_eq s
  have HL := Lib.hid hL; clear hL
  by_cases hbig : 50000 < s.size
  · have hr : parseF s.data.toList = ([], 12) := by unfold parseF parseG; rw [if_pos (by omega)]
    have hbig' : (50000 : Int) < (s.size : Int) := by omega
    have Hr := Lib.hid hr; clear hr
    have Hsl := Lib.hid hsl; clear hsl
    go_enter Tryd.func34, Tryd.ntmps34
    go_wp2
    go_ret2
    exact parse_err Hr.out (Below.refl _ _)
  · have hbig' : ¬ (50000 : Int) < (s.size : Int) := by omega
    have hgo : parseF s.data.toList = match modsG modP s.data.toList.length s.data.toList with
      | none => ([], 12)
      | some ws => if checkF ws = 0 then (ws, 0) else ([], 12) := by
        unfold parseF parseG; rw [if_neg (by omega)]; try rfl
    have hst : modsG modP s.data.toList.length s.data.toList = (modsG modP s.data.toList.length s.data.toList).map ([] ++ ·) := by cases modsG modP s.data.toList.length s.data.toList <;> rfl
    obtain ⟨L0, hL0⟩ : ∃ L0, s.data.toList = L0 := ⟨_, rfl⟩
    rw [hL0] at hgo hst hsl ⊢
    have Hgo := Lib.hid hgo; clear hgo
    have Hst := Lib.hid hst; clear hst
    have HL0 := Lib.hid hL0; clear hL0
    go_enter Tryd.func34, Tryd.ntmps34
    go_wp2
    go_loopw [0, 4] (fun sv v wr => ∃ (t : ByteArray) (done : List Mod) (Ao : Option Addr) (co f : Nat), sv = .string t ∧ v = .slice Ao done.length co ∧ t.size ≤ 50000 ∧ t.size ≤ f ∧ done.length + t.size ≤ 50000 ∧ Hid (modsG modP L0.length L0 = (modsG modP f t.data.toList).map (done ++ ·)) ∧ Hid (Below w.heap.size w wr) ∧ w.heap.size ≤ wr.heap.size ∧ Hid (Own pMod 44 w.heap.size (w.heap.size ≤ ·) wr (.slice Ao done.length co) done)) (fun sv _ _ => match sv with | .string t => t.size | _ => 0)
    case atStart => exact ⟨s, [], none, 0, L0.length, rfl, rfl, by omega, by omega, by simp; omega, by rw [HL0.out]; exact Hst, Below.refl _ _, Nat.le_refl _, Own.nil⟩
    case round =>
      obtain ⟨t, done, Ao, co, f, rfl, rfl, ht, htf, hdt, hmod, hb, hsz, hown⟩ := hrel
      obtain ⟨wo, rfl⟩ : ∃ wo : World, wo = wr := ⟨_, rfl⟩
      have hlo := HL.out.later hb.out
      cases htl : t.data.toList with
      | nil =>
        have hne0 : t.toList.isEmpty = true := by rw [ByteArray.toList_eq, htl]; rfl
        rw [htl, modsG_nil] at hmod
        have hm2 : modsG modP L0.length L0 = some done := by rw [hmod.out]; simp
        have hgo2 : parseF L0 = if checkF done = 0 then (done, 0) else ([], 12) := by rw [Hgo.out, hm2]
        have hsd : SlAt pMod (Old wo) wo Ao co done := (hown.out.sl'.2).wide fun q hq => hq.2
        have hdl : done.length ≤ 50000 := by omega
        have hck := wordCheck_calls Ao co done wo hsd
        have Hgo2 := Lib.hid hgo2; clear hgo2
        have Hm2 := Lib.hid hm2; clear hm2
        have Hck := Lib.hid hck; clear hck
        have Hmod := Lib.hid hmod; clear hmod
        by_cases hc : checkF done = 0
        · have e0 : (checkF done != 0) = false := by simp [hc]
          have hr : parseF L0 = (done, 0) := by rw [Hgo2.out, if_pos hc]
          have Hr := Lib.hid hr; clear hr
          have Hc := Lib.hid hc; clear hc
          go_wp2_with fail
          refine Hck.out.mono ?_
          rintro e w2 ⟨rfl, hb2⟩
          have hb3 := hb.out.trans (hb2.mono hsz)
          have hown3 := hown.out.later hb2
          have Hb3 := Lib.hid hb3; clear hb3
          have Hown3 := Lib.hid hown3; clear hown3
          clear hb2
          go_wp2
          go_ret2
          exact ⟨Ao, co, by rw [Hr.out]; rfl, by rw [Hr.out]; exact Hown3.out, Hb3.out⟩
        · have e0 : (checkF done != 0) = true := by simp [hc]
          have hr : parseF L0 = ([], 12) := by rw [Hgo2.out, if_neg hc]
          have Hr := Lib.hid hr; clear hr
          have Hc := Lib.hid hc; clear hc
          go_wp2_with fail
          refine Hck.out.mono ?_
          rintro e w2 ⟨rfl, hb2⟩
          have hb3 := hb.out.trans (hb2.mono hsz)
          have Hb3 := Lib.hid hb3; clear hb3
          clear hb2
          go_wp2
          go_ret2
          exact parse_err Hr.out Hb3.out
      | cons c r =>
        obtain ⟨f, rfl⟩ : ∃ f', f = f' + 1 := by
          have := Lib.size_eq t
          rw [htl] at this
          simp at this
          exact ⟨f - 1, by omega⟩
        rw [htl, modsG_cons] at hmod
        have hne0 : t.toList.isEmpty = false := by rw [ByteArray.toList_eq, htl]; rfl
        have htz : t.size = r.length + 1 := by rw [Lib.size_eq t, htl]; rfl
        have hpos : 0 < t.size := by omega
        have hc0 : (t[0]'hpos) = c := by
          have : t.data.toList[0]? = some c := by rw [htl]; rfl
          rw [List.getElem?_eq_getElem (by rw [← Lib.size_eq]; exact hpos)] at this
          exact Option.some.inj this
        obtain ⟨t1, ht1⟩ : ∃ t1 : ByteArray, t.extract 1 t.size = t1 := ⟨_, rfl⟩
        have hd1 : t1.data.toList = r := by rw [← ht1, Lib.extract_to_end, htl]; rfl
        have hz1 : t1.size = r.length := by rw [Lib.size_eq, hd1]
        obtain ⟨W1, hW1⟩ : ∃ W : World, W = wo.alloc (.cells #[.int .u8 (c.toNat : Int), .slice none 0 0] 44) := ⟨_, rfl⟩
        have hblk1 : Blk W1 wo.heap.size 44 #[.int .u8 (c.toNat : Int), .slice none 0 0] := by rw [hW1]; exact Blk.new _ _ _
        have hbw1 : Below wo.heap.size wo W1 := by rw [hW1]; exact (Below.refl _ _).alloc (Nat.le_refl _) _
        have hzw1 : wo.heap.size < W1.heap.size := by rw [hW1]; simp
        have hc8 : Fits .u8 (c.toNat : Int) := fits_u8 (by have := c.toNat_lt; omega)
        have hrm : Room done.length := room_of (by omega)
        have hpf := Tryd.strings_HasPrefix t1 ⟨#[40]⟩ W1
        rw [hd1] at hpf
        have hln : ∀ m : Mod, (done ++ [m]).length = done.length + 1 := fun m => by simp
        have Htz := Lib.hid htz; clear htz
        have Hblk1 := Lib.hid hblk1; clear hblk1
        have Hbw1 := Lib.hid hbw1; clear hbw1
        have HW1 := Lib.hid hW1; clear hW1
        have Hrm := Lib.hid hrm; clear hrm
        have Hln := Lib.hid hln; clear hln
        have Hlo := Lib.hid hlo; clear hlo
        by_cases hp40 : ∃ r', r = 40 :: r'
        · obtain ⟨r', rfl⟩ := hp40
          have hpe : Lib.hasPrefix (40 :: r') (ByteArray.mk #[40]).data.toList = true := by unfold Lib.hasPrefix; rfl
          rw [hpe] at hpf
          obtain ⟨t2, ht2⟩ : ∃ t2 : ByteArray, t1.extract 1 t1.size = t2 := ⟨_, rfl⟩
          have hd2 : t2.data.toList = r' := by rw [← ht2, Lib.extract_to_end, hd1]; rfl
          have hz2 : t2.size = r'.length := by rw [Lib.size_eq, hd2]
          have hpos1 : 0 < t1.size := by rw [hz1]; simp
          have hcut := cut_calls t2 W1 (HL.out.later (hb.out.trans (Hbw1.out.mono hsz))) (by have := Htz.out; rw [List.length_cons] at this; omega)
          rw [hd2] at hcut
          have ht2z : t2.size + 1 = t1.size := by rw [hz2, hz1]; simp
          have ht1z : t1.size + 1 = t.size := by rw [hz1]; exact Htz.out.symm
          have Hmod := Lib.hid hmod; clear hmod
          have Hpf := Lib.hid hpf; clear hpf
          have Hcut := Lib.hid hcut; clear hcut
          have Hz1 := Lib.hid hz1; clear hz1
          have Hz2 := Lib.hid hz2; clear hz2
          have Hd1 := Lib.hid hd1; clear hd1
          have Hd2 := Lib.hid hd2; clear hd2
          have Htl := Lib.hid htl; clear htl
          go_wp2_with fail
          rw [← HW1.out]
          refine Hpf.out.mono ?_
          rintro e w' ⟨rfl, rfl⟩
          go_wp2_with fail
          refine Hcut.out.mono ?_
          rintro e w2 ⟨⟨p, q, ok, rfl, hcase⟩, hb2⟩
          have hzb2 := hb2.size
          have hbw2 := (hb.out.trans (Hbw1.out.mono hsz)).trans (hb2.mono (by omega))
          have hbl2 := Hblk1.out.same (hb2.block _ hzw1)
          cases hcc : cutC 41 r' with
          | none =>
            rw [hcc] at hcase
            obtain rfl : ok = false := hcase.out
            have hr : parseF L0 = ([], 12) := parse_none (by rw [Hmod.out.out, modP_cons, if_pos rfl, hcc]; rfl)
            have Hr := Lib.hid hr; clear hr
            have Hbw2 := Lib.hid hbw2; clear hbw2
            clear hb2 hbl2 hcc
            go_wp2
            go_ret2
            exact parse_err Hr.out Hbw2.out
          | some lr =>
            obtain ⟨l, rest⟩ := lr
            rw [hcc] at hcase
            obtain ⟨hpl, hql, rfl⟩ := hcase.out
            have hmq : modP c (40 :: r') = (allP (splitC 44 l)).map fun ag => (⟨c.toNat, ag⟩, rest) := by rw [modP_cons, if_pos rfl, hcc]
            have hrl := cutC_text hcc
            have hrz : r'.length = l.length + rest.length + 1 := by rw [hrl]; simp; omega
            have hpz : p.size = l.length := by rw [Lib.size_eq, hpl]
            have hqz : q.size = rest.length := by rw [Lib.size_eq, hql]
            have hqt : q.size + 1 + l.length + 1 + 1 = t.size := by have := Htz.out; rw [List.length_cons] at this; omega
            have hsp := split_calls p w2 (HL.out.later hbw2) (by omega)
            unfold PiecesPost at hsp
            rw [hpl] at hsp
            have Hmq := Lib.hid hmq; clear hmq
            have Hsp := Lib.hid hsp; clear hsp
            have Hb2 := Lib.hid hb2; clear hb2
            have Hbl2 := Lib.hid hbl2; clear hbl2
            have Hbw2 := Lib.hid hbw2; clear hbw2
            have Hpl := Lib.hid hpl; clear hpl
            have Hql := Lib.hid hql; clear hql
            have Hpz := Lib.hid hpz; clear hpz
            have Hqz := Lib.hid hqz; clear hqz
            have Hrz := Lib.hid hrz; clear hrz
            clear hcc hcase hrl
            go_wp2_with fail
            refine Hsp.out.mono ?_
            rintro e w3 ⟨ps, rfl, hw3, hps, hpsl⟩
            have hb3 : Below w2.heap.size w2 w3 := by rw [hw3]; exact (Below.refl _ _).alloc (Nat.le_refl _) _
            have hz3 : w2.heap.size < w3.heap.size := by rw [hw3]; simp
            have hpb3 : Blk w3 w2.heap.size 9 (ps.map Value.string).toArray := by rw [hw3]; exact Blk.new _ _ _
            have hbl3 := Hbl2.out.same (hb3.block _ (by omega))
            have hbo3 : Below wo.heap.size wo w3 := (Hbw1.out.trans (Hb2.out.mono (by omega))).trans (hb3.mono (by omega))
            have hpn : ps.length ≤ 60000 := by have := Hpz.out; have := Hrz.out; omega
            have hst0 : allP (splitC 44 l) = (allP ((ps.drop 0).map (·.data.toList))).map ([] ++ ·) := by
              rw [List.drop_zero, hps.out]; cases allP (splitC 44 l) <;> rfl
            have how0 : Own (pI .i64) 3 (w2.heap.size + 1) (fun _ => False) w3 (.slice none 0 0) ([] : List Int) := Own.nil
            have Hpb3 := Lib.hid hpb3; clear hpb3
            have Hbl3 := Lib.hid hbl3; clear hbl3
            have Hbo3 := Lib.hid hbo3; clear hbo3
            have Hst0 := Lib.hid hst0; clear hst0
            have How0 := Lib.hid how0; clear how0
            have Hb3 := Lib.hid hb3; clear hb3
            clear hw3
            go_wp2
            go_loopw [37] (fun i wr => ∃ (j : Nat) (vals : List Int) (Dv : Option Addr) (dv : Nat), j ≤ ps.length ∧ i = .int .i64 j ∧ vals.length = j ∧ Hid (allP (splitC 44 l) = (allP ((ps.drop j).map (·.data.toList))).map (vals ++ ·)) ∧ Hid (Below wo.heap.size wo wr) ∧ w2.heap.size < wr.heap.size ∧ Hid (Blk wr wo.heap.size 44 #[.int .u8 (c.toNat : Int), .slice Dv j dv]) ∧ Hid (Blk wr w2.heap.size 9 (ps.map Value.string).toArray) ∧ Hid (Own (pI .i64) 3 (w2.heap.size + 1) (fun _ => False) wr (.slice Dv j dv) vals)) (fun i _ => ps.length - (intOf i).toNat)
            case atStart => exact ⟨0, [], none, 0, Nat.zero_le _, rfl, rfl, Hst0, Hbo3, hz3, Hbl3, Hpb3, How0⟩
            case round =>
              obtain ⟨j, vals, Dv, dv, hj, rfl, hvl, hall, hb4, hz4, hbl4, hpb4, how4⟩ := hrel
              obtain ⟨wq, rfl⟩ : ∃ wq : World, wq = wr := ⟨_, rfl⟩
              have hbw4 : Below w.heap.size w wq := hb.out.trans (hb4.out.mono hsz)
              by_cases hlt : j < ps.length
              · have hdx : ps.drop j = ps[j] :: ps.drop (j + 1) := List.drop_eq_getElem_cons hlt
                obtain ⟨x, hx⟩ : ∃ x, ps[j] = x := ⟨_, rfl⟩
                rw [hx] at hdx
                have hcx := str_cell hpb4.out hdx
                have hxz : x.size ≤ 60000 := by
                  have hm : x.data.toList ∈ splitC 44 l := by
                    show x.data.toList ∈ splitC 44 l
                    rw [← (show ps.map (fun b : ByteArray => b.data.toList) = splitC 44 l from hps.out)]
                    exact List.mem_map_of_mem (mem_of_drop hdx)
                  have := splitC_piece 44 l _ hm
                  rw [Lib.size_eq]
                  have := Hrz.out; have := Hpz.out; omega
                have hL4 := HL.out.later hbw4
                have hat := atoi_calls x wq hL4 hxz
                rw [hdx, List.map_cons] at hall
                have hall2 : allP (splitC 44 l) = (match numP x.data.toList with
                  | none => none
                  | some n => (allP ((ps.drop (j + 1)).map fun b : ByteArray => b.data.toList)).map (n :: ·)).map (vals ++ ·) := hall.out
                have Hat := Lib.hid hat; clear hat
                have Hall2 := Lib.hid hall2; clear hall2
                have Hdx := Lib.hid hdx; clear hdx
                have Hbw4 := Lib.hid hbw4; clear hbw4
                have HL4 := Lib.hid hL4; clear hL4
                clear hall hx
                go_wp2_with fail
                refine Hat.out.mono ?_
                rintro e w5 ⟨hcase5, hb5⟩
                have hz5 := hb5.size
                have hbw5 : Below w.heap.size w w5 := Hbw4.out.trans (hb5.mono (by omega))
                rcases hcase5 with ⟨v, rfl, hv, hv0, hv1⟩ | ⟨v, T5, p5, rfl, hno⟩
                · have hit := itoaB_calls v w5 (HL.out.later hbw5) hv0 hv1
                  obtain ⟨y, hy⟩ : ∃ y : ByteArray, y = ⟨(Lib.itoa v).toArray⟩ := ⟨_, rfl⟩
                  have hyl : y.data.toList = Lib.itoa v := by rw [hy]
                  rw [← hy] at hit
                  have Hit := Lib.hid hit; clear hit
                  have Hy := Lib.hid hy; clear hy
                  have Hyl := Lib.hid hyl; clear hyl
                  have Hbw5 := Lib.hid hbw5; clear hbw5
                  by_cases hyx : y = x
                  · subst hyx
                    have hnum : numP y.data.toList = some v := by
                      unfold numP
                      rw [hv.out]
                      show (if Lib.itoa v = y.data.toList then some v else none) = _
                      rw [if_pos Hyl.out.symm]
                    have hall3 : allP (splitC 44 l) = (allP ((ps.drop (j + 1)).map (·.data.toList))).map ((vals ++ [v]) ++ ·) := by
                      rw [Hall2.out, hnum]; exact map_moreI _ _ _
                    have ebb : (y.toList != y.toList) = false := bne_self_eq_false _
                    have Hall3 := Lib.hid hall3; clear hall3
                    have Hnum := Lib.hid hnum; clear hnum
                    have Hb5 := Lib.hid hb5; clear hb5
                    go_wp2_with fail
                    refine Hit.out.mono ?_
                    rintro e w6 ⟨rfl, hb6⟩
                    have hz6 := hb6.size
                    have hb46 : Below wq.heap.size wq w6 := Hb5.out.trans (hb6.mono hz5)
                    have hbl6 := hbl4.out.same (hb46.block _ (by omega))
                    have hpb6 := hpb4.out.same (hb46.block _ hz4)
                    have how6 := how4.out.later hb46
                    have hbo6 : Below wo.heap.size wo w6 := hb4.out.trans (hb46.mono (by omega))
                    have hrm6 : Room vals.length := room_of (by omega)
                    have hne6 : some wo.heap.size ≠ (Value.slice Dv j dv).ownBlock := fun he => by have := how4.out.lt _ he.symm; omega
                    have hne7 : some w2.heap.size ≠ (Value.slice Dv j dv).ownBlock := fun he => by have := how4.out.lt _ he.symm; omega
                    have hRv : (pI .i64).R (fun _ => False) w6 (Value.int .i64 v).cells.toList v := ⟨rfl, fits_i64 (by omega)⟩
                    have hln6 : vals.length + 1 = j + 1 := by omega
                    have m1 := hbl6.cell 1
                    simp only [List.getElem?_toArray, List.getElem?_cons_succ, List.getElem?_cons_zero] at m1
                    have hlt6 : wo.heap.size < w6.heap.size := by omega
                    have hlt7 : w2.heap.size < w6.heap.size := by omega
                    have hba6 : w2.heap.size + 1 ≤ w6.heap.size := by omega
                    have Hb46 := Lib.hid hb46; clear hb46
                    have Hbl6 := Lib.hid hbl6; clear hbl6
                    have Hpb6 := Lib.hid hpb6; clear hpb6
                    have How6 := Lib.hid how6; clear how6
                    have Hbo6 := Lib.hid hbo6; clear hbo6
                    have Hrm6 := Lib.hid hrm6; clear hrm6
                    have Hne6 := Lib.hid hne6; clear hne6
                    have Hne7 := Lib.hid hne7; clear hne7
                    have HRv := Lib.hid hRv; clear hRv
                    have Hln6 := Lib.hid hln6; clear hln6
                    clear hb6
                    go_wp2_with ((with_reducible show wpList _ _ _ (Oper.mk (some 57) _ _ _ _ _ :: _) _ _); refine wpList_pushG (E := pI .i64) (xs := vals) (v := .slice Dv j dv) (base := w2.heap.size + 1) (G := fun _ => False) 42 3 (.int .i64 0) 8 57 (.tmp 55) (.tmp 56) rfl rfl rfl rfl rfl Tryd.underlying42 (by kernel_rfl) rfl (by decide) (fun _ => rfl) (fun _ => rfl) How6.out (.int .i64 v) rfl v (fun _ => False) HRv.out (fun _ h => h.elim) (j + 1) Hln6.out Hrm6.out ⟨by decide, by decide⟩ hba6 ?_; intro A7 c7 w7 hown7 hg7; have hbm7 := Hbl6.out.same (hg7.out.oth _ hlt6 Hne6.out); have x7 := hbm7.cell 1; have f7 := hbm7.free 1; have Hbm7 := Lib.hid hbm7; clear hbm7)
                    go_roundw
                    case rel =>
                      have hz7 := hg7.out.bel.size
                      have hs7 : (w7.setCell ⟨wo.heap.size, 1, none⟩ (.slice A7 (j + 1) c7)).heap.size = w7.heap.size := by simp [World.setCell]
                      refine ⟨j + 1, vals ++ [v], A7, c7, hlt, by go_num, by simp; omega, Hall3, ?_, by omega, ?_, ?_, ?_⟩
                      · exact (Hbo6.out.trans (hg7.out.bel.mono (by omega))).setCell (by show wo.heap.size ≤ wo.heap.size; omega) _
                      · have := Hbm7.out.set 1 (.slice A7 (j + 1) c7)
                        unfold Hid
                        simpa using this
                      · have hk7 := Hpb6.out.same (hg7.out.oth _ hlt7 Hne7.out)
                        unfold Hid
                        exact hk7.same (Below.heap_setCell _ _ _ _ (by show w2.heap.size ≠ wo.heap.size; omega))
                      · unfold Hid
                        refine hown7.out.keepG (fun q hq hG => Below.heap_setCell _ _ _ _ ?_) (by omega)
                        rcases hG with hG | hG
                        · exact hG.elim
                        · have := hown7.out.lt q hG
                          show q ≠ wo.heap.size
                          omega
                    case measure => simp [intOf]; omega
                  · have hnum : numP x.data.toList = none := by
                      unfold numP
                      rw [hv.out]
                      show (if Lib.itoa v = x.data.toList then some v else none) = _
                      rw [if_neg fun e => hyx (by rw [Hy.out, e, Lib.mk_data])]
                    have hr : parseF L0 = ([], 12) := parse_none (by
                      have e2 : allP (splitC 44 l) = none := by rw [Hall2.out, hnum]; rfl
                      rw [Hmod.out.out, Hmq.out, e2]; rfl)
                    have ebb : (y.toList == x.toList) = false := by
                      rw [beq_eq_false_iff_ne, ByteArray.toList_eq, ByteArray.toList_eq]
                      intro e
                      exact hyx (by rw [← Lib.mk_data y, e, Lib.mk_data])
                    have Hnum := Lib.hid hnum; clear hnum
                    have Hb5 := Lib.hid hb5; clear hb5
                    have Hr := Lib.hid hr; clear hr
                    go_wp2_with fail
                    refine Hit.out.mono ?_
                    rintro e w6 ⟨rfl, hb6⟩
                    have hbw6 : Below w.heap.size w w6 := Hbw5.out.trans (hb6.mono (by omega))
                    have Hbw6 := Lib.hid hbw6; clear hbw6
                    clear hb6
                    go_wp2
                    go_ret2
                    exact parse_err Hr.out Hbw6.out
                · have hr : parseF L0 = ([], 12) := parse_none (by
                    have e2 : allP (splitC 44 l) = none := by rw [Hall2.out, hno.out]; rfl
                    rw [Hmod.out.out, Hmq.out, e2]; rfl)
                  have Hr := Lib.hid hr; clear hr
                  have Hb5 := Lib.hid hb5; clear hb5
                  have Hbw5 := Lib.hid hbw5; clear hbw5
                  go_wp2
                  go_ret2
                  exact parse_err Hr.out Hbw5.out
              · obtain rfl : j = ps.length := by omega
                have hvals : allP (splitC 44 l) = some vals := by
                  rw [hall.out, List.drop_length]
                  show some (vals ++ []) = _
                  rw [List.append_nil]
                have hmod2 : modsG modP L0.length L0 = (modsG modP f q.data.toList).map ((done ++ [⟨c.toNat, vals⟩]) ++ ·) := by
                  rw [Hmod.out.out, Hmq.out, hvals, Hql.out]; exact map_more _ _ _
                obtain ⟨A3, c3, e3, hsl3⟩ := (how4.out.flat (pI_flat _) (G' := (w2.heap.size + 1 ≤ ·))).fresh
                rw [hvl] at e3
                injection e3 with e31 e32 e33
                subst e31 e33
                have hR : pMod.R (fun q => w2.heap.size + 1 ≤ q ∧ q < wq.heap.size) wq [.int .u8 (c.toNat : Int), .slice Dv ps.length dv] (⟨c.toNat, vals⟩ : Mod) := ⟨Dv, dv, by rw [hvl], hc8, hsl3⟩
                have howq := hown.out.later hb4.out
                have hF : ∀ q, (w2.heap.size + 1 ≤ q ∧ q < wq.heap.size) → w.heap.size ≤ q ∧ q < wq.heap.size ∧ some q ≠ (Value.slice Ao done.length co).ownBlock := fun q hq => ⟨by omega, hq.2, fun he => by have := (hown.out.lt q he.symm).2; omega⟩
                have m0 := (hbl4.out.cell 0).trans rfl
                have m1 := (hbl4.out.cell 1).trans rfl
                have hbaq : w.heap.size ≤ wq.heap.size := by omega
                have Hvals := Lib.hid hvals; clear hvals
                have Hmod2 := Lib.hid hmod2; clear hmod2
                have HR := Lib.hid hR; clear hR
                have Howq := Lib.hid howq; clear howq
                have HF := Lib.hid hF; clear hF
                have Hbw4 := Lib.hid hbw4; clear hbw4
                clear hsl3
                go_wp2_with ((with_reducible show wpList _ _ _ (Oper.mk (some 64) _ _ _ _ _ :: _) _ _); refine wpList_pushG (E := pMod) (xs := done) (v := .slice Ao done.length co) (base := w.heap.size) (G := (w.heap.size ≤ ·)) 22 44 (.agg #[.int .u8 0, .slice none 0 0]) 32 64 (.tmp 62) (.tmp 63) rfl rfl rfl rfl rfl Tryd.underlying22 (by kernel_rfl) rfl (by decide) (fun _ => rfl) (fun _ => rfl) Howq.out (.agg #[.int .u8 (c.toNat : Int), .slice Dv ps.length dv]) rfl ⟨c.toNat, vals⟩ (fun q => w2.heap.size + 1 ≤ q ∧ q < wq.heap.size) HR.out HF.out (done.length + 1) rfl Hrm.out ⟨by decide, by decide⟩ hbaq ?_; intro A6 c6 w6 hown6 hg6)
                go_roundw
                case rel =>
                  have hz6 := hg6.out.bel.size
                  refine ⟨q, done ++ [⟨c.toNat, vals⟩], A6, c6, f, rfl, by rw [Hln.out], by omega, by omega, by rw [Hln.out]; omega, Hmod2, Hbw4.out.trans hg6.out.bel, by omega, ?_⟩
                  unfold Hid; rw [Hln.out]; exact hown6.out
                case measure => simp; omega
        · have hpe : Lib.hasPrefix r (ByteArray.mk #[40]).data.toList = false := by
            unfold Lib.hasPrefix
            cases r with
            | nil => rfl
            | cons b r' =>
              have hb : b ≠ 40 := fun e => hp40 ⟨r', by rw [e]⟩
              simp [List.isPrefixOf, Ne.symm hb]
          rw [hpe] at hpf
          have hmp : modP c r = some (⟨c.toNat, []⟩, r) := by
            cases r with
            | nil => rfl
            | cons b r' => rw [modP_cons, if_neg fun e => hp40 ⟨r', by rw [e]⟩]
          rw [hmp] at hmod
          have hmod2 : modsG modP L0.length L0 = (modsG modP f t1.data.toList).map ((done ++ [⟨c.toNat, []⟩]) ++ ·) := by
            rw [hmod.out, hd1]; exact map_more _ _ _
          have hR : pMod.R (fun _ => False) W1 [.int .u8 (c.toNat : Int), .slice none 0 0] (⟨c.toNat, []⟩ : Mod) := ⟨none, 0, by simp, hc8, ⟨Nat.le_refl _, by simp, fun _ => rfl, fun i x hx => by simp at hx⟩⟩
          have hown1 := hown.out.later Hbw1.out
          have hbw2 := hb.out.trans (Hbw1.out.mono hsz)
          have m0 := (Hblk1.out.cell 0).trans rfl
          have m1 := (Hblk1.out.cell 1).trans rfl
          have ht1z : t1.size + 1 = t.size := by rw [hz1]; exact Htz.out.symm
          have Hmod2 := Lib.hid hmod2; clear hmod2
          have Hpf := Lib.hid hpf; clear hpf
          have HR := Lib.hid hR; clear hR
          have Hown1 := Lib.hid hown1; clear hown1
          have Hbw2 := Lib.hid hbw2; clear hbw2
          have Hz1 := Lib.hid hz1; clear hz1
          have Hd1 := Lib.hid hd1; clear hd1
          have Htl := Lib.hid htl; clear htl
          clear hmp hmod
          go_wp2_with fail
          rw [← HW1.out]
          refine Hpf.out.mono ?_
          rintro e w' ⟨rfl, rfl⟩
          go_wp2_with ((with_reducible show wpList _ _ _ (Oper.mk (some 64) _ _ _ _ _ :: _) _ _); refine wpList_pushG (E := pMod) (xs := done) (v := .slice Ao done.length co) (base := w.heap.size) (G := (w.heap.size ≤ ·)) 22 44 (.agg #[.int .u8 0, .slice none 0 0]) 32 64 (.tmp 62) (.tmp 63) rfl rfl rfl rfl rfl Tryd.underlying22 (by kernel_rfl) rfl (by decide) (fun _ => rfl) (fun _ => rfl) Hown1.out (.agg #[.int .u8 (c.toNat : Int), .slice none 0 0]) rfl ⟨c.toNat, []⟩ (fun _ => False) HR.out (fun _ h => h.elim) (done.length + 1) rfl Hrm.out ⟨by decide, by decide⟩ (by omega) ?_; intro A6 c6 w6 hown6 hg6)
          go_roundw
          case rel =>
            have hz6 := hg6.out.bel.size
            refine ⟨t1, done ++ [⟨c.toNat, []⟩], A6, c6, f, rfl, by rw [Hln.out], by omega, by omega, by rw [Hln.out]; omega, Hmod2, Hbw2.out.trans hg6.out.bel, by omega, ?_⟩
            unfold Hid; rw [Hln.out]; exact hown6.out
          case measure => simp; omega
end Go.Proofs.YtldccpmnboebmaaDoor
