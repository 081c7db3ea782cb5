/-
  Layer 17: how arguments that are vectors, frames, lines, marks, tracks open.
-/
import Derived.Test.YtldccpmnboebmaaVb
import Derived.Test.YtldccpmnboebmaaRep
import Derived.Test.YtldccpmnboebmaaOi
namespace Go.Proofs.Ytldccpmnboebmaa
open Go.RowKit
set_option linter.unusedVariables false

def pVec : Rp V3 where
  n := 3
  R _ _ cs v := cs = [.int .i64 v.1, .int .i64 v.2.1, .int .i64 v.2.2] ∧ FitV v
  len := by rintro F w cs x ⟨rfl, _⟩; rfl
  keep := by rintro F w w' cs x h _; exact h
  wide := by rintro F F' w cs x h _; exact h
  one := by
    rintro F w cs x ⟨rfl, _⟩ v hv
    simp at hv
    rcases hv with rfl | rfl | rfl <;> rfl
def pFr : Rp Fr where
  n := 4
  R _ _ cs f := cs = [.int .u8 f.1, .int .i64 f.2.1, .int .i64 f.2.2.1, .int .i64 f.2.2.2] ∧ Fits .u8 f.1 ∧ FitV f.2
  len := by rintro F w cs x ⟨rfl, _⟩; rfl
  keep := by rintro F w w' cs x h _; exact h
  wide := by rintro F F' w cs x h _; exact h
  one := by
    rintro F w cs x ⟨rfl, _⟩ v hv
    simp at hv
    rcases hv with rfl | rfl | rfl | rfl <;> rfl
abbrev Tur := Fr × Int
def pTur : Rp Tur where
  n := 5
  R _ _ cs f := cs = [.int .u8 f.1.1, .int .i64 f.1.2.1, .int .i64 f.1.2.2.1, .int .i64 f.1.2.2.2, .int .i64 f.2] ∧ Fits .u8 f.1.1 ∧ FitV f.1.2 ∧ Fits .i64 f.2
  len := by rintro F w cs x ⟨rfl, _⟩; rfl
  keep := by rintro F w w' cs x h _; exact h
  wide := by rintro F F' w cs x h _; exact h
  one := by
    rintro F w cs x ⟨rfl, _⟩ v hv
    simp at hv
    rcases hv with rfl | rfl | rfl | rfl | rfl <;> rfl
def pTrk : Rp Trk where
  n := 7
  R F w cs t := ∃ A c B d, cs = [.slice A t.lines.length c, .slice B t.marks.length d, .int .u8 t.fr.1, .int .i64 t.fr.2.1, .int .i64 t.fr.2.2.1, .int .i64 t.fr.2.2.2, .int .i64 t.drawn] ∧ SlAt pLn F w A c t.lines ∧ SlAt pMk F w B d t.marks ∧ Fits .u8 t.fr.1 ∧ FitV t.fr.2 ∧ Fits .i64 t.drawn
  len := by rintro F w cs x ⟨A, c, B, d, rfl, _⟩; rfl
  keep := by rintro F w w' cs x ⟨A, c, B, d, rfl, h1, h2, h3⟩ k; exact ⟨A, c, B, d, rfl, h1.keep k, h2.keep k, h3⟩
  wide := by rintro F F' w cs x ⟨A, c, B, d, rfl, h1, h2, h3⟩ k; exact ⟨A, c, B, d, rfl, h1.wide k, h2.wide k, h3⟩
  one := by
    rintro F w cs x ⟨A, c, B, d, rfl, _⟩ v hv
    simp at hv
    rcases hv with rfl | rfl | rfl | rfl | rfl | rfl | rfl <;> rfl
section
variable {P : Program} {t : TypeId}
theorem opens_vec {f0 f1 f2 : Field} (ht : P.underlying t = some (.struct #[f0, f1, f2])) (hc : P.cellsOf t = 3) (ho : [f0, f1, f2].map (fun f => (f.offset, P.cellsOf f.type)) = [(0, 1), (1, 1), (2, 1)])
    (o0 : Opens P f0.type (pI .i64)) (o1 : Opens P f1.type (pI .i64)) (o2 : Opens P f2.type (pI .i64)) : Opens P t pVec := by
  intro H enc w fuel cs x h
  simp only [List.map_cons, List.map_nil, List.cons.injEq, Prod.mk.injEq, and_true] at ho
  obtain ⟨a0, a1, a2⟩ := ho
  obtain ⟨xs, n, rfl, rfl, hl, hlen, hf⟩ := DataW.trod_struct ht h
  rw [hc] at hl
  match cs, hl with
  | [c0, c1, c2], _ =>
    obtain ⟨y0, hy0⟩ := opens_field (f := f0) hlen (i := 0) rfl (hf 0 f0 rfl) o0
    obtain ⟨y1, hy1⟩ := opens_field (f := f1) hlen (i := 1) rfl (hf 1 f1 rfl) o1
    obtain ⟨y2, hy2⟩ := opens_field (f := f2) hlen (i := 2) rfl (hf 2 f2 rfl) o2
    rw [a0.1, a0.2] at hy0
    rw [a1.1, a1.2] at hy1
    rw [a2.1, a2.2] at hy2
    obtain ⟨e0, z0⟩ := hy0
    obtain ⟨e1, z1⟩ := hy1
    obtain ⟨e2, z2⟩ := hy2
    simp at e0 e1 e2
    subst e0 e1 e2
    exact ⟨(y0, y1, y2), rfl, z0, z1, z2⟩
theorem opens_fr {f0 f1 : Field} (ht : P.underlying t = some (.struct #[f0, f1])) (hc : P.cellsOf t = 4) (ho : [f0, f1].map (fun f => (f.offset, P.cellsOf f.type)) = [(0, 1), (1, 3)])
    (o0 : Opens P f0.type (pI .u8)) (o1 : Opens P f1.type pVec) : Opens P t pFr := by
  intro H enc w fuel cs x h
  simp only [List.map_cons, List.map_nil, List.cons.injEq, Prod.mk.injEq, and_true] at ho
  obtain ⟨a0, a1⟩ := ho
  obtain ⟨xs, n, rfl, rfl, hl, hlen, hf⟩ := DataW.trod_struct ht h
  rw [hc] at hl
  match cs, hl with
  | [c0, c1, c2, c3], _ =>
    obtain ⟨y0, hy0⟩ := opens_field (f := f0) hlen (i := 0) rfl (hf 0 f0 rfl) o0
    obtain ⟨y1, hy1⟩ := opens_field (f := f1) hlen (i := 1) rfl (hf 1 f1 rfl) o1
    rw [a0.1, a0.2] at hy0
    rw [a1.1, a1.2] at hy1
    obtain ⟨e0, z0⟩ := hy0
    obtain ⟨e1, z1⟩ := hy1
    simp at e0 e1
    obtain ⟨e1, e2, e3⟩ := e1
    subst e0 e1 e2 e3
    exact ⟨(y0, y1), rfl, z0, z1⟩
theorem opens_tur {f0 f1 : Field} (ht : P.underlying t = some (.struct #[f0, f1])) (hc : P.cellsOf t = 5) (ho : [f0, f1].map (fun f => (f.offset, P.cellsOf f.type)) = [(0, 4), (4, 1)])
    (o0 : Opens P f0.type pFr) (o1 : Opens P f1.type (pI .i64)) : Opens P t pTur := by
  intro H enc w fuel cs x h
  simp only [List.map_cons, List.map_nil, List.cons.injEq, Prod.mk.injEq, and_true] at ho
  obtain ⟨a0, a1⟩ := ho
  obtain ⟨xs, n, rfl, rfl, hl, hlen, hf⟩ := DataW.trod_struct ht h
  rw [hc] at hl
  match cs, hl with
  | [c0, c1, c2, c3, c4], _ =>
    obtain ⟨y0, hy0⟩ := opens_field (f := f0) hlen (i := 0) rfl (hf 0 f0 rfl) o0
    obtain ⟨y1, hy1⟩ := opens_field (f := f1) hlen (i := 1) rfl (hf 1 f1 rfl) o1
    rw [a0.1, a0.2] at hy0
    rw [a1.1, a1.2] at hy1
    obtain ⟨e0, z0⟩ := hy0
    obtain ⟨e1, z1⟩ := hy1
    simp at e0 e1
    obtain ⟨e0, e2, e3, e4⟩ := e0
    subst e0 e1 e2 e3 e4
    exact ⟨(y0, y1), rfl, z0.1, z0.2, z1⟩
theorem opens_ln {f0 f1 f2 : Field} (ht : P.underlying t = some (.struct #[f0, f1, f2])) (hc : P.cellsOf t = 7) (ho : [f0, f1, f2].map (fun f => (f.offset, P.cellsOf f.type)) = [(0, 3), (3, 3), (6, 1)])
    (o0 : Opens P f0.type pVec) (o1 : Opens P f1.type pVec) (o2 : Opens P f2.type (pI .i64)) : Opens P t pLn := by
  intro H enc w fuel cs x h
  simp only [List.map_cons, List.map_nil, List.cons.injEq, Prod.mk.injEq, and_true] at ho
  obtain ⟨a0, a1, a2⟩ := ho
  obtain ⟨xs, n, rfl, rfl, hl, hlen, hf⟩ := DataW.trod_struct ht h
  rw [hc] at hl
  match cs, hl with
  | [c0, c1, c2, c3, c4, c5, c6], _ =>
    obtain ⟨y0, hy0⟩ := opens_field (f := f0) hlen (i := 0) rfl (hf 0 f0 rfl) o0
    obtain ⟨y1, hy1⟩ := opens_field (f := f1) hlen (i := 1) rfl (hf 1 f1 rfl) o1
    obtain ⟨y2, hy2⟩ := opens_field (f := f2) hlen (i := 2) rfl (hf 2 f2 rfl) o2
    rw [a0.1, a0.2] at hy0
    rw [a1.1, a1.2] at hy1
    rw [a2.1, a2.2] at hy2
    obtain ⟨e0, z0⟩ := hy0
    obtain ⟨e1, z1⟩ := hy1
    obtain ⟨e2, z2⟩ := hy2
    simp at e0 e1 e2
    obtain ⟨e0, e3, e4⟩ := e0
    obtain ⟨e1, e5, e6⟩ := e1
    subst e0 e1 e2 e3 e4 e5 e6
    exact ⟨⟨y0, y1, y2⟩, rfl, z0, z1, z2⟩
theorem opens_mk {f0 f1 : Field} (ht : P.underlying t = some (.struct #[f0, f1])) (hc : P.cellsOf t = 5) (ho : [f0, f1].map (fun f => (f.offset, P.cellsOf f.type)) = [(0, 1), (1, 4)])
    (o0 : Opens P f0.type (pI .u8)) (o1 : Opens P f1.type pFr) : Opens P t pMk := by
  intro H enc w fuel cs x h
  simp only [List.map_cons, List.map_nil, List.cons.injEq, Prod.mk.injEq, and_true] at ho
  obtain ⟨a0, a1⟩ := ho
  obtain ⟨xs, n, rfl, rfl, hl, hlen, hf⟩ := DataW.trod_struct ht h
  rw [hc] at hl
  match cs, hl with
  | [c0, c1, c2, c3, c4], _ =>
    obtain ⟨y0, hy0⟩ := opens_field (f := f0) hlen (i := 0) rfl (hf 0 f0 rfl) o0
    obtain ⟨y1, hy1⟩ := opens_field (f := f1) hlen (i := 1) rfl (hf 1 f1 rfl) o1
    rw [a0.1, a0.2] at hy0
    rw [a1.1, a1.2] at hy1
    obtain ⟨e0, z0⟩ := hy0
    obtain ⟨e1, z1⟩ := hy1
    simp at e0 e1
    obtain ⟨e1, e2, e3, e4⟩ := e1
    subst e0 e1 e2 e3 e4
    exact ⟨⟨y0, y1.1, y1.2⟩, rfl, z0, z1.1, z1.2⟩
theorem opens_trk {f0 f1 f2 : Field} (ht : P.underlying t = some (.struct #[f0, f1, f2])) (hc : P.cellsOf t = 7) (ho : [f0, f1, f2].map (fun f => (f.offset, P.cellsOf f.type)) = [(0, 1), (1, 1), (2, 5)])
    (o0 : Opens P f0.type (pSl pLn)) (o1 : Opens P f1.type (pSl pMk)) (o2 : Opens P f2.type pTur) : Opens P t pTrk := by
  intro H enc w fuel cs x h
  simp only [List.map_cons, List.map_nil, List.cons.injEq, Prod.mk.injEq, and_true] at ho
  obtain ⟨a0, a1, a2⟩ := ho
  obtain ⟨xs, n, rfl, rfl, hl, hlen, hf⟩ := DataW.trod_struct ht h
  rw [hc] at hl
  match cs, hl with
  | [c0, c1, c2, c3, c4, c5, c6], _ =>
    obtain ⟨y0, hy0⟩ := opens_field (f := f0) hlen (i := 0) rfl (hf 0 f0 rfl) o0
    obtain ⟨y1, hy1⟩ := opens_field (f := f1) hlen (i := 1) rfl (hf 1 f1 rfl) o1
    obtain ⟨y2, hy2⟩ := opens_field (f := f2) hlen (i := 2) rfl (hf 2 f2 rfl) o2
    rw [a0.1, a0.2] at hy0
    rw [a1.1, a1.2] at hy1
    rw [a2.1, a2.2] at hy2
    obtain ⟨A, c, e0, s0⟩ := hy0
    obtain ⟨B, d, e1, s1⟩ := hy1
    obtain ⟨e2, z2⟩ := hy2
    simp at e0 e1 e2
    obtain ⟨e2, e3, e4, e5, e6⟩ := e2
    subst e0 e1 e2 e3 e4 e5 e6
    exact ⟨⟨y0, y1, y2.1, y2.2⟩, A, c, B, d, rfl, s0, s1, z2.1, z2.2.1, z2.2.2⟩
end
theorem opens_vec' : Opens Try.prog 25 pVec := opens_vec Try.underlying25 (by kernel_rfl) (by kernel_rfl) (opens_int Try.underlying3) (opens_int Try.underlying3) (opens_int Try.underlying3)
theorem opens_frame : Opens Try.prog 27 pFr := opens_fr Try.underlying27 (by kernel_rfl) (by kernel_rfl) (opens_int Try.underlying5) opens_vec'
theorem opens_turtle : Opens Try.prog 29 pTur := opens_tur Try.underlying29 (by kernel_rfl) (by kernel_rfl) opens_frame (opens_int Try.underlying3)
theorem opens_line : Opens Try.prog 58 pLn := opens_ln Try.underlying58 (by kernel_rfl) (by kernel_rfl) opens_vec' opens_vec' (opens_int Try.underlying3)
theorem opens_lines : Opens Try.prog 22 (pSl pLn) := opens_slice Try.underlying22 (by kernel_rfl) (by decide) opens_line
theorem opens_mark : Opens Try.prog 67 pMk := opens_mk Try.underlying67 (by kernel_rfl) (by kernel_rfl) (opens_int Try.underlying5) opens_frame
theorem opens_marks : Opens Try.prog 23 (pSl pMk) := opens_slice Try.underlying23 (by kernel_rfl) (by decide) opens_mark
theorem opens_track : Opens Try.prog 31 pTrk := opens_trk Try.underlying31 (by kernel_rfl) (by kernel_rfl) opens_lines opens_marks opens_turtle
end Go.Proofs.Ytldccpmnboebmaa
