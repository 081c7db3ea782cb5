/-
  Layer 17: tropisms as arguments; the cells of arguments that are tracks, frames, turtles, tropisms.
-/
import Derived.Test.YtldccpmnboebmaaDoorM2
namespace Go.Proofs.YtldccpmnboebmaaDoor
open Go.RowKit
set_option linter.unusedVariables false

def pTrop : Rp (Int × Int) where
  n := 2
  R _ _ cs f := cs = [.int .u8 f.1, .int .i64 f.2] ∧ Fits .u8 f.1 ∧ Fits .i64 f.2
  len := by rintro F w cs x ⟨rfl, _⟩; rfl
  keep := by rintro F w w' cs x h _; exact h
  wide := by rintro F F' w cs x h _; exact h
  one := by
    rintro F w cs x ⟨rfl, _⟩ v hv
    simp at hv
    rcases hv with rfl | rfl <;> rfl
theorem opens_trp {P : Program} {t : TypeId} {f0 f1 : Field} (ht : P.underlying t = some (.struct #[f0, f1])) (hc : P.cellsOf t = 2) (ho : [f0, f1].map (fun f => (f.offset, P.cellsOf f.type)) = [(0, 1), (1, 1)])
    (o0 : Opens P f0.type (pI .u8)) (o1 : Opens P f1.type (pI .i64)) : Opens P t pTrop := by
  intro H enc w fuel cs x h
  simp only [List.map_cons, List.map_nil, List.cons.injEq, Prod.mk.injEq, and_true] at ho
  obtain ⟨a0, a1⟩ := ho
  obtain ⟨xs, n, rfl, rfl, hl, hlen, hf⟩ := DataW.trod_struct ht h
  rw [hc] at hl
  match cs, hl with
  | [c0, c1], _ =>
    obtain ⟨y0, hy0⟩ := opens_field (f := f0) hlen (i := 0) rfl (hf 0 f0 rfl) o0
    obtain ⟨y1, hy1⟩ := opens_field (f := f1) hlen (i := 1) rfl (hf 1 f1 rfl) o1
    rw [a0.1, a0.2] at hy0
    rw [a1.1, a1.2] at hy1
    obtain ⟨e0, z0⟩ := hy0
    obtain ⟨e1, z1⟩ := hy1
    simp at e0 e1
    subst e0 e1
    exact ⟨(y0, y1), rfl, z0, z1⟩
theorem opens_tropism : Opens Tryd.prog 30 pTrop := opens_trp Tryd.underlying30 (by kernel_rfl) (by kernel_rfl) (opens_int Tryd.underlying5) (opens_int Tryd.underlying3)
theorem arg_trk {F : Nat → Prop} {w : World} {cs : Array Value} {t : Trk} (h : pTrk.R F w (Value.agg cs).cells.toList t) : ∃ A c B d, cs = #[.slice A t.lines.length c, .slice B t.marks.length d, .int .u8 t.fr.1, .int .i64 t.fr.2.1, .int .i64 t.fr.2.2.1, .int .i64 t.fr.2.2.2, .int .i64 t.drawn] ∧ SlAt pLn F w A c t.lines ∧ SlAt pMk F w B d t.marks ∧ Fits .u8 t.fr.1 ∧ FitV t.fr.2 ∧ Fits .i64 t.drawn := by
  obtain ⟨A, c, B, d, h1, h2⟩ := h
  exact ⟨A, c, B, d, Array.toList_inj.1 (by simpa [Value.cells] using h1), h2⟩
theorem arg_fr {F : Nat → Prop} {w : World} {cs : Array Value} {f : Fr} (h : pFr.R F w (Value.agg cs).cells.toList f) : cs = #[.int .u8 f.1, .int .i64 f.2.1, .int .i64 f.2.2.1, .int .i64 f.2.2.2] ∧ Fits .u8 f.1 ∧ FitV f.2 := by
  obtain ⟨h1, h2⟩ := h
  exact ⟨Array.toList_inj.1 (by simpa [Value.cells] using h1), h2⟩
theorem arg_tur {F : Nat → Prop} {w : World} {cs : Array Value} {t : Tur} (h : pTur.R F w (Value.agg cs).cells.toList t) : cs = #[.int .u8 t.1.1, .int .i64 t.1.2.1, .int .i64 t.1.2.2.1, .int .i64 t.1.2.2.2, .int .i64 t.2] ∧ Fits .u8 t.1.1 ∧ FitV t.1.2 ∧ Fits .i64 t.2 := by
  obtain ⟨h1, h2⟩ := h
  exact ⟨Array.toList_inj.1 (by simpa [Value.cells] using h1), h2⟩
theorem arg_trop {F : Nat → Prop} {w : World} {cs : Array Value} {t : Int × Int} (h : pTrop.R F w (Value.agg cs).cells.toList t) : cs = #[.int .u8 t.1, .int .i64 t.2] ∧ Fits .u8 t.1 ∧ Fits .i64 t.2 := by
  obtain ⟨h1, h2⟩ := h
  exact ⟨Array.toList_inj.1 (by simpa [Value.cells] using h1), h2⟩
end Go.Proofs.YtldccpmnboebmaaDoor
