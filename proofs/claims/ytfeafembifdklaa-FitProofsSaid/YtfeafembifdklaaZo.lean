/-
  From a row's reading of its arguments to how they lie in cells: fits, cubes.
-/
import Derived.Test.YtfeafembifdklaaZa
import Derived.Test.YtfeafembifdklaaOi
namespace Go.Proofs.Ytfeafembifdklaa
open Go.RowKit

theorem opens_formZ : Opens Try.prog 44 pFrm :=
  opens_frm Try.underlying44 (by kernel_rfl) (by decide) (by decide) (opens_int Try.underlying3) opens_ints
theorem opens_formsZ : Opens Try.prog 23 (pSl pFrm) := opens_slice Try.underlying23 (by kernel_rfl) (by decide) opens_formZ
section
variable {P : Program} {t : TypeId}
theorem opens_cub {f0 f1 : Field} (ht : P.underlying t = some (.struct #[f0, f1])) (hc : P.cellsOf t = 2) (h0 : f0.offset = 0 ∧ P.cellsOf f0.type = 1) (h1 : f1.offset = 1 ∧ P.cellsOf f1.type = 1)
    (o0 : Opens P f0.type (pSl (pI .i64))) (o1 : Opens P f1.type (pSl (pI .i64))) : Opens P t pCub := by
  intro H enc w fuel cs x h
  obtain ⟨xs, n, rfl, rfl, hl, hlen, hf⟩ := DataW.trod_struct ht h
  rw [hc] at hl
  match cs, hl with
  | [c0, c1], _ =>
    obtain ⟨y0, hy0⟩ := opens_field (f := f0) hlen (i := 0) rfl (hf 0 f0 rfl) o0
    obtain ⟨y1, hy1⟩ := opens_field (f := f1) hlen (i := 1) rfl (hf 1 f1 rfl) o1
    rw [h0.1, h0.2] at hy0
    rw [h1.1, h1.2] at hy1
    obtain ⟨A, c, e0, s0⟩ := hy0
    obtain ⟨A', c', e1, s1⟩ := hy1
    simp at e0 e1
    subst e0 e1
    exact ⟨⟨y0, y1⟩, A, c, A', c', rfl, s0, s1⟩
/-- an argument that is a fit -/
theorem open_fit {f0 f1 f2 f3 : Field} (ht : P.underlying t = some (.struct #[f0, f1, f2, f3])) (hc : P.cellsOf t = 4) (ho : [f0, f1, f2, f3].map (fun f => (f.offset, P.cellsOf f.type)) = [(0, 1), (1, 1), (2, 1), (3, 1)])
    (o0 : Opens P f0.type (pSl (pI .i64))) (o1 : Opens P f1.type (pSl (pI .i64))) (o2 : Opens P f2.type (pSl pFrm)) (o3 : Opens P f3.type (pSl (pI .i64)))
    {H : Type} {enc : TypeId × Value → H} {w : World} {fuel : Nat} {cs : Array Value} {x : DataW H × List MemPlace} (h : DataW.trod enc P w 0 (fun _ => true) true fuel t (Value.agg cs).cells.toList = some x) :
    ∃ (f : Fit) (A1 : Option Addr) (c1 : Nat) (A2 : Option Addr) (c2 : Nat) (A3 : Option Addr) (c3 : Nat) (A4 : Option Addr) (c4 : Nat),
      cs = #[.slice A1 f.lo.length c1, .slice A2 f.hi.length c2, .slice A3 f.terms.length c3, .slice A4 f.goals.length c4] ∧ FitAt f (Old w) w A1 c1 A2 c2 A3 c3 A4 c4 := by
  simp only [List.map_cons, List.map_nil, List.cons.injEq, Prod.mk.injEq, and_true] at ho
  obtain ⟨a0, a1, a2, a3⟩ := ho
  obtain ⟨xs, n, rfl, rfl, hl, hlen, hf⟩ := DataW.trod_struct ht h
  rw [hc] at hl
  simp only [Value.cells] at hl hf
  obtain ⟨l⟩ := cs
  match l, hl with
  | [v0, v1, v2, v3], _ =>
    obtain ⟨y0, hy0⟩ := opens_field (f := f0) hlen (i := 0) rfl (hf 0 f0 rfl) o0
    obtain ⟨y1, hy1⟩ := opens_field (f := f1) hlen (i := 1) rfl (hf 1 f1 rfl) o1
    obtain ⟨y2, hy2⟩ := opens_field (f := f2) hlen (i := 2) rfl (hf 2 f2 rfl) o2
    obtain ⟨y3, hy3⟩ := opens_field (f := f3) hlen (i := 3) rfl (hf 3 f3 rfl) o3
    rw [a0.1, a0.2] at hy0
    rw [a1.1, a1.2] at hy1
    rw [a2.1, a2.2] at hy2
    rw [a3.1, a3.2] at hy3
    obtain ⟨A0, c0, e0, s0⟩ := hy0
    obtain ⟨A1, c1, e1, s1⟩ := hy1
    obtain ⟨A2, c2, e2, s2⟩ := hy2
    obtain ⟨A3, c3, e3, s3⟩ := hy3
    simp at e0 e1 e2 e3
    subst e0 e1 e2 e3
    exact ⟨⟨y0, y1, y2, y3⟩, A0, c0, A1, c1, A2, c2, A3, c3, rfl, s0, s1, s2, s3⟩
end
theorem opens_cube : Opens Try.prog 40 pCub := opens_cub Try.underlying40 (by kernel_rfl) (by decide) (by decide) opens_ints opens_ints
theorem opens_cubes : Opens Try.prog 26 (pSl pCub) := opens_slice Try.underlying26 (by kernel_rfl) (by decide) opens_cube
theorem arg_cub {F : Nat → Prop} {w : World} {cs : Array Value} {m : Cub} (h : pCub.R F w (Value.agg cs).cells.toList m) : ∃ A c A' c', cs = #[.slice A m.lo.length c, .slice A' m.hi.length c'] ∧ SlAt (pI .i64) F w A c m.lo ∧ SlAt (pI .i64) F w A' c' m.hi := by
  obtain ⟨A, c, A', c', h1, h2, h3⟩ := h
  exact ⟨A, c, A', c', Array.toList_inj.1 (by simpa [Value.cells] using h1), h2, h3⟩
theorem arg_fit {H : Type} {enc : TypeId × Value → H} {w : World} {fuel : Nat} {cs : Array Value} {x : DataW H × List MemPlace} (h : DataW.trod enc Try.prog w 0 (fun _ => true) true fuel 25 (Value.agg cs).cells.toList = some x) :
    ∃ (f : Fit) (A1 : Option Addr) (c1 : Nat) (A2 : Option Addr) (c2 : Nat) (A3 : Option Addr) (c3 : Nat) (A4 : Option Addr) (c4 : Nat),
      cs = #[.slice A1 f.lo.length c1, .slice A2 f.hi.length c2, .slice A3 f.terms.length c3, .slice A4 f.goals.length c4] ∧ FitAt f (Old w) w A1 c1 A2 c2 A3 c3 A4 c4 :=
  open_fit Try.underlying25 (by kernel_rfl) (by decide) opens_ints opens_ints opens_formsZ opens_ints h
end Go.Proofs.Ytfeafembifdklaa
