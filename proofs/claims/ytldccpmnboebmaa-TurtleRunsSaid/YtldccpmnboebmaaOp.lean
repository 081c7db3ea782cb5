/-
  From a row's reading of its arguments to how they lie in cells: modules, forms, shapes, rules.
-/
import Derived.Test.YtldccpmnboebmaaRep
import Derived.Test.YtldccpmnboebmaaProg
import Derived.Test.YtldccpmnboebmaaOi
namespace Go.Proofs.Ytldccpmnboebmaa
open Go.RowKit

theorem opens_mod' : Opens Try.prog 77 pMod :=
  opens_mod Try.underlying77 (by kernel_rfl) ⟨rfl, by kernel_rfl⟩ ⟨rfl, by kernel_rfl⟩ (opens_int Try.underlying5) opens_ints
theorem opens_word : Opens Try.prog 47 (pSl pMod) := opens_slice Try.underlying47 (by kernel_rfl) (by decide) opens_mod'
/-- an argument that is a module -/
theorem arg_mod {F : Nat → Prop} {w : World} {cs : Array Value} {m : Mod} (h : pMod.R F w (Value.agg cs).cells.toList m) : ∃ A c, cs = #[.int .u8 m.name, .slice A m.args.length c] ∧ Fits .u8 m.name ∧ SlAt (pI .i64) F w A c m.args := by
  obtain ⟨A, c, h1, h2, h3⟩ := h
  exact ⟨A, c, Array.toList_inj.1 (by simpa [Value.cells] using h1), h2, h3⟩
theorem arg_frm {F : Nat → Prop} {w : World} {cs : Array Value} {m : Frm} (h : pFrm.R F w (Value.agg cs).cells.toList m) : ∃ A c, cs = #[.int .i64 m.const, .slice A m.coefs.length c] ∧ Fits .i64 m.const ∧ SlAt (pI .i64) F w A c m.coefs := by
  obtain ⟨A, c, h1, h2, h3⟩ := h
  exact ⟨A, c, Array.toList_inj.1 (by simpa [Value.cells] using h1), h2, h3⟩
theorem arg_rul {F : Nat → Prop} {w : World} {cs : Array Value} {m : Rul} (h : pRul.R F w (Value.agg cs).cells.toList m) : ∃ A c A' c', cs = #[.int .u8 m.name, .int .i64 m.arity, .int .u8 m.left, .int .u8 m.right, .slice A m.guards.length c, .int .i64 m.weight, .slice A' m.out.length c'] ∧
    (Fits .u8 m.name ∧ Fits .i64 m.arity ∧ Fits .u8 m.left ∧ Fits .u8 m.right ∧ Fits .i64 m.weight) ∧ SlAt pFrm F w A c m.guards ∧ SlAt pShp F w A' c' m.out := by
  obtain ⟨A, c, A', c', h1, h2, h3, h4⟩ := h
  exact ⟨A, c, A', c', Array.toList_inj.1 (by simpa [Value.cells] using h1), h2, h3, h4⟩
end Go.Proofs.Ytldccpmnboebmaa
