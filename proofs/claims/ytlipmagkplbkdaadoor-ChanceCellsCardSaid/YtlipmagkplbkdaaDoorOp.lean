/-
  From a row's reading of its arguments to how they lie in cells: modules, forms, shapes, rules.
-/
import Derived.Test.YtlipmagkplbkdaaDoorRep
import Derived.Test.YtlipmagkplbkdaaDoorProg
import Derived.Test.YtlipmagkplbkdaaDoorOi
namespace Go.Proofs.YtlipmagkplbkdaaDoor
open Go.RowKit

theorem opens_mod' : Opens Tryd.prog 49 pMod :=
  opens_mod Tryd.underlying49 (by kernel_rfl) ⟨rfl, by kernel_rfl⟩ ⟨rfl, by kernel_rfl⟩ (opens_int Tryd.underlying5) opens_ints
theorem opens_word : Opens Tryd.prog 23 (pSl pMod) := opens_slice Tryd.underlying23 (by kernel_rfl) (by decide) opens_mod'
theorem opens_frm' : Opens Tryd.prog 70 pFrm :=
  opens_frm Tryd.underlying70 (by kernel_rfl) ⟨rfl, by kernel_rfl⟩ ⟨rfl, by kernel_rfl⟩ (opens_int Tryd.underlying3) opens_ints
theorem opens_frms : Opens Tryd.prog 57 (pSl pFrm) := opens_slice Tryd.underlying57 (by kernel_rfl) (by decide) opens_frm'
theorem opens_shp' : Opens Tryd.prog 72 pShp :=
  opens_shp Tryd.underlying72 (by kernel_rfl) ⟨rfl, by kernel_rfl⟩ ⟨rfl, by kernel_rfl⟩ (opens_int Tryd.underlying5) opens_frms
theorem opens_shps : Opens Tryd.prog 58 (pSl pShp) := opens_slice Tryd.underlying58 (by kernel_rfl) (by decide) opens_shp'
theorem opens_rul' : Opens Tryd.prog 60 pRul :=
  opens_rul Tryd.underlying60 (by kernel_rfl) (by kernel_rfl) (opens_int Tryd.underlying5) (opens_int Tryd.underlying3) (opens_int Tryd.underlying5) (opens_int Tryd.underlying5) opens_frms (opens_int Tryd.underlying3) opens_shps
theorem opens_rules : Opens Tryd.prog 22 (pSl pRul) := opens_slice Tryd.underlying22 (by kernel_rfl) (by decide) opens_rul'

/-- an argument that is a module -/
theorem arg_mod {F : Nat → Prop} {w : World} {cs : Array Value} {m : Mod} (h : pMod.R F w (Value.agg cs).cells.toList m) : ∃ A c, cs = #[.int .u8 m.name, .slice A m.args.length c] ∧ Fits .u8 m.name ∧ SlAt (pI .i64) F w A c m.args := by
  obtain ⟨A, c, h1, h2, h3⟩ := h
  exact ⟨A, c, Array.toList_inj.1 (by simpa [Value.cells] using h1), h2, h3⟩
theorem arg_frm {F : Nat → Prop} {w : World} {cs : Array Value} {m : Frm} (h : pFrm.R F w (Value.agg cs).cells.toList m) : ∃ A c, cs = #[.int .i64 m.const, .slice A m.coefs.length c] ∧ Fits .i64 m.const ∧ SlAt (pI .i64) F w A c m.coefs := by
  obtain ⟨A, c, h1, h2, h3⟩ := h
  exact ⟨A, c, Array.toList_inj.1 (by simpa [Value.cells] using h1), h2, h3⟩
theorem arg_rul {F : Nat → Prop} {w : World} {cs : Array Value} {m : Rul} (h : pRul.R F w (Value.agg cs).cells.toList m) : ∃ A c A' c', cs = #[.int .u8 m.name, .int .i64 m.arity, .int .u8 m.left, .int .u8 m.right, .slice A m.guards.length c, .int .i64 m.weight, .slice A' m.out.length c'] ∧
    (Fits .u8 m.name ∧ Fits .i64 m.arity ∧ Fits .u8 m.left ∧ Fits .u8 m.right ∧ Fits .i64 m.weight) ∧ SlAt pFrm F w A c m.guards ∧ SlAt pShp F w A' c' m.out := by
  obtain ⟨A, c, A', c', h1, h2, h3, h4⟩ := h
  exact ⟨A, c, A', c', Array.toList_inj.1 (by simpa [Value.cells] using h1), h2, h3, h4⟩
end Go.Proofs.YtlipmagkplbkdaaDoor
