/-
  Several texts in one.
-/
import Derived.Test.YtlipmagkplbkdaaDoorZ14
import Derived.Test.YtlipmagkplbkdaaDoorZ13
import Derived.Test.YtlipmagkplbkdaaDoorZ8
import Derived.Test.YtlipmagkplbkdaaDoorZ12
import Derived.Test.YtlipmagkplbkdaaDoorZ7
import Derived.Test.YtlipmagkplbkdaaDoorZ11
/-! N4 -/
namespace Go.Proofs.YtlipmagkplbkdaaDoor
open Go Go.Conc Go.RowKit
set_option linter.unusedVariables false
set_option linter.unusedSimpArgs false
section
variable {F : Value → Prop} {cs : List Frame}
structure AlS (W2 L O T C : Option Addr) (wl ll ol tl cl n : Nat) (a : Act) : Prop where
  sz : a.tmps.size = 109
  df : a.defers = []
  s0 : slot a 0 (.bool false)
  s1 : slot a 1 (.slice W2 4 wl)
  s2 : slot a 2 (.slice L 4 ll)
  s3 : slot a 3 (.int .i64 0)
  s4 : slot a 4 (.slice O 2 ol)
  s5 : slot a 5 (.int .i64 0)
  s6 : slot a 6 (.slice T 2 tl)
  s7 : slot a 7 (.slice C n cl)
  s8 : slot a 8 (.int .i64 0)
end
end Go.Proofs.YtlipmagkplbkdaaDoor

/-! N5 -/
namespace Go.Proofs.YtlipmagkplbkdaaDoor
open Go Go.Conc Go.RowKit
set_option linter.unusedVariables false
set_option linter.unusedSimpArgs false
section
variable {F : Value → Prop} {cs : List Frame}
end
end Go.Proofs.YtlipmagkplbkdaaDoor

/-! N8 -/
namespace Go.Proofs.YtlipmagkplbkdaaDoor
open Go Go.Conc Go.RowKit
set_option linter.unusedVariables false
set_option linter.unusedSimpArgs false
noncomputable def stB : Code := match Tryd.f26.body with | some c => c | none => .skip
theorem stBody : Tryd.f26.body = some stB := by kernel_rfl
noncomputable def stR0 : Code := match stB with | .seq a _ => a | _ => .skip
noncomputable def stC1 : Code := match stB with | .seq _ (.seq a _) => a | _ => .skip
noncomputable def stC4 : Code := match stB with | .seq _ (.seq _ (.seq a _)) => a | _ => .skip
noncomputable def stO7 : Array Oper := match stB with | .seq _ (.seq _ (.seq _ (.seq (.region _ o _) _))) => o | _ => #[]
theorem stB_eq : stB = .seq stR0 (.seq stC1 (.seq stC4 (.seq (.region 7 stO7 false) .ret))) := by kernel_rfl
theorem stz7 : List.range stO7.size = [0, 1, 2, 3, 4, 5, 6, 7] := by kernel_rfl
theorem stTm (RA LA : Option Addr) (rc lc m1 m2 : Nat) (s : Int) : (#[.slice RA m1 rc, .int .i64 s, .slice LA m2 lc] ++ Array.replicate (Tryd.f26.ntmps - (#[.slice RA m1 rc, .int .i64 s, .slice LA m2 lc] : Array Value).size) undef : Array Value) = #[.slice RA m1 rc, .int .i64 s, .slice LA m2 lc, undef, undef, undef, undef, undef, undef, undef, undef, undef, undef, undef, undef, undef, undef, undef, undef, undef, undef, undef, undef, undef, undef, undef] := by kernel_rfl
theorem sokR0 : okC Tryd.prog gR sR stR0 = true := by kernel_rfl
theorem sokC1 : okC Tryd.prog gR sR stC1 = true := by kernel_rfl
theorem sokC4 : okC Tryd.prog gR sR stC4 = true := by kernel_rfl
def bT9 : Frame := { (default : Frame) with fn := 26, kind := .normal }
theorem bT9_fn : ∃ fn, Tryd.prog.funcs[bT9.fn]? = some fn := ⟨Tryd.f26, Tryd.func26⟩
section
variable {F : Value → Prop} {cs : List Frame}
def LstK (F : Value → Prop) (cs : List Frame) (v0 : World) (r : List Cel × Int) : Prop := ∀ ch a' v' todo A c, a'.defers = [] → slot a' 6 (.slice A r.1.length c) → slot a' 7 (.int .i64 r.2) → SlAt pCel (Old v') v' A c r.1 → Kp v0 v' → MS Tryd.prog SR gR sR F [] ch { bT9.at a' todo with mode := .returning } cs v'
theorem LstK.err {v0 : World} {r : List Cel × Int} {x : Int} (h : LstK F cs v0 r) (hr : r = ([], x)) {ch : Option Nat} {a' : Act} {v' : World} {todo : List Item} (hd : a'.defers = []) (h6 : slot a' 6 (.slice none 0 0)) (h7 : slot a' 7 (.int .i64 x)) (k : Kp v0 v') : MS Tryd.prog SR gR sR F [] ch { bT9.at a' todo with mode := .returning } cs v' := by
  subst hr
  exact h ch a' v' todo none 0 hd h6 h7 slat_nil k
end
end Go.Proofs.YtlipmagkplbkdaaDoor

/-! N9 -/
namespace Go.Proofs.YtlipmagkplbkdaaDoor
open Go Go.Conc Go.RowKit
set_option linter.unusedVariables false
set_option linter.unusedSimpArgs false
section
variable {P : Program} {o : Oper} {w : World}
end
section
variable {P : Program} {S : FuncId → Prop} {G Sb : Nat → Bool} {X : Sit} {b : Frame} {a : Act} {k : List Item} {cs : List Frame} {v v' : World}
theorem map_none (f : Operand → Value) : (#[] : Array Operand).map f = #[] := by simp
end
end Go.Proofs.YtlipmagkplbkdaaDoor
