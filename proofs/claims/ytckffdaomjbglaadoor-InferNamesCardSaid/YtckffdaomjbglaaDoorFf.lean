/-
  Layer 7: the walks of the two Values.
-/
import Derived.Test.YtckffdaomjbglaaDoorM1
namespace Go.Proofs.YtckffdaomjbglaaDoor
open Go.RowKit Go.Sort

theorem check_F (args : List Int) : checkF [⟨70, args⟩] = 0 ↔ args.all argOk = true ∧ args.length ≤ 4 := by
  have h1 : fineF ⟨70, args⟩ = (args.all argOk && decide (args.length ≤ 4)) := by
    unfold fineF shapeOk
    rw [show letterB 70 = true from by decide]
    cases args with
    | nil => rfl
    | cons x l => simp
  unfold checkF
  rw [if_neg (by simp), List.all_cons, List.all_nil, Bool.and_true, h1]
  cases args.all argOk
  · simp
  · by_cases h : args.length ≤ 4
    · simp [h, scan]
    · simp [h]
theorem fine_F (args : List Int) : fineF ⟨70, args⟩ = true ↔ args.all argOk = true ∧ args.length ≤ 4 := by
  unfold fineF shapeOk
  rw [show letterB 70 = true from by decide]
  cases args with
  | nil => simp
  | cons x l => simp
/-- the check of one module, boxed at the heap's end -/
theorem modCheck {F : Nat → Prop} (W : World) (m : Mod) (h8 : Fits .u8 m.name) (A : Option Addr) (c : Nat) (h : SlAt (pI .i64) F W A c m.args) (hF : ∀ k, F k → k < W.heap.size) (n : Nat) (hn : W.heap.size = n) :
    Calls Tryd.prog 28 #[.slice (some ⟨n, 0, none⟩) 1 1] (W.alloc (.cells #[.int .u8 m.name, .slice A m.args.length c] 50)) (CheckPost [m] (W.alloc (.cells #[.int .u8 m.name, .slice A m.args.length c] 50))) := by
  subst hn
  refine wordCheck_calls (some ⟨W.heap.size, 0, none⟩) 1 [m] _ ?_
  refine (sl_boxed (E := pMod) (F := F) (u := .agg #[.int .u8 m.name, .slice A m.args.length c]) ⟨A, c, by simp [Value.cells], h8, h⟩ hF).wide ?_
  intro k hk
  rcases hk with hk | rfl
  · have := hF k hk; unfold Old; simp; omega
  · unfold Old; simp

theorem valueF_bad {f : Frm} {args : List Int} (h : formF f args.length = false ∨ ¬ (args.all argOk = true ∧ args.length ≤ 4)) : valueF f args = (0, 8) := by
  unfold valueF
  rw [if_neg]
  rintro ⟨h1, h2, h3⟩
  rcases h with h | h
  · rw [h] at h1; cases h1
  · exact h ⟨h2, h3⟩
theorem valueF_ok {f : Frm} {args : List Int} (h : SumOk f args) (hf : formF f args.length = true) : valueF f args = if worthF f args < -1000000000 ∨ 1000000000 < worthF f args then (0, 16) else (worthF f args, 0) := by
  unfold valueF
  rw [if_pos ⟨hf, List.all_eq_true.2 h.a, h.l⟩]

end Go.Proofs.YtckffdaomjbglaaDoor
