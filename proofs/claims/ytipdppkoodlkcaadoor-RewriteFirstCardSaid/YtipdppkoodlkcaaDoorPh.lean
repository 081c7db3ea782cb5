/-
  Layer 6: the examples: given, refused, alive; valid.
-/
import Derived.Test.YtipdppkoodlkcaaDoorPg
import Derived.Test.YtipdppkoodlkcaaDoorLi
namespace Go.Proofs.YtipdppkoodlkcaaDoor
open Go.RowKit Go.Sort
set_option linter.unusedVariables false

theorem mod_R {F : Nat → Prop} {w : World} {c : Int} {A : Option Addr} {k cap : Nat} {xs : List Int} (hc : Fits .u8 c) (h : SlAt (pI .i64) F w A cap xs) (hk : xs.length = k) : pMod.R F w [.int .u8 c, .slice A k cap] ⟨c, xs⟩ := by
  subst hk; exact ⟨A, cap, rfl, hc, h⟩
theorem mod0_R {F : Nat → Prop} {w : World} {c : Int} (hc : Fits .u8 c) : pMod.R F w [.int .u8 c, .slice none 0 0] ⟨c, []⟩ := mod_R hc sl_none rfl
def bareW (cs : List Int) : List Mod := cs.map fun c => ⟨c, []⟩
def bareC (cs : List Int) : List Value := cs.flatMap fun c => [.int .u8 c, .slice none 0 0]
theorem bare_cells {F : Nat → Prop} {w : World} : ∀ {cs : List Int}, (∀ c ∈ cs, Fits .u8 c) → CellsAre pMod F w (bareC cs) (bareW cs)
  | [], _ => rfl
  | c :: cs, h => ⟨[.int .u8 c, .slice none 0 0], bareC cs, rfl, mod0_R (h c (by simp)), bare_cells fun x hx => h x (by simp [hx])⟩
theorem fits_bytes {cs : List Int} (h : (cs.all fun c => decide (0 ≤ c) && decide (c ≤ 255)) = true) : ∀ c ∈ cs, Fits .u8 c := by
  intro c hc
  have := List.all_eq_true.1 h c hc
  simp only [Bool.and_eq_true, decide_eq_true_eq] at this
  exact fits_u8 (by omega)
theorem own_sl {w : World} {e : TypeId} {B : Nat} {A : Option Addr} {n c : Nat} {xs : List Mod} (h : Own pMod e B (B ≤ ·) w (.slice A n c) xs) : SlAt pMod (Old w) w A c xs := (h.sl'.2).wide fun q hq => hq.2
theorem ownF_sl {w : World} {e : TypeId} {B : Nat} {A : Option Addr} {n c : Nat} {xs : List Mod} (h : Own pModF e B (B ≤ ·) w (.slice A n c) xs) : SlAt pMod (Old w) w A c xs := slAt_modF ((h.sl'.2).wide fun q hq => hq.2)

end Go.Proofs.YtipdppkoodlkcaaDoor
