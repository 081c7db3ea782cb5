/-
  Layer 7: the walk of the reference's Fine.
-/
import Derived.Test.YtckffdaomjbglaaFc
import Derived.Test.YtckffdaomjbglaaWd
namespace Go.Proofs.Ytckffdaomjbglaa
open Go.RowKit Go.Sort

theorem coreR_cases (r : Rul) : (coreR r = false ∧ ((letterB r.name = false) ∨ (letterB r.name = true ∧ (r.name == 91) = true) ∨ (letterB r.name = true ∧ (r.name == 91) = false ∧ (r.name == 93) = true) ∨
      (letterB r.name = true ∧ (r.name == 91) = false ∧ (r.name == 93) = false ∧ r.arity < 0) ∨ (letterB r.name = true ∧ (r.name == 91) = false ∧ (r.name == 93) = false ∧ ¬ r.arity < 0 ∧ 4 < r.arity))) ∨
    (letterB r.name = true ∧ (r.name == 91) = false ∧ (r.name == 93) = false ∧ ¬ r.arity < 0 ∧ ¬ 4 < r.arity ∧
      coreR r = (r.guards.all (fun f => formF f r.arity.toNat) && (r.out.all (fun s => s.args.all (fun f => formF f r.arity.toNat)) && checkF (r.out.map fun s => ⟨s.name, List.replicate s.args.length 0⟩) == 0))) := by
  cases hl : letterB r.name
  · left; exact ⟨by unfold coreR; simp [hl], .inl rfl⟩
  by_cases h3 : r.name = 91
  · left; exact ⟨by unfold coreR; simp [h3], .inr (.inl ⟨rfl, by simp [h3]⟩)⟩
  by_cases h4 : r.name = 93
  · left; exact ⟨by unfold coreR; simp [h4], .inr (.inr (.inl ⟨rfl, by simp [h3], by simp [h4]⟩))⟩
  by_cases h1 : r.arity < 0
  · left; exact ⟨by unfold coreR; simp; omega, .inr (.inr (.inr (.inl ⟨rfl, by simp [h3], by simp [h4], h1⟩)))⟩
  by_cases h2 : 4 < r.arity
  · left; exact ⟨by unfold coreR; simp; omega, .inr (.inr (.inr (.inr ⟨rfl, by simp [h3], by simp [h4], h1, h2⟩)))⟩
  right
  refine ⟨rfl, by simp [h3], by simp [h4], h1, h2, ?_⟩
  unfold coreR
  simp only [hl, show (r.name != 91) = true by simp [h3], show (r.name != 93) = true by simp [h4], show decide (0 ≤ r.arity) = true by simp; omega, show decide (r.arity ≤ 4) = true by simp; omega, Bool.true_and, Bool.and_true, Bool.and_assoc]
theorem checkF_bad {ms : List Mod} {m : Mod} (hm : m ∈ ms) (hf : fineF m = false) (hl : ms.length ≤ 2000) : checkF ms = 8 := by
  unfold checkF
  rw [if_neg (by omega), if_pos]
  rw [List.all_eq_false]
  exact ⟨m, hm, by simp [hf]⟩

/-- what 'm := Module(name, make(..))' leaves: the box of the shape, the zeros and the box of the module, in either order -/
structure MadeM (wp W : World) (nm : Int) (n : Nat) (sh : Array Value) (gz gm : Nat) : Prop where
  bel : Below wp.heap.size wp W
  sz : wp.heap.size + 3 ≤ W.heap.size
  bs : Blk W wp.heap.size 62 sh
  bm : Blk W gm 44 #[.int .u8 nm, .slice (some ⟨gz, 0, none⟩) n n]
  zs : SlAt (pI .i64) (fun q => q = gz) W (some ⟨gz, 0, none⟩) n (List.replicate n 0)
  gt : wp.heap.size < gz ∧ gz < W.heap.size ∧ wp.heap.size < gm ∧ gm < W.heap.size
theorem madeM1 (wp : World) (nm : Int) (n : Nat) (hn : n ≤ 1000) (sh Z : Array Value) (hZ : madeCells #[Value.int .i64 0] n = Z) :
    MadeM wp (((wp.alloc (.cells sh 62)).alloc (.cells Z 3)).alloc (.cells #[.int .u8 nm, .slice (some ⟨wp.heap.size + 1, 0, none⟩) n n] 44)).drew nm n sh (wp.heap.size + 1) (wp.heap.size + 1 + 1) := by
  subst hZ
  have h1 := Blk.new (wp.alloc (.cells sh 62)) 3 (madeCells #[Value.int .i64 0] n)
  have h2 := Blk.new ((wp.alloc (.cells sh 62)).alloc (.cells (madeCells #[Value.int .i64 0] n) 3)) 44 #[.int .u8 nm, .slice (some ⟨wp.heap.size + 1, 0, none⟩) n n]
  rw [show (wp.alloc (.cells sh 62)).heap.size = wp.heap.size + 1 from by simp] at h1
  rw [show ((wp.alloc (.cells sh 62)).alloc (.cells (madeCells #[Value.int .i64 0] n) 3)).heap.size = wp.heap.size + 1 + 1 from by simp] at h2
  exact ⟨below_drew ((((Below.refl _ _).alloc (Nat.le_refl _) _).alloc (by simp) _).alloc (by simp; omega) _), by simp, ((Blk.new _ _ _).alloc _).alloc _, h2, (zeros_sl (F := fun q => q = wp.heap.size + 1) (h1.alloc _) rfl (by unfold maxLen; omega)).keep fun _ _ => rfl, by simp; omega⟩
theorem madeM2 (wp : World) (nm : Int) (n : Nat) (hn : n ≤ 1000) (sh Z : Array Value) (hZ : madeCells #[Value.int .i64 0] n = Z) :
    MadeM wp (((wp.alloc (.cells sh 62)).alloc (.cells #[.int .u8 nm, .slice (some ⟨wp.heap.size + 1 + 1, 0, none⟩) n n] 44)).alloc (.cells Z 3)).drew nm n sh (wp.heap.size + 1 + 1) (wp.heap.size + 1) := by
  subst hZ
  have h1 := Blk.new (wp.alloc (.cells sh 62)) 44 #[.int .u8 nm, .slice (some ⟨wp.heap.size + 1 + 1, 0, none⟩) n n]
  have h2 := Blk.new ((wp.alloc (.cells sh 62)).alloc (.cells #[.int .u8 nm, .slice (some ⟨wp.heap.size + 1 + 1, 0, none⟩) n n] 44)) 3 (madeCells #[Value.int .i64 0] n)
  rw [show (wp.alloc (.cells sh 62)).heap.size = wp.heap.size + 1 from by simp] at h1
  rw [show ((wp.alloc (.cells sh 62)).alloc (.cells #[.int .u8 nm, .slice (some ⟨wp.heap.size + 1 + 1, 0, none⟩) n n] 44)).heap.size = wp.heap.size + 1 + 1 from by simp] at h2
  exact ⟨below_drew ((((Below.refl _ _).alloc (Nat.le_refl _) _).alloc (by simp) _).alloc (by simp; omega) _), by simp, ((Blk.new _ _ _).alloc _).alloc _, h1.alloc _, (zeros_sl (F := fun q => q = wp.heap.size + 1 + 1) h2 rfl (by unfold maxLen; omega)).keep fun _ _ => rfl, by simp; omega⟩

end Go.Proofs.Ytckffdaomjbglaa
