/-
  Layer 6: the walk of the reference's Text.
-/
import Derived.Test.YtfakcccfadeknaaDoorPp
import Derived.Laws.BytesString
namespace Go.Proofs.YtfakcccfadeknaaDoor
open Go.RowKit Go.Sort
set_option linter.unusedVariables false

theorem byte_app {ops : Array Oper} {rest : List Oper} {o : Oper} {a : Act} {Q : Exit → Act → World → Prop} {w w0 : World} {B n : Nat} {Ao : Option Addr} {co : Nat} {l : List UInt8} {cc : Int} {b : UInt8} (hcb : cc = (b.toNat : Int)) (hgd : o.guard = none) (s x : Operand)
    (ho : o.op = .call { callee := .builtin .append, args := #[s, x], argTypes := #[40, 40] }) (hs : a.eval s = .slice Ao n co) (hx : a.eval x = .slice (some ⟨w.heap.size, 0, none⟩) 1 1)
    (hown : w.ownsRowF B 5 1 (.slice Ao n co) n (Lib.byteCells l)) (hl : l.length = n) (hn : n ≤ 200000) (hB : B ≤ w.heap.size) (hbel : Below w0.heap.size w0 w) (hw0 : w0.heap.size ≤ B)
    (h : ∀ A' cap w', Hid (w'.ownsRowF B 5 1 (.slice A' (n + 1) cap) (n + 1) (Lib.byteCells (l ++ [b]))) → Hid (Below w0.heap.size w0 w') → B ≤ w'.heap.size → wpList Tryd.prog ops Q rest (a.put o.dst (.slice A' (n + 1) cap)) w') :
    wpList Tryd.prog ops Q (o :: rest) a (w.alloc (.cells #[.int .u8 cc] 5)) := by
  obtain ⟨i0, hi, hz0, hz1, hz2⟩ := info_parts (show (Tryd.prog.info? 5).map (fun i => (i.zero, i.size, i.bytes)) = some (some (.int .u8 0), 1, 1) by kernel_rfl)
  refine wpList_append_ownF _ hgd _ _ 40 ho B 5 i0 (.int .u8 0) 1 1 Tryd.underlying40 hi hz0 hz1 hz2 rfl (by decide) _ _ _ hs (hown.alloc _) ⟨w.heap.size, 0, none⟩ 1 1 [.int .u8 cc] hx rfl ?c1 ?c2 ?c3 ?c4 ?c5 ?_
  case c1 =>
    intro j u hj
    match j, hj with
    | 0, hj => simp at hj; subst hj; simp [Addr.add]
  case c2 => intro u hu; simp at hu; subst hu; rfl
  case c3 => unfold maxLen; omega
  case c4 => omega
  case c5 => simp; omega
  intro v' w2 hown' hgrow _
  obtain ⟨A', cap, rfl⟩ : ∃ A' cap, v' = .slice A' (n + 1) cap := by
    rcases hown'.2 with ⟨_, h0⟩ | ⟨g, cap, cur, fz, hv, _⟩
    · omega
    · exact ⟨_, cap, hv⟩
  refine h A' cap w2 ?_ ((hbel.alloc hbel.size _).grown hgrow (by have := hbel.size; simp; omega) (fun k hk => Nat.le_trans hw0 (hown.lt k hk).1)) (by have := hgrow.size; simp at this; omega)
  rw [Lib.byteCells_append, show Lib.byteCells [b] = [Value.int .u8 cc] from by rw [hcb]; rfl]
  exact hown'
theorem str_app {ops : Array Oper} {rest : List Oper} {o : Oper} {a : Act} {Q : Exit → Act → World → Prop} {w w0 : World} {B n k : Nat} {Ao : Option Addr} {co : Nat} {l m : List UInt8} (hgd : o.guard = none) (s x : Operand)
    (ho : o.op = .call { callee := .builtin .append, args := #[s, x], argTypes := #[40, 9] }) (hs : a.eval s = .slice Ao n co) (hx : a.eval x = .string ⟨m.toArray⟩) (hm : m.length = k)
    (hown : w.ownsRowF B 5 1 (.slice Ao n co) n (Lib.byteCells l)) (hl : l.length = n) (hn : n + k ≤ 200000) (hB : B ≤ w.heap.size) (hbel : Below w0.heap.size w0 w) (hw0 : w0.heap.size ≤ B)
    (h : ∀ A' cap w', Hid (w'.ownsRowF B 5 1 (.slice A' (n + k) cap) (n + k) (Lib.byteCells (l ++ m))) → Hid (Below w0.heap.size w0 w') → B ≤ w'.heap.size → wpList Tryd.prog ops Q rest (a.put o.dst (.slice A' (n + k) cap)) w') :
    wpList Tryd.prog ops Q (o :: rest) a w := by
  obtain ⟨i0, hi, hz0, hz1, hz2⟩ := info_parts (show (Tryd.prog.info? 5).map (fun i => (i.zero, i.size, i.bytes)) = some (some (.int .u8 0), 1, 1) by kernel_rfl)
  have hz : (⟨m.toArray⟩ : ByteArray).size = k := by show m.toArray.size = k; simpa using hm
  refine Lib.wpList_append_own_stringF _ hgd _ _ 40 9 ho B 5 i0 Tryd.underlying40 Tryd.underlying9 hi hz0 hz1 hz2 _ _ _ hs hown ⟨m.toArray⟩ hx (by rw [hz]; unfold maxLen; omega) (by rw [hz]; omega) hB ?_
  rw [hz]
  intro v' w2 hown' hgrow _
  obtain ⟨A', cap, rfl⟩ : ∃ A' cap, v' = .slice A' (n + k) cap := by
    rcases hown'.2 with ⟨hv, h0⟩ | ⟨g, cap, cur, fz, hv, _⟩
    · rw [h0]; exact ⟨_, _, hv⟩
    · exact ⟨_, cap, hv⟩
  refine h A' cap w2 ?_ (hbel.grown hgrow hbel.size (fun k hk => Nat.le_trans hw0 (hown.lt k hk).1)) (Nat.le_trans hB hgrow.size)
  rw [Lib.byteCells_append, ← Lib.strCells_toArray]
  exact hown'
end Go.Proofs.YtfakcccfadeknaaDoor
