/-
  Steps of a ledger: moves, loads, appends, stores; for seats without layer 16's texts (Ve, Vl, Lh). No program is named here.
-/
import Derived.Test.YtlipmagkplbkdaaDoorLg
import Derived.Test.YtlipmagkplbkdaaDoorOwn
import Derived.Deep.MidRow
import Derived.Deep.DeepCutAuto
namespace Go.Proofs.YtlipmagkplbkdaaDoor
open Go.RowKit
set_option linter.unusedVariables false

section
variable {P : Program}
/-- a struct's or an array's store to a known block -/
theorem wp_storeG {o : Oper} {a : Act} {K : Act → World → Prop} {Q : Exit → Act → World → Prop} {w : World} {g : Nat} {t : TypeId} (ty : TypeId) (p x : Operand) (old cells : Array Value) (ho : o.op = .store ty p x) (hp : a.eval p = .pointer (some ⟨g, 0, none⟩)) (hx : a.eval x = .agg cells)
    (hg : Blk w g t old) (hi : (P.info? ty).map (·.size) = some cells.size) (hs : old.size = cells.size) (h1 : cells.all (·.oneCell') = true) (hd : o.dst = none) (h : K a (w.setRow g cells)) : o.wp P a w K Q := by
  have hr := run_storeVar_row (P := P) w g t ty old cells hg hi hs h1
  unfold Oper.wp
  obtain ⟨dst, op, tt, ps, af, gd⟩ := o
  simp only at ho hd
  subst ho hd
  simp [execOp, Instr.storeAt, Instr.sureAddr, hp, hx, hr, Oper.upon]
  exact h
theorem wpList_storeG {ops : Array Oper} {rest : List Oper} {o : Oper} {a : Act} {Q : Exit → Act → World → Prop} {w : World} {g : Nat} {t : TypeId} (ty : TypeId) (p x : Operand) (old cells : Array Value) (hgd : o.guard = none) (ho : o.op = .store ty p x) (hp : a.eval p = .pointer (some ⟨g, 0, none⟩)) (hx : a.eval x = .agg cells)
    (hg : Blk w g t old) (hi : (P.info? ty).map (·.size) = some cells.size) (hs : old.size = cells.size) (h1 : cells.all (·.oneCell') = true) (hd : o.dst = none) (h : wpList P ops Q rest a (w.setRow g cells)) : wpList P ops Q (o :: rest) a w := by
  unfold wpList
  rw [if_pos (by simp [Region.wanted, hgd])]
  exact .inl (wp_storeG ty p x old cells ho hp hx hg hi hs h1 hd h)
end
theorem blk_row {w : World} {g : Nat} {t : TypeId} {old cs : Array Value} (h : Blk w g t old) : Blk (w.setRow g cs) g t cs := setRow_heap w g old cs t (0, 0) h
theorem row_below {B g : Nat} {w0 w : World} (h : RowKit.Below B w0 w) (hg : B ≤ g) (cs : Array Value) : RowKit.Below B w0 (w.setRow g cs) :=
  ⟨h.os, h.tape, h.output, by simpa using h.size, fun k hk => (setRow_other w g k cs (by omega)).trans (h.block k hk)⟩

section
variable {P : Program}
theorem wp_storeAtG {o : Oper} {a : Act} {K : Act → World → Prop} {Q : Exit → Act → World → Prop} {w : World} {g : Nat} {t : TypeId} (ty : TypeId) (p x : Operand) (off : Nat) (old cells row : Array Value) (ho : o.op = .store ty p x) (hp : a.eval p = .pointer (some ⟨g, off, none⟩)) (hx : a.eval x = .agg cells)
    (hg : Blk w g t old) (hi : (P.info? ty).map (·.size) = some cells.size) (hs : off + cells.size ≤ old.size) (h1 : cells.all (·.oneCell') = true) (hrow : (old.toList.take off ++ cells.toList ++ old.toList.drop (off + cells.size)).toArray = row) (hd : o.dst = none) (h : K a (w.setRow g row)) : o.wp P a w K Q := by
  have hr : (storeVar ty ⟨g, off, none⟩ (.agg cells)).run P w = .ok () (w.setRow g row) := by
    have := run_storeCells_at P g off t cells.toList 0 old w hg (by simpa using hs) (fun v hv => (Array.all_eq_true_iff_forall_mem.1 h1) v (by simpa using hv))
    rw [← hrow]
    cases hq : P.info? ty with
    | none => simp [hq] at hi
    | some i =>
      have hs : cells.size = i.size := by simp [hq] at hi; omega
      simp only [Nat.add_zero, Array.length_toList] at this
      simp [storeVar, sizeOf, typeInfo, hq, Value.cells, ← hs, this]
  unfold Oper.wp
  obtain ⟨dst, op, tt, ps, af, gd⟩ := o
  simp only at ho hd
  subst ho hd
  simp [execOp, Instr.storeAt, Instr.sureAddr, hp, hx, hr, Oper.upon]
  exact h
end
section
variable {P : Program} {l : List Oper} {c : List (Option Nat)} {D : List (List Nat)} {tm : Array Value} {df : List Deferred} {w0 : World} {Q : Exit → Act → World → Prop}
variable {Φ : Nat → (Nat → Prop) → (Nat → Value) → World → Prop} {i : Nat} {o : Oper} {a : Act} {w : World} {X : Nat → Nat → Prop}
theorem run_moveL (ev : Operand → Value) (x : Operand) (v : Value) (ho : o.op = .move x ∨ o.op = .assign x) (hx : ev x = v) : (execOp ev o).run P w = .ok (.value v) w := by
  rcases ho with ho | ho <;> unfold execOp <;> simp only [ho, hx, Sem.run_pure]
theorem run_loadL (ev : Operand → Value) (ty : TypeId) (x : Operand) (ho : o.op = .load ty x) (b off : Nat) (hx : ev x = .pointer (some ⟨b, off, none⟩)) (cs : List Value) (d : TypeDesc) (hc : w.rangeAt b off cs)
    (hu : P.underlying ty = some d) (hd : d.isRow = true) (hi : (P.info? ty).map (·.size) = some cs.length) : (execOp ev o).run P w = .ok (.value (.agg cs.toArray)) w := by
  unfold execOp
  simp only [ho, hx, Sem.run_bind, run_loadAt_mid w b off ty cs d hc hu hd hi, Result.andThen_ok, Sem.run_pure]
theorem range_blk {g : Nat} {t : TypeId} {cs : Array Value} (h : Blk w g t cs) (off : Nat) (r : List Value) (hr : ∀ j v, r[j]? = some v → cs[off + j]? = some v) : w.rangeAt g off r := fun j v hj => by rw [h.cell]; exact hr j v hj
theorem led_cat {α : Type} {E : Rp α} {G : Nat → Prop} {v : Value} {xs : List α} (h : AtL Φ l c D tm df w0 i a w X) (j : Nat) (hj : c.getD j none = some i) (t e : TypeId) (z : Value) (bytes : Nat) (s x : Operand)
    (ho : o.op = .call { callee := .builtin .append, args := #[s, x], argTypes := #[t, t] }) (ht : P.underlying t = some (.slice e)) (hinfo : (P.info? e).map (fun i => (i.zero, i.size, i.bytes)) = some (some z, E.n, bytes)) (hzs : z.cells.size = E.n) (hsz : 0 < E.n)
    (hs : a.eval s = v) (hown : Own E e w0.heap.size G w v xs) (hX : ∀ b, v.ownBlock = some b → X j b) (A : Option Addr) (k : Nat) (ys : List α) (hx : a.eval x = .slice A ys.length k) (F : Nat → Prop) (hsl : SlAt E F w A k ys)
    (hF : ∀ k, F k → G k ∧ k < w.heap.size ∧ some k ≠ v.ownBlock) (n : Nat) (hn : (xs ++ ys).length = n) (hlen : Room n) (hb : bytes ≤ 131072) (hd : o.dst ≠ none) (Y : Nat → Prop) (hY : ∀ b, Y b → ∃ j, c.getD j none = some i ∧ X j b)
    (hf : ∀ A' k' w', Own E e w0.heap.size G w' (.slice A' n k') (xs ++ ys) → Grew w0.heap.size w w' v (.slice A' n k') → ∀ s : Nat → Value, s i = .slice A' n k' → (∀ k, k ∈ D.getD i [] → s k = slotL l a.tmps k) → Φ i (fun b => (Value.slice A' n k').ownBlock = some b ∨ Y b) s w') :
    Oper.wp P o a w (fun a' w' => ∃ v Y, LeftL Φ l w0 c D i o a w X a' w' v Y) Q := by
  refine wp_catG t e z bytes s x ho ht hinfo hzs hsz hs hown A k ys hx F hsl hF n hn hlen hb h.bel.size fun A' k' w' h1 h2 => ?_
  refine ⟨_, _, rfl, hf A' k' w' h1.out h2.out, fun e => (hd e).elim, h.bel.trans h2.out.bel, h2.out.bel.size, fun b hb => ?_, fun b hb hn => h2.out.oth b hb fun e => hn j hj (hX b e.symm)⟩
  rcases hb with hb | hb
  · have hlt := (h1.out.lt b hb).2
    rcases h2.out.blk with e2 | ⟨q, e2, hq⟩
    · exact .inl ⟨j, hj, hX b (by rw [← e2]; exact hb)⟩
    · rw [e2] at hb
      injection hb with hb
      subst hb
      exact .inr ⟨hq, hlt⟩
  · exact .inl (hY b hb)
theorem led_store {g : Nat} {t : TypeId} (h : AtL Φ l c D tm df w0 i a w X) (j : Nat) (hj : c.getD j none = some i) (ty : TypeId) (p x : Operand) (off : Nat) (old cells row : Array Value) (ho : o.op = .store ty p x) (hp : a.eval p = .pointer (some ⟨g, off, none⟩)) (hx : a.eval x = .agg cells)
    (hg : Blk w g t old) (hX : X j g) (hi : (P.info? ty).map (·.size) = some cells.size) (hs : off + cells.size ≤ old.size) (h1 : cells.all (·.oneCell') = true) (hrow : (old.toList.take off ++ cells.toList ++ old.toList.drop (off + cells.size)).toArray = row) (hd : o.dst = none)
    (hf : ∀ s : Nat → Value, (∀ k, k ∈ D.getD i [] → s k = slotL l a.tmps k) → Blk (w.setRow g row) g t row → Φ i (X j) s (w.setRow g row)) (hjD : j ∈ D.getD i []) :
    Oper.wp P o a w (fun a' w' => ∃ v Y, LeftL Φ l w0 c D i o a w X a' w' v Y) Q := by
  refine wp_storeAtG ty p x off old cells row ho hp hx hg hi hs h1 hrow hd ?_
  have hge : w0.heap.size ≤ g := (h.own j g hjD (.inr hj) hX).1
  refine ⟨undef, X j, by rw [hd]; rfl, fun s _ hk => hf s hk (blk_row hg), fun _ => rfl, row_below h.bel hge row, by simp, fun b hb => .inl ⟨j, hj, hb⟩, fun b hb hn => setRow_other w g b row fun e => hn j hj (by rw [e]; exact hX)⟩
/-- what an own slice keeps -/
theorem own_keepL {α : Type} {E : Rp α} {e : TypeId} {w' : World} {G : Nat → Prop} {v : Value} {xs : List α} {Y : Nat → Prop} (h : Own E e w0.heap.size G w v xs) (hY : ∀ b, v.ownBlock = some b → Y b) (hs : w.heap.size ≤ w'.heap.size) (hG : ∀ b, G b → w'.heap[b]? = w.heap[b]?) (hk : ∀ b, Y b → w'.heap[b]? = w.heap[b]?) : Own E e w0.heap.size G w' v xs :=
  h.keepG (fun k _ hh => hh.elim (hG k) fun e => hk k (hY k e)) hs
end
end Go.Proofs.YtlipmagkplbkdaaDoor
