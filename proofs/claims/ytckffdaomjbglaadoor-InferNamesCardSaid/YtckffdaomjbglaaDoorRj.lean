/-
  The append of one element, within a fence (XOwn's wpList_pushG, turned).
-/
import Derived.Test.YtckffdaomjbglaaDoorRi
namespace Go.Proofs.YtckffdaomjbglaaDoor
open Go.RowKit
variable {P : Program} {α : Type} {E : Rp α}

theorem wpListIn_pushG {fe : Fence} {nf : Nat} {ops : Array Oper} {rest : List Oper} {o1 o2 : Oper} {a : Act} {Q : Exit → Act → World → Prop} {w : World} {base : Nat} {G : Nat → Prop} {v : Value} {xs : List α} (t e : TypeId) (z : Value) (bytes : Nat) (tmp : Nat) (s xo : Operand)
    (hg1 : o1.guard = none) (hg2 : o2.guard = none) (hd1 : o1.dst = some tmp) (ho1 : o1.op = .buildSlice t 1 #[(0, xo)])
    (ho2 : o2.op = .call { callee := .builtin .append, args := #[s, .tmp tmp], argTypes := #[t, t] })
    (ht : P.underlying t = some (.slice e)) (hinfo : (P.info? e).map (fun i => (i.zero, i.size, i.bytes)) = some (some z, E.n, bytes)) (hzs : z.cells.size = E.n) (hsz : 0 < E.n)
    (hs : ∀ u, (a.put (some tmp) u).eval s = v) (ht2 : ∀ u, (a.put (some tmp) u).eval (.tmp tmp) = u) (hown : Own E e base G w v xs)
    (u : Value) (hu : a.eval xo = u) (x : α) (F : Nat → Prop) (hR : E.R F w u.cells.toList x)
    (hF : ∀ k, F k → G k ∧ k < w.heap.size ∧ some k ≠ v.ownBlock) (n : Nat) (hn : xs.length + 1 = n) (hlen : Room xs.length) (hb : bytes ≤ 131072 ∧ E.n ≤ 16777216) (hbase : base ≤ w.heap.size)
    (h : ∀ A' c' w', Hid (Own E e base G w' (.slice A' n c') (xs ++ [x])) → Hid (Grew base w w' v (.slice A' n c')) →
      wpListIn fe nf P ops Q rest ((a.put (some tmp) (.slice (some ⟨w.heap.size, 0, none⟩) 1 1)).put o2.dst (.slice A' n c')) w') : wpListIn fe nf P ops Q (o1 :: o2 :: rest) a w := by
  subst hn
  have hcl := E.len hR
  have hrun := run_buildSlice1 (P := P) (t := t) (e := e) (z := z) (size := E.n) (bytes := bytes) ht hinfo hzs hsz hb.2 u (by simpa using hcl) w
  obtain ⟨i, hi, hz, h1, h2⟩ := info_parts hinfo
  refine wpListIn_plain hg1 fun K hK => ?_
  unfold Oper.wpIn
  refine ⟨by simp [Oper.about, ho1], ?_⟩
  rw [Oper.semAt_plain fe _ _ (by rw [ho1]; intro c hc'; cases hc')]
  rw [show execOp a.eval o1 = do return .value (← Instr.buildSlice t 1 #[(0, u)]) from by simp [execOp, ho1, hu]]
  simp only [Sem.run_bind, hrun, Result.andThen_ok, Sem.run_pure, Oper.uponIn_value, hd1]
  refine hK _ _ ?_
  have hkp : ∀ k, k < w.heap.size → (w.alloc (.cells u.cells e)).heap[k]? = w.heap[k]? := fun k hk => Below.heap_alloc _ _ _ hk
  have h5 : CellsAre E F (w.alloc (.cells u.cells e)) u.cells.toList [x] := CellsAre.one (E.keep hR fun k hk => hkp k (hF k hk).2.1)
  have hF' : ∀ k, F k → G k ∧ k < (w.alloc (.cells u.cells e)).heap.size ∧ some k ≠ v.ownBlock := fun k hk => ⟨(hF k hk).1, by simp; have := (hF k hk).2.1; omega, (hF k hk).2.2⟩
  have hown' := hown.alloc (.cells u.cells e)
  obtain ⟨cells, h3, h4⟩ := hown.alloc (.cells u.cells e)
  have hby : (xs.length + 1) * bytes ≤ 140737488355328 := by
    have : (xs.length + 1) * bytes ≤ 1073741824 * 131072 := Nat.mul_le_mul (by unfold Room at hlen; omega) hb.1
    omega
  refine wpListIn_append_own_at _ hg2 s (.tmp tmp) t ho2 base e i z E.n bytes ht hi hz h1 h2 hzs hsz v xs.length cells (hs _) h3 ⟨w.heap.size, 0, none⟩ 1 1 u.cells.toList (ht2 _) (by simpa using hcl) (fun j c hc => ?_) h5.oneCell (by unfold Room at hlen; unfold maxLen; omega) hby (by simp; omega) (fun v' w' k1 k2 _ k4 => ?_)
  · rw [add_lit', Nat.zero_add, (Blk.new w e u.cells).cell]; simpa using hc
  · have hO := own_append h4 h5 hF' k1 k2 k4
    have hform : ∃ A' c', v' = .slice A' (xs.length + 1) c' := by
      obtain ⟨cells', ⟨hl, hv⟩, hc⟩ := hO
      rcases hv with ⟨_, h0⟩ | ⟨g, cap, cur, hv, _⟩
      · simp at h0
      · rw [List.length_append] at hv; exact ⟨_, _, hv⟩
    obtain ⟨A', c', rfl⟩ := hform
    refine h A' c' w' hO ⟨?_, fun k hk hne => (k2.block k (by simp; omega) hne).trans (hkp k hk), k4.imp id fun he => ⟨_, he, by simp⟩⟩
    exact below_app ((Below.refl base w).alloc hbase _) k2 hown' (Nat.le_refl _) (by simp; omega)
end Go.Proofs.YtckffdaomjbglaaDoor
