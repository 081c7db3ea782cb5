/-
  The append of a slice to a slice, within a fence (XOwn's wp_catG, step_catG, turned).
-/
import Derived.Test.YtckffdaomjbglaaDoorM1
import Derived.Maps.OwnIn
namespace Go.Proofs.YtckffdaomjbglaaDoor
open Go.RowKit
variable {P : Program} {α : Type} {E : Rp α}

theorem wpIn_catG {fe : Fence} {nf : Nat} {o : Oper} {a : Act} {K : Act → World → Prop} {Q : Exit → Act → World → Prop} {w : World} {base : Nat} {G : Nat → Prop} {v : Value} {xs : List α} (t e : TypeId) (z : Value) (bytes : Nat) (s x : Operand)
    (ho : o.op = .call { callee := .builtin .append, args := #[s, x], argTypes := #[t, t] })
    (ht : P.underlying t = some (.slice e)) (hinfo : (P.info? e).map (fun i => (i.zero, i.size, i.bytes)) = some (some z, E.n, bytes)) (hzs : z.cells.size = E.n) (hsz : 0 < E.n)
    (hs : a.eval s = v) (hown : Own E e base G w v xs) (A : Option Addr) (c : Nat) (ys : List α) (hx : a.eval x = .slice A ys.length c) (F : Nat → Prop) (hsl : SlAt E F w A c ys)
    (hF : ∀ k, F k → G k ∧ k < w.heap.size ∧ some k ≠ v.ownBlock) (n : Nat) (hn : (xs ++ ys).length = n) (hlen : Room n) (hb : bytes ≤ 131072) (hbase : base ≤ w.heap.size)
    (h : ∀ A' c' w', Hid (Own E e base G w' (.slice A' n c') (xs ++ ys)) → Hid (Grew base w w' v (.slice A' n c')) → K (a.put o.dst (.slice A' n c')) w') : o.wpIn fe nf P a w K Q := by
  obtain ⟨i, hi, hz, h1, h2⟩ := info_parts hinfo
  have hown' := hown
  obtain ⟨cells, h3, h4⟩ := hown
  cases A with
  | some ad =>
    obtain ⟨news, h5, h6⟩ := hsl.cells
    have hby : (xs.length + ys.length) * bytes ≤ 140737488355328 := by
      rw [← List.length_append, hn]
      have := Nat.mul_le_mul (Nat.le_of_lt hlen) hb
      omega
    have hml : xs.length + ys.length ≤ maxLen := by
      rw [← List.length_append, hn]; unfold Room at hlen; unfold maxLen; omega
    obtain ⟨v', w', hr, k1, k2, _, k4⟩ := run_append_own_at (P := P) w base t o.type e i z E.n bytes ht hi hz h1 h2 hzs hsz v xs.length cells h3 ad ys.length c news h5.length h6 h5.oneCell hml hby hbase
    have hO := own_append h4 h5 hF k1 k2 k4
    have hform : ∃ A' c', v' = .slice A' n c' := by
      obtain ⟨cells', ⟨hl, hv⟩, hc⟩ := hO
      rcases hv with ⟨hv, h0⟩ | ⟨g, cap, cur, hv, _⟩
      · rw [hn] at h0; subst h0; exact ⟨_, _, hv⟩
      · rw [hn] at hv; exact ⟨_, _, hv⟩
    obtain ⟨A', c', rfl⟩ := hform
    unfold Oper.wpIn
    refine ⟨by simp [Oper.about, ho, resolve, Target.leads, Sem.run_pure], ?_⟩
    rw [Oper.semAt_plain fe _ _ (by rw [ho]; intro c hc'; cases hc')]
    unfold execOp
    simp only [ho, resolve, invoke, builtin, Sem.run_bind, Sem.run_pure, Result.andThen_ok, List.map_toArray, List.map_cons, List.map_nil, hs, hx, hr]
    exact h A' c' w' hO ⟨below_app (Below.refl base w) k2 hown' (Nat.le_refl _) hbase, k2.block, k4.imp id fun he => ⟨_, he, Nat.le_refl _⟩⟩
  | none =>
    have hc := hsl.nil rfl
    have hl := hsl.le
    have hy : ys = [] := List.eq_nil_of_length_eq_zero (by omega)
    subst hy
    subst hc
    have hrun := run_append_owned_none (P := P) w base t o.type e i E.n ht hi v xs.length cells h3
    have hform : ∃ A' c', v = .slice A' n c' := by
      rcases h3.2 with ⟨hv, h0⟩ | ⟨g, cap, cur, hv, _⟩
      · rw [List.append_nil] at hn; rw [hn] at h0; subst h0; exact ⟨_, _, hv⟩
      · rw [List.append_nil] at hn; rw [hn] at hv; exact ⟨_, _, hv⟩
    obtain ⟨A', c', rfl⟩ := hform
    unfold Oper.wpIn
    refine ⟨by simp [Oper.about, ho, resolve, Target.leads, Sem.run_pure], ?_⟩
    rw [Oper.semAt_plain fe _ _ (by rw [ho]; intro c hc'; cases hc')]
    unfold execOp
    simp only [List.length_nil] at hx
    simp only [ho, resolve, invoke, builtin, Sem.run_bind, Sem.run_pure, Result.andThen_ok, List.map_toArray, List.map_cons, List.map_nil, hs, hx, hrun]
    exact h A' c' w (by unfold Hid; rw [List.append_nil]; exact hown') ⟨Below.refl base w, fun _ _ _ => rfl, .inl rfl⟩
theorem stepIn_catG {fe : Fence} {nf : Nat} {ops : Array Oper} {o : Oper} {a : Act} {K : Act → World → Prop} {Q : Exit → Act → World → Prop} {D : Prop} {w : World} {base : Nat} {G : Nat → Prop} {v : Value} {xs : List α} (t e : TypeId) (z : Value) (bytes : Nat) (s x : Operand) (hgd : o.guard = none)
    (ho : o.op = .call { callee := .builtin .append, args := #[s, x], argTypes := #[t, t] })
    (ht : P.underlying t = some (.slice e)) (hinfo : (P.info? e).map (fun i => (i.zero, i.size, i.bytes)) = some (some z, E.n, bytes)) (hzs : z.cells.size = E.n) (hsz : 0 < E.n)
    (hs : a.eval s = v) (hown : Own E e base G w v xs) (A : Option Addr) (c : Nat) (ys : List α) (hx : a.eval x = .slice A ys.length c) (F : Nat → Prop) (hsl : SlAt E F w A c ys)
    (hF : ∀ k, F k → G k ∧ k < w.heap.size ∧ some k ≠ v.ownBlock) (n : Nat) (hn : (xs ++ ys).length = n) (hlen : Room n) (hb : bytes ≤ 131072) (hbase : base ≤ w.heap.size)
    (h : ∀ A' c' w', Hid (Own E e base G w' (.slice A' n c') (xs ++ ys)) → Hid (Grew base w w' v (.slice A' n c')) → K (a.put o.dst (.slice A' n c')) w') :
    if Region.wanted o (yielded ops a.tmps) = true then Oper.wpIn fe nf P o a w K Q else D := by
  rw [if_pos (by simp [Region.wanted, hgd])]
  exact wpIn_catG t e z bytes s x ho ht hinfo hzs hsz hs hown A c ys hx F hsl hF n hn hlen hb hbase h
end Go.Proofs.YtckffdaomjbglaaDoor
