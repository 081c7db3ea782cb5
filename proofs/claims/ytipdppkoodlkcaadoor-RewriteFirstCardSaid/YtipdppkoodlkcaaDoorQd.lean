/-
  RewriteStill, the walk of the law: it returns true.
-/
import Derived.Test.YtipdppkoodlkcaaDoorQb
import Derived.ProofKit
import Derived.SizedLaws
namespace Go.Proofs.YtipdppkoodlkcaaDoor
open Go.RowKit Go.Sort
set_option linter.unusedVariables false

theorem own_lit {α : Type} {E : Rp α} {w : World} {e : TypeId} {cells : Array Value} {xs : List α} {G : Nat → Prop} (h : CellsAre E (fun k => G k ∧ k < w.heap.size) w cells.toList xs) (hm : xs.length ≤ maxLen) :
    Own E e w.heap.size G (w.alloc (.cells cells e)) (.slice (some ⟨w.heap.size, 0, none⟩) xs.length xs.length) xs := by
  have hl := h.length
  refine ⟨cells.toList, ⟨hl, .inr ⟨w.heap.size, xs.length, cells, rfl, Nat.le_refl _, heap_alloc_new w _, Nat.le_refl _, hm, by rw [← hl]; simp, ?_⟩⟩, ?_⟩
  · rw [List.take_of_length_le (by omega)]
  · refine (CellsAre.keep (fun k hk => Below.heap_alloc _ _ _ hk.2) h).wide fun k hk => ⟨hk.1, by have := hk.2; simp; omega, fun e => ?_⟩
    cases e
    exact Nat.lt_irrefl _ hk.2
/-- an append of a slice to an own one, by the bytes that the two take -/
theorem wpList_catB {P : Program} {α : Type} {E : Rp α} {ops : Array Oper} {rest : List Oper} {o : Oper} {a : Act} {Q : Exit → Act → World → Prop} {w : World} {base : Nat} {G : Nat → Prop} {v : Value} {xs : List α} (t e : TypeId) (z : Value) (bytes : Nat) (s x : Operand) (hgd : o.guard = none)
    (ho : o.op = .call { callee := .builtin .append, args := #[s, x], argTypes := #[t, t] })
    (ht : P.underlying t = some (.slice e)) (hinfo : (P.info? e).map (fun i => (i.zero, i.size, i.bytes)) = some (some z, E.n, bytes)) (hzs : z.cells.size = E.n) (hsz : 0 < E.n)
    (hs : a.eval s = v) (hown : Own E e base G w v xs) (A : Option Addr) (c : Nat) (ys : List α) (hx : a.eval x = .slice A ys.length c) (F : Nat → Prop) (hsl : SlAt E F w A c ys)
    (hF : ∀ k, F k → G k ∧ k < w.heap.size ∧ some k ≠ v.ownBlock) (n : Nat) (hn : (xs ++ ys).length = n) (hml : n ≤ maxLen) (hby : n * bytes ≤ 140737488355328) (hbase : base ≤ w.heap.size)
    (h : ∀ A' c' w', Hid (Own E e base G w' (.slice A' n c') (xs ++ ys)) → Hid (Grew base w w' v (.slice A' n c')) → wpList P ops Q rest (a.put o.dst (.slice A' n c')) w') : wpList P ops Q (o :: rest) a w := by
  have fin : ∀ v' w', Own E e base G w' v' (xs ++ ys) → w.grownBy w' v.ownBlock → (v'.ownBlock = v.ownBlock ∨ v'.ownBlock = some w.heap.size) → wpList P ops Q rest (a.put o.dst v') w' := fun v' w' h1 h2 h3 => by
    obtain ⟨cells, ⟨hl, hv⟩, hc⟩ := h1
    have hform : ∃ A' c', v' = .slice A' n c' := by
      rcases hv with ⟨hv, h0⟩ | ⟨g, cap, cur, hv, _⟩
      · rw [hn] at h0; subst h0; exact ⟨_, _, hv⟩
      · rw [hn] at hv; exact ⟨_, _, hv⟩
    obtain ⟨A', c', rfl⟩ := hform
    exact h A' c' w' ⟨cells, ⟨hl, hv⟩, hc⟩ ⟨below_app (Below.refl base w) h2 hown (Nat.le_refl _) hbase, h2.block, h3.imp id fun he => ⟨_, he, Nat.le_refl _⟩⟩
  have hnl : xs.length + ys.length = n := by rw [← hn, List.length_append]
  obtain ⟨i, hi, hz, h1, h2⟩ := info_parts hinfo
  have hown' := hown
  obtain ⟨cells, h3, h4⟩ := hown
  cases A with
  | some ad =>
    obtain ⟨news, h5, h6⟩ := hsl.cells
    exact wpList_append_own_at (P := P) w hgd s x t ho base e i z E.n bytes ht hi hz h1 h2 hzs hsz v xs.length cells hs h3 ad ys.length c news hx h5.length h6 h5.oneCell (by omega) (by rw [hnl]; exact hby) hbase
      (fun v' w' k5 k6 _ k7 => fin v' w' (own_append h4 h5 hF k5 k6 k7) k6 k7)
  | none =>
    have hc := hsl.nil rfl
    have hl := hsl.le
    have hy : ys = [] := List.eq_nil_of_length_eq_zero (by omega)
    subst hy
    subst hc
    refine wpList_plain hgd fun K hK => ?_
    have hrun := run_append_owned_none (P := P) w base t o.type e i E.n ht hi v xs.length cells h3
    unfold Oper.wp
    simp [execOp, ho, resolve, invoke, builtin, hs, hx, hrun, Result.andThen]
    exact hK _ _ (fin v w (by simpa using hown') (World.grownBy.refl w _) (.inl rfl))
/-- what the row's reach says of a slice that comes in -/
theorem reach_slice {H : Type} {P : Program} {enc : TypeId × Value → H} {w : World} {fuel : Nat} {t e : TypeId} {a : Option Addr} {len cap : Nat} {d : DataW H} {p : List MemPlace} (ht : P.underlying t = some (.slice e))
    (h : DataW.trod enc P w 0 (fun _ => true) true fuel t [.slice a len cap] = some (d, p)) {ts : List TypeId} {ds : List (DataW H)} (hsz : (DataW.weightsEach P ts ds).all (· ≤ reachBytes) = true) {j : Nat} (hts : ts[j]? = some t) (hds : ds[j]? = some d) :
    len * P.bytesOf e ≤ 140737488351232 := by
  rcases DataW.trod_slice ht h with ⟨h1, h2⟩ | ⟨a', len', cap', elems, rest, n, h1, h2, h3, _, _, _, h4, _⟩
  · cases h1; omega
  · cases h2
    cases h3
    have := sized_slice hsz hts hds ht
    rw [List.length_map, List.length_map, h4, Nat.add_mul] at this
    have e1 : reachBytes = 140737488351232 := by decide
    omega
theorem small_sub {l l' : List Rul} (h : Small l) (hs : ∀ r ∈ l', r ∈ l) (hl : l'.length ≤ 50) : Small l' := ⟨hl, fun r hr => h.g r (hs r hr), fun r hr => h.o r (hs r hr), fun r hr => h.a r (hs r hr)⟩
theorem rulV_R {F : Nat → Prop} {w : World} {r : Rul} {A B : Option Addr} {c d : Nat} (hf : Fits .u8 r.name ∧ Fits .i64 r.arity ∧ Fits .u8 r.left ∧ Fits .u8 r.right ∧ Fits .i64 r.weight) (h : SlAt pFrm F w A c r.guards) (h2 : SlAt pShp F w B d r.out) :
    pRul.R F w [.int .u8 r.name, .int .i64 r.arity, .int .u8 r.left, .int .u8 r.right, .slice A r.guards.length c, .int .i64 r.weight, .slice B r.out.length d] r := ⟨A, c, B, d, rfl, hf, h, h2⟩

theorem countF_le' (c : Int) (ms : List Mod) : countF c ms ≤ ms.length := List.countP_le_length
end Go.Proofs.YtipdppkoodlkcaaDoor
