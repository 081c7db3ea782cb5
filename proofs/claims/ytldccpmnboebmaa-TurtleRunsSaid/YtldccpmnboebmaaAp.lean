/-
  Layer 17: the reference's turtle on its way in memory.
-/
import Derived.Test.YtldccpmnboebmaaAo
import Derived.Test.YtldccpmnboebmaaAb
namespace Go.Proofs.Ytldccpmnboebmaa
open Go.RowKit Go.Sort
set_option linter.unusedVariables false

def pS : Rp Tur where
  n := 13
  R _ _ cs c := cs = (sRow c).toList ∧ TurOk c
  len := by rintro F w cs x ⟨rfl, _⟩; rfl
  keep := by rintro F w w' cs x h _; exact h
  wide := by rintro F F' w cs x h _; exact h
  one := by
    rintro F w cs x ⟨rfl, _⟩ v hv
    simp [sRow] at hv
    rcases hv with rfl | rfl | rfl | rfl | rfl | rfl | rfl | rfl | rfl | rfl | rfl | rfl | rfl <;> rfl
theorem cells_cut {α : Type} {E : Rp α} {F : Nat → Prop} {w : World} {y : α} : ∀ (ys : List α) (cells : List Value), CellsAre E F w cells (ys ++ [y]) → ∃ c1 c2, cells = c1 ++ c2 ∧ CellsAre E F w c1 ys ∧ c2.length = E.n
  | [], cells, h3 => by
    obtain ⟨cs, rest, e1, e2, e3⟩ := h3
    refine ⟨[], cells, rfl, rfl, ?_⟩
    have e4 : rest = [] := e3
    rw [e1, e4, List.append_nil]
    exact E.len e2
  | z :: ys, cells, h3 => by
    obtain ⟨cs, rest, e1, e2, e3⟩ := h3
    obtain ⟨c1, c2, e4, e5, e6⟩ := cells_cut ys rest e3
    exact ⟨cs ++ c1, c2, by rw [e1, e4, List.append_assoc], ⟨cs, c1, rfl, e2, e5⟩, e6⟩
/-- the last one taken away, the room kept -/
theorem own_cut {α : Type} {E : Rp α} {e : TypeId} {base : Nat} {w : World} {A : Option Addr} {c : Nat} {xs : List α} (h : Own E e base (fun _ => False) w (.slice A xs.length c) xs) (hne : xs ≠ []) : Own E e base (fun _ => False) w (.slice A (xs.length - 1) c) xs.dropLast := by
  obtain ⟨ys, y, rfl⟩ : ∃ ys y, xs = ys ++ [y] := by
    rcases List.eq_nil_or_concat xs with h0 | ⟨ys, y, h0⟩
    · exact absurd h0 hne
    · exact ⟨ys, y, by rw [h0]; simp⟩
  obtain ⟨cells, ⟨h1, h2⟩, h3⟩ := h
  rw [List.dropLast_concat]
  have hlen : (ys ++ [y]).length - 1 = ys.length := by simp
  rw [hlen]
  obtain ⟨c1, c2, e1, h4, h5⟩ := cells_cut ys cells h3
  have h6 := h4.length
  have hs : (Value.slice A ys.length c).ownBlock = (Value.slice A (ys ++ [y]).length c).ownBlock := by cases A <;> rfl
  refine ⟨c1, ⟨h6, ?_⟩, h4.wide fun k hk => by rw [hs]; exact hk⟩
  rcases h2 with ⟨_, h0⟩ | ⟨g, cap, cur, hv, hb, hg, hnc, hcm, hsz, htk⟩
  · simp at h0
  · injection hv with e2 e3 e4
    subst e2 e4
    have hle : ys.length * E.n ≤ (ys ++ [y]).length * E.n := Nat.mul_le_mul_right _ (by simp)
    refine .inr ⟨g, c, cur, rfl, hb, hg, by simp at hnc; omega, hcm, hsz, ?_⟩
    have h7 : cur.toList.take ((ys ++ [y]).length * E.n) = c1 ++ c2 := by rw [htk, e1]
    have h8 := congrArg (List.take (ys.length * E.n)) h7
    rw [List.take_take, Nat.min_eq_left hle, List.take_append_of_le_length (by omega : ys.length * E.n ≤ c1.length), List.take_of_length_le (by omega : c1.length ≤ ys.length * E.n)] at h8
    exact h8
set_option maxRecDepth 100000 in
set_option maxHeartbeats 1000000 in
theorem plus2_calls (a b : V3) (w : World) (ha : smallV 4000000000 a) (hb : smallV 4000000000 b) : Calls Try.prog 34 #[.agg #[.int .i64 a.1, .int .i64 a.2.1, .int .i64 a.2.2], .agg #[.int .i64 b.1, .int .i64 b.2.1, .int .i64 b.2.2]] w (VecPost (addV a b) w) := by
  obtain ⟨a1, a2, a3⟩ := a
  obtain ⟨b1, b2, b3⟩ := b
  obtain ⟨⟨h1, h2⟩, ⟨h3, h4⟩, ⟨h5, h6⟩⟩ := ha
  obtain ⟨⟨k1, k2⟩, ⟨k3, k4⟩, ⟨k5, k6⟩⟩ := hb
  simp only at h1 h2 h3 h4 h5 h6 k1 k2 k3 k4 k5 k6
  go_enter Try.func34, Try.ntmps34
  go_wp2
  refine bodyPost_ret (results_cell_row rfl _ _ _ 25 _ (0, 0) _ rfl (new_at (by simp)) Try.underlying25 rfl (by kernel_rfl)) rfl ?_
  exact ⟨rfl, al3⟩
theorem mul_far {x n : Int} (h : one3 x = true) (hn : -1000000000 ≤ n ∧ n ≤ 1000000000) : -1000000000 ≤ n * x ∧ n * x ≤ 1000000000 := by
  unfold one3 at h
  simp only [Bool.or_eq_true, beq_iff_eq] at h
  rcases h with (h | h) | h <;> subst h <;> omega
theorem timesB_calls (n : Int) (hn : -1000000000 ≤ n ∧ n ≤ 1000000000) (v : V3) (w : World) (hu : unitV v = true) : Calls Try.prog 35 #[.int .i64 n, .agg #[.int .i64 v.1, .int .i64 v.2.1, .int .i64 v.2.2]] w (VecPost (mulV n v) w) := by
  obtain ⟨h1, h2, h3⟩ := unitV_at hu
  have k1 := mul_far h1 hn
  have k2 := mul_far h2 hn
  have k3 := mul_far h3 hn
  exact times_calls n v w (IntWalk.i64_in _ (by omega)) (IntWalk.i64_in _ (by omega)) (IntWalk.i64_in _ (by omega))
theorem mul_smallB {n : Int} (hn : -1000000000 ≤ n ∧ n ≤ 1000000000) {v : V3} (hu : unitV v = true) : smallV 4000000000 (mulV n v) := by
  obtain ⟨h1, h2, h3⟩ := unitV_at hu
  have k1 := mul_far h1 hn
  have k2 := mul_far h2 hn
  have k3 := mul_far h3 hn
  exact ⟨⟨by show -4000000000 ≤ n * v.1; omega, by show n * v.1 ≤ 4000000000; omega⟩, ⟨by show -4000000000 ≤ n * v.2.1; omega, by show n * v.2.1 ≤ 4000000000; omega⟩, ⟨by show -4000000000 ≤ n * v.2.2; omega, by show n * v.2.2 ≤ 4000000000; omega⟩⟩
theorem stepN_le {m : Mod} (h : fineF m = true) : -1000000000 ≤ stepN m ∧ stepN m ≤ 1000000000 := by
  unfold stepN
  cases ha : m.args with
  | nil => decide
  | cons x xs =>
    unfold fineF at h
    simp only [Bool.and_eq_true] at h
    have := List.all_eq_true.1 h.1.2 x (by rw [ha]; simp)
    unfold argOk at this
    simpa using this

structure RS (gs go : Nat) (K L M : Value) (s : Sta) (w : World) : Prop where
  st : Blk w gs 91 (sRow s.cur)
  ot : Blk w go 31 #[L, M, .int .u8 0, .int .i64 0, .int .i64 0, .int .i64 0, .int .i64 0]
  ok : Own pS 91 (gs + 1) (fun _ => False) w K s.stk
  ol : Own pLn 58 (gs + 1) (fun _ => False) w L s.lns
  om : Own pMk 67 (gs + 1) (fun _ => False) w M s.mks
  kl : ∀ k, K.ownBlock = some k → L.ownBlock ≠ some k
  km : ∀ k, K.ownBlock = some k → M.ownBlock ≠ some k
  lm : ∀ k, L.ownBlock = some k → M.ownBlock ≠ some k
  lt : go < gs
section
variable {gs go : Nat} {K L M K' L' M' : Value} {s : Sta} {w w' : World}
theorem RS.later (h : RS gs go K L M s w) (hb : RowKit.Below w.heap.size w w') : RS gs go K L M s w' :=
  ⟨h.st.same (hb.block _ h.st.lt), h.ot.same (hb.block _ h.ot.lt), h.ok.later hb, h.ol.later hb, h.om.later hb, h.kl, h.km, h.lm, h.lt⟩
theorem RS.upd (h : RS gs go K L M s w) {c : Tur} (hu : Upd gs 91 (sRow c) w w') : RS gs go K L M ⟨c, s.stk, s.lns, s.mks⟩ w' :=
  ⟨hu.blk, h.ot.same (hu.oth _ h.ot.lt (by have := h.lt; omega)), h.ok.upd hu (Nat.lt_succ_self _), h.ol.upd hu (Nat.lt_succ_self _), h.om.upd hu (Nat.lt_succ_self _), h.kl, h.km, h.lm, h.lt⟩
theorem grew_neR {base : Nat} {u : Value} (hg : Grew base w w' K K') (hu : ∀ k, u.ownBlock = some k → k < w.heap.size) (hd : ∀ k, K.ownBlock = some k → u.ownBlock ≠ some k) : ∀ k, K'.ownBlock = some k → u.ownBlock ≠ some k := fun k hk e => by
  rcases hg.blk with h1 | ⟨k', h1, h2⟩
  · rw [h1] at hk
    exact hd k hk e
  · rw [h1] at hk
    injection hk with hk
    have := hu k e
    omega
theorem RS.pushL (h : RS gs go K L M s w) {l : Ln} (ho : Own pLn 58 (gs + 1) (fun _ => False) w' L' (s.lns ++ [l])) (hg : Grew (gs + 1) w w' L L') : RS gs go K L' M ⟨s.cur, s.stk, s.lns ++ [l], s.mks⟩ (w'.setCell ⟨go, 0, none⟩ L') := by
  have hlt := h.lt
  have n1 : some gs ≠ L.ownBlock := fun e => by have := (h.ol.lt gs e.symm).1; omega
  have n2 : some go ≠ L.ownBlock := fun e => by have := (h.ol.lt go e.symm).1; omega
  have hk : Own pS 91 (gs + 1) (fun _ => False) w' K s.stk := h.ok.beside hg fun k hk => ⟨fun hf => hf, fun e => h.kl k e hk⟩
  have hm : Own pMk 67 (gs + 1) (fun _ => False) w' M s.mks := h.om.beside hg fun k hk => ⟨fun hf => hf, h.lm k hk⟩
  have e1 := grew_neR hg (u := M) (fun k e => (h.om.lt k e).2) h.lm
  have e2 := grew_neR hg (u := K) (fun k e => (h.ok.lt k e).2) fun k hk e => h.kl k e hk
  exact ⟨blk_off (h.st.same (hg.oth _ h.st.lt n1)) (by omega) _ _, (h.ot.same (hg.oth _ h.ot.lt n2)).set 0 L', own_off hk (by omega), own_off ho (by omega), own_off hm (by omega), fun k hk e => e2 k e hk, h.km, e1, hlt⟩
theorem RS.pushM (h : RS gs go K L M s w) {l : Mk} (ho : Own pMk 67 (gs + 1) (fun _ => False) w' M' (s.mks ++ [l])) (hg : Grew (gs + 1) w w' M M') : RS gs go K L M' ⟨s.cur, s.stk, s.lns, s.mks ++ [l]⟩ (w'.setCell ⟨go, 1, none⟩ M') := by
  have hlt := h.lt
  have n1 : some gs ≠ M.ownBlock := fun e => by have := (h.om.lt gs e.symm).1; omega
  have n2 : some go ≠ M.ownBlock := fun e => by have := (h.om.lt go e.symm).1; omega
  have hk : Own pS 91 (gs + 1) (fun _ => False) w' K s.stk := h.ok.beside hg fun k hk => ⟨fun hf => hf, fun e => h.km k e hk⟩
  have hl : Own pLn 58 (gs + 1) (fun _ => False) w' L s.lns := h.ol.beside hg fun k hk => ⟨fun hf => hf, fun e => h.lm k e hk⟩
  have e1 := grew_neR hg (u := K) (fun k e => (h.ok.lt k e).2) fun k hk e => h.km k e hk
  have e2 := grew_neR hg (u := L) (fun k e => (h.ol.lt k e).2) fun k hk e => h.lm k e hk
  exact ⟨blk_off (h.st.same (hg.oth _ h.st.lt n1)) (by omega) _ _, (h.ot.same (hg.oth _ h.ot.lt n2)).set 1 M', own_off hk (by omega), own_off hl (by omega), own_off ho (by omega), h.kl, fun k hk e => e1 k e hk, fun k hk e => e2 k e hk, hlt⟩
theorem RS.pushK (h : RS gs go K L M s w) {c : Tur} (ho : Own pS 91 (gs + 1) (fun _ => False) w' K' (s.stk ++ [c])) (hg : Grew (gs + 1) w w' K K') : RS gs go K' L M ⟨s.cur, s.stk ++ [c], s.lns, s.mks⟩ w' := by
  have hlt := h.lt
  have n1 : some gs ≠ K.ownBlock := fun e => by have := (h.ok.lt gs e.symm).1; omega
  have n2 : some go ≠ K.ownBlock := fun e => by have := (h.ok.lt go e.symm).1; omega
  have hl : Own pLn 58 (gs + 1) (fun _ => False) w' L s.lns := h.ol.beside hg fun k hk => ⟨fun hf => hf, h.kl k hk⟩
  have hm : Own pMk 67 (gs + 1) (fun _ => False) w' M s.mks := h.om.beside hg fun k hk => ⟨fun hf => hf, h.km k hk⟩
  exact ⟨h.st.same (hg.oth _ h.st.lt n1), h.ot.same (hg.oth _ h.ot.lt n2), ho, hl, hm, grew_neR hg (fun k e => (h.ol.lt k e).2) h.kl, grew_neR hg (fun k e => (h.om.lt k e).2) h.km, h.lm, hlt⟩
/-- the state of the last one pushed -/
theorem RS.pop {A : Option Addr} {c : Nat} (h : RS gs go (.slice A s.stk.length c) L M s w) (hne : s.stk ≠ []) {x : Tur} (hu : Upd gs 91 (sRow x) w w') : RS gs go (.slice A (s.stk.length - 1) c) L M ⟨x, s.stk.dropLast, s.lns, s.mks⟩ w' := by
  have h1 := h.upd hu
  have hs : (Value.slice A (s.stk.length - 1) c).ownBlock = (Value.slice A s.stk.length c).ownBlock := by cases A <;> rfl
  exact ⟨h1.st, h1.ot, own_cut h1.ok hne, h1.ol, h1.om, fun k hk => h.kl k (by rw [← hs]; exact hk), fun k hk => h.km k (by rw [← hs]; exact hk), h.lm, h.lt⟩
end
end Go.Proofs.Ytldccpmnboebmaa
