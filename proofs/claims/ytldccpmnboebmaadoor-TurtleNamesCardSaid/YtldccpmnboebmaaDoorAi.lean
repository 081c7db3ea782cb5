/-
  Layer 17: a turtle on its way in memory: its cells, its stack, its lines and marks; appends.
-/
import Derived.Test.YtldccpmnboebmaaDoorAh
import Derived.Test.YtldccpmnboebmaaDoorLp
import Derived.Test.YtldccpmnboebmaaDoorM1
import Derived.ArgAppend
namespace Go.Proofs.YtldccpmnboebmaaDoor
open Go.RowKit Go.Sort
set_option linter.unusedVariables false

/-! ### a stack: owned, or cut to its length -/
def OwnS (base : Nat) (w : World) (v : Value) (xs : List Tur) : Prop :=
  Own pTur 28 base (fun _ => False) w v xs ∨ ∃ q, v = .slice (some ⟨q, 0, none⟩) xs.length xs.length ∧ base ≤ q ∧ q < w.heap.size ∧ SlAt pTur (· = q) w (some ⟨q, 0, none⟩) xs.length xs
theorem pTur_flat (F F' : Nat → Prop) (w w' : World) (cs : List Value) (x : Tur) (h : pTur.R F w cs x) : pTur.R F' w' cs x := h
theorem cells_tur {F F' : Nat → Prop} {w w' : World} : ∀ {xs : List Tur} {cells : List Value}, CellsAre pTur F w cells xs → CellsAre pTur F' w' cells xs
  | [], _, h => h
  | _ :: _, _, ⟨cs, rest, h1, h2, h3⟩ => ⟨cs, rest, h1, h2, cells_tur h3⟩
section
variable {base : Nat} {w w' : World} {v : Value} {xs : List Tur}
theorem OwnS.lt (h : OwnS base w v xs) : ∀ k, v.ownBlock = some k → base ≤ k ∧ k < w.heap.size := by
  rcases h with h | ⟨q, rfl, h1, h2, _⟩
  · exact h.lt
  · intro k hk
    have : q = k := Option.some.inj hk
    omega
theorem OwnS.keepB (h : OwnS base w v xs) (hk : ∀ k, k < w.heap.size → v.ownBlock = some k → w'.heap[k]? = w.heap[k]?) (hs : w.heap.size ≤ w'.heap.size) : OwnS base w' v xs := by
  rcases h with h | ⟨q, rfl, h1, h2, h3⟩
  · exact .inl (h.keepG (fun k h4 h5 => hk k h4 (h5.elim (fun e => e.elim) id)) hs)
  · exact .inr ⟨q, rfl, h1, by omega, h3.keep fun k e => by
      subst e
      exact hk k h2 rfl⟩
theorem OwnS.later (h : OwnS base w v xs) (hb : RowKit.Below w.heap.size w w') : OwnS base w' v xs := h.keepB (fun k hk _ => hb.block k hk) hb.size
theorem OwnS.sl (h : OwnS base w v xs) : ∃ A cap, v = .slice A xs.length cap ∧ SlAt pTur (fun k => base ≤ k ∧ k < w.heap.size) w A cap xs := by
  rcases h with h | ⟨q, rfl, h1, h2, h3⟩
  · obtain ⟨A, c, h4, h5⟩ := h.sl
    exact ⟨A, c, h4, h5.wide fun k hk => ⟨hk.1.elim (fun e => e.elim) id, hk.2⟩⟩
  · exact ⟨_, _, rfl, h3.wide fun k e => by subst e; exact ⟨h1, h2⟩⟩
theorem OwnS.upd {g : Nat} {t : TypeId} {row : Array Value} (h : OwnS base w v xs) (hu : Upd g t row w w') (hg : g < base) : OwnS base w' v xs :=
  h.keepB (fun k hk e => hu.oth k hk (by have := (h.lt k e).1; omega)) hu.size
theorem OwnS.off {k j : Nat} {u : Value} (h : OwnS base w v xs) (hk : k < base) : OwnS base (w.setCell ⟨k, j, none⟩ u) v xs :=
  h.keepB (fun i hi e => Below.heap_setCell _ _ _ _ (by show i ≠ k; have := (h.lt i e).1; omega)) (by simp [World.setCell])
theorem OwnS.beside {u u' : Value} {b : Nat} (h : OwnS base w v xs) (hg : Grew b w w' u u') (hd : ∀ k, u.ownBlock = some k → v.ownBlock ≠ some k) : OwnS base w' v xs :=
  h.keepB (fun k hk e => hg.oth k hk fun he => hd k he.symm e) hg.bel.size
/-- the last one taken away, the room cut to the length -/
theorem OwnS.pop (h : OwnS base w v xs) (hne : xs ≠ []) : ∃ q c, v = .slice (some ⟨q, 0, none⟩) xs.length c ∧ base ≤ q ∧ q < w.heap.size ∧ OwnS base w (.slice (some ⟨q, 0, none⟩) (xs.length - 1) (xs.length - 1)) xs.dropLast := by
  have hl : 0 < xs.length := List.length_pos_iff.2 hne
  have key : ∀ (q c : Nat), base ≤ q → q < w.heap.size → SlAt pTur (fun k => base ≤ k ∧ k < w.heap.size) w (some ⟨q, 0, none⟩) c xs → OwnS base w (.slice (some ⟨q, 0, none⟩) (xs.length - 1) (xs.length - 1)) xs.dropLast := fun q c h1 h2 h3 => by
    refine .inr ⟨q, by rw [List.length_dropLast], h1, h2, ?_⟩
    refine ⟨by simp, by have := h3.mx; have := h3.le; simp; omega, fun e => (by cases e), fun i x hx => ?_⟩
    have hx' : xs[i]? = some x := by
      have hi : i < xs.dropLast.length := (List.getElem?_eq_some_iff.1 hx).1
      rw [List.getElem?_eq_getElem hi] at hx
      rw [List.length_dropLast] at hi
      rw [List.getElem?_eq_getElem (by omega)]
      rw [← hx, List.getElem_dropLast]
    obtain ⟨b, o, cs, e1, e2, e3, e4⟩ := h3.el i x hx'
    have : q = b := congrArg Addr.block (Option.some.inj e1)
    exact ⟨b, o, cs, e1, this.symm, e3, e4⟩
  obtain ⟨A, c, h1, h2⟩ := h.sl
  rcases h with h | ⟨q, rfl, h3, h4, h5⟩
  · obtain ⟨cells, ⟨_, hv⟩, _⟩ := h
    rcases hv with ⟨_, h0⟩ | ⟨q, cap, cur, hv, hb, hg, _⟩
    · exact absurd h0 (by omega)
    · rw [hv] at h1
      injection h1 with e1 e2 e3
      subst e1 e3
      have hq := (Array.getElem?_eq_some_iff.1 hg).1
      exact ⟨q, cap, hv, hb, hq, key q cap hb hq h2⟩
  · injection h1 with e1 e2 e3
    subst e1 e3
    exact ⟨q, xs.length, rfl, h3, h4, key q _ h3 h4 h2⟩
end
section
variable {P : Program}
/-- the append of one that lies in a slice of its own -/
theorem wpList_app1S {ops : Array Oper} {rest : List Oper} {o2 : Oper} {a : Act} {Q : Exit → Act → World → Prop} {w : World} {base : Nat} {v : Value} {xs : List Tur} (t : TypeId) (z : Value) (bytes : Nat) (s xo : Operand) (g : Nat)
    (hg2 : o2.guard = none)
    (ho2 : o2.op = .call { callee := .builtin .append, args := #[s, xo], argTypes := #[t, t] })
    (ht : P.underlying t = some (.slice 28)) (hinfo : (P.info? 28).map (fun i => (i.zero, i.size, i.bytes)) = some (some z, pTur.n, bytes)) (hzs : z.cells.size = pTur.n) (hsz : 0 < pTur.n)
    (hs : a.eval s = v) (hxo : a.eval xo = .slice (some ⟨g, 0, none⟩) 1 1) (hown : OwnS base w v xs)
    (u : Value) (hgb : Blk w g 28 u.cells) (hgn : some g ≠ v.ownBlock) (x : Tur) (hR : pTur.R (fun _ => False) w u.cells.toList x) (n : Nat) (hn : xs.length + 1 = n) (hlen : Room xs.length) (hb : bytes ≤ 131072) (hbase : base ≤ w.heap.size)
    (h : ∀ A' c' w', Hid (Own pTur 28 base (fun _ => False) w' (.slice A' n c') (xs ++ [x])) → Hid (Grew base w w' v (.slice A' n c')) →
      wpList P ops Q rest (a.put o2.dst (.slice A' n c')) w') : wpList P ops Q (o2 :: rest) a w := by
  rcases hown with hown | ⟨q, rfl, h1, h2, h3⟩
  · exact wpList_app1G (E := pTur) (xs := xs) (base := base) (G := fun _ => False) t 28 z bytes s xo g hg2 ho2 ht hinfo hzs hsz hs hxo hown u hgb hgn x (fun _ => False) hR (fun _ h => h.elim) n hn hlen hb hbase h
  · subst hn
    obtain ⟨i, hi, hz, h4, h5⟩ := info_parts hinfo
    obtain ⟨olds, k1, k2⟩ := h3.cells
    have hcl := pTur.len hR
    have hby : (xs.length + 1) * bytes ≤ 140737488355328 := by
      have := Nat.mul_le_mul (show xs.length + 1 ≤ 1073741824 by unfold Room at hlen; omega) hb
      omega
    have hml : xs.length + 1 ≤ maxLen := by unfold Room at hlen; unfold maxLen; omega
    refine wpList_append_grows w hg2 s xo t ho2 28 i z pTur.n bytes ht hi hz h4 h5 hzs hsz (some ⟨q, 0, none⟩) xs.length xs.length olds hs (fun e => by cases e) k1.length (fun b hb' j u hj => by injection hb' with hb'; subst hb'; exact k2 j u hj)
      ⟨g, 0, none⟩ 1 1 u.cells.toList hxo (by simpa using hcl) (fun j c hc => by rw [add_lit', Nat.zero_add, hgb.cell]; simpa using hc) (pTur.one hR) (by omega) hml hby ?_
    intro v' w' r1 r2
    obtain ⟨r3, r4⟩ := r1
    rcases r4 with ⟨_, h0⟩ | ⟨g', cap, cur, rfl, hb', hg', hnc⟩
    · omega
    · refine h _ _ w' ?_ ?_
      · refine ⟨olds ++ u.cells.toList, ⟨by rw [List.length_append] at r3 ⊢; simpa using r3, .inr ⟨g', cap, cur, by simp, by omega, hg', by simpa using hnc⟩⟩, ?_⟩
        exact CellsAre.append (cells_tur k1) (CellsAre.one hR)
      · exact ⟨⟨r2.os, r2.tape, r2.output, r2.size, fun k hk => r2.block k (by omega) (by simp)⟩, fun k hk _ => r2.block k hk (by simp), .inr ⟨g', rfl, hb'⟩⟩
end

structure PS (g : Nat) (b : Trop) (K L M : Value) (s : Sta) (w : World) : Prop where
  blk : Blk w g 72 (stRow s.cur b K L M)
  ok : OwnS (g + 1) w K s.stk
  ol : Own pLn 46 (g + 1) (fun _ => False) w L s.lns
  om : Own pMk 65 (g + 1) (fun _ => False) w M s.mks
  kl : ∀ k, K.ownBlock = some k → L.ownBlock ≠ some k
  km : ∀ k, K.ownBlock = some k → M.ownBlock ≠ some k
  lm : ∀ k, L.ownBlock = some k → M.ownBlock ≠ some k
section
variable {g : Nat} {b : Trop} {K L M K' L' M' : Value} {s : Sta} {w w1 w' : World}
theorem PS.later (h : PS g b K L M s w) (hb : RowKit.Below w.heap.size w w') : PS g b K L M s w' :=
  ⟨h.blk.same (hb.block _ h.blk.lt), h.ok.later hb, h.ol.later hb, h.om.later hb, h.kl, h.km, h.lm⟩
theorem PS.upd (h : PS g b K L M s w) {c : Tur} (hu : Upd g 72 (stRow c b K L M) w w') : PS g b K L M ⟨c, s.stk, s.lns, s.mks⟩ w' :=
  ⟨hu.blk, h.ok.upd hu (Nat.lt_succ_self _), h.ol.upd hu (Nat.lt_succ_self _), h.om.upd hu (Nat.lt_succ_self _), h.kl, h.km, h.lm⟩
theorem own_ne {α : Type} {E : Rp α} {e : TypeId} {v : Value} {xs : List α} (h : Own E e (g + 1) (fun _ => False) w v xs) {k : Nat} (hk : k ≤ g) : some k ≠ v.ownBlock := fun e => by
  have := (h.lt k e.symm).1
  omega
/-- the block of a slice grown is its own one, or new -/
theorem grew_ne {u : Value} (hg : Grew (g + 1) w w' K K') (hu : ∀ k, u.ownBlock = some k → k < w.heap.size) (hd : ∀ k, K.ownBlock = some k → u.ownBlock ≠ some k) : ∀ k, K'.ownBlock = some k → u.ownBlock ≠ some k := fun k hk e => by
  rcases hg.blk with h1 | ⟨k', h1, h2⟩
  · rw [h1] at hk
    exact hd k hk e
  · rw [h1] at hk
    injection hk with hk
    have := hu k e
    omega
theorem PS.pushL (h : PS g b K L M s w) {l : Ln} (ho : Own pLn 46 (g + 1) (fun _ => False) w' L' (s.lns ++ [l])) (hg : Grew (g + 1) w w' L L') : PS g b K L' M ⟨s.cur, s.stk, s.lns ++ [l], s.mks⟩ (w'.setCell ⟨g, 8, none⟩ L') := by
  have hb := (h.blk.same (hg.oth _ h.blk.lt (own_ne h.ol (Nat.le_refl _)))).set 8 L'
  have hk : OwnS (g + 1) w' K s.stk := h.ok.beside hg fun k hk e => h.kl k e hk
  have hm : Own pMk 65 (g + 1) (fun _ => False) w' M s.mks := h.om.beside hg fun k hk => ⟨fun hf => hf, h.lm k hk⟩
  have e1 : ∀ k, L'.ownBlock = some k → M.ownBlock ≠ some k := grew_ne hg (fun k e => (h.om.lt k e).2) h.lm
  have e2 : ∀ k, L'.ownBlock = some k → K.ownBlock ≠ some k := grew_ne hg (fun k e => (h.ok.lt k e).2) fun k hk e => h.kl k e hk
  refine ⟨?_, hk.off (Nat.lt_succ_self _), own_off ho (Nat.lt_succ_self _), own_off hm (Nat.lt_succ_self _), fun k hk e => e2 k e hk, h.km, e1⟩
  simpa [stRow] using hb
theorem PS.pushM (h : PS g b K L M s w) {l : Mk} (ho : Own pMk 65 (g + 1) (fun _ => False) w' M' (s.mks ++ [l])) (hg : Grew (g + 1) w w' M M') : PS g b K L M' ⟨s.cur, s.stk, s.lns, s.mks ++ [l]⟩ (w'.setCell ⟨g, 9, none⟩ M') := by
  have hb := (h.blk.same (hg.oth _ h.blk.lt (own_ne h.om (Nat.le_refl _)))).set 9 M'
  have hk : OwnS (g + 1) w' K s.stk := h.ok.beside hg fun k hk e => h.km k e hk
  have hl : Own pLn 46 (g + 1) (fun _ => False) w' L s.lns := h.ol.beside hg fun k hk => ⟨fun hf => hf, fun e => h.lm k e hk⟩
  have e1 : ∀ k, M'.ownBlock = some k → K.ownBlock ≠ some k := grew_ne hg (fun k e => (h.ok.lt k e).2) fun k hk e => h.km k e hk
  have e2 : ∀ k, M'.ownBlock = some k → L.ownBlock ≠ some k := grew_ne hg (fun k e => (h.ol.lt k e).2) fun k hk e => h.lm k e hk
  refine ⟨?_, hk.off (Nat.lt_succ_self _), own_off hl (Nat.lt_succ_self _), own_off ho (Nat.lt_succ_self _), h.kl, fun k hk e => e1 k e hk, fun k hk e => e2 k e hk⟩
  simpa [stRow] using hb
theorem PS.pushK (h : PS g b K L M s w) {c : Tur} (ho : Own pTur 28 (g + 1) (fun _ => False) w' K' (s.stk ++ [c])) (hg : Grew (g + 1) w w' K K') : PS g b K' L M ⟨s.cur, s.stk ++ [c], s.lns, s.mks⟩ (w'.setCell ⟨g, 7, none⟩ K') := by
  have hb := (h.blk.same (hg.oth _ h.blk.lt (fun e => by have := (h.ok.lt g e.symm).1; omega))).set 7 K'
  have hl : Own pLn 46 (g + 1) (fun _ => False) w' L s.lns := h.ol.beside hg fun k hk => ⟨fun hf => hf, h.kl k hk⟩
  have hm : Own pMk 65 (g + 1) (fun _ => False) w' M s.mks := h.om.beside hg fun k hk => ⟨fun hf => hf, h.km k hk⟩
  have e1 : ∀ k, K'.ownBlock = some k → L.ownBlock ≠ some k := grew_ne hg (fun k e => (h.ol.lt k e).2) h.kl
  have e2 : ∀ k, K'.ownBlock = some k → M.ownBlock ≠ some k := grew_ne hg (fun k e => (h.om.lt k e).2) h.km
  refine ⟨?_, .inl (own_off ho (Nat.lt_succ_self _)), own_off hl (Nat.lt_succ_self _), own_off hm (Nat.lt_succ_self _), e1, e2, h.lm⟩
  simpa [stRow] using hb
end
def TakePost (g : Nat) (b : Trop) (s : Sta) (m : Mod) (w : World) (e : Ending) (w' : World) : Prop :=
  match takeF b s m with
  | some s' => e = .returned (.tuple #[]) ∧ (∃ K L M, PS g b K L M s' w') ∧ RowKit.Below g w w'
  | none => e = .panicked offP ∧ RowKit.Below g w w'
section
variable {g : Nat} {b : Trop} {s s' : Sta} {m : Mod} {w w' : World}
theorem takePost_yes {K L M : Value} (h : takeF b s m = some s') (hp : PS g b K L M s' w') (hb : RowKit.Below g w w') : TakePost g b s m w (.returned (.tuple #[])) w' := by
  unfold TakePost
  rw [h]
  exact ⟨rfl, ⟨K, L, M, hp⟩, hb⟩
theorem takePost_no (h : takeF b s m = none) (hb : RowKit.Below g w w') : TakePost g b s m w (.panicked offP) w' := by
  unfold TakePost
  rw [h]
  exact ⟨rfl, hb⟩
end
theorem tur_R {F : Nat → Prop} {w : World} {c : Tur} (h : TurOk c) : pTur.R F w [.int .u8 c.1.1, .int .i64 c.1.2.1, .int .i64 c.1.2.2.1, .int .i64 c.1.2.2.2, .int .i64 c.2] c := by
  obtain ⟨h1, h2⟩ := checkFr_ok h.ck
  have := h.lo
  have := h.d0
  have := h.d1
  exact ⟨rfl, fits_u8 (by omega), fitV_in h2, fits_i64 (by omega)⟩
theorem run_slice3 {P : Program} {t e : TypeId} {s : Nat} (ht : P.underlying t = some (.slice e)) (hs : (P.info? e).map (·.size) = some s) (a : Addr) {n c k : Nat} (hk : k ≤ c) (w : World) :
    (Instr.sliceAt t (.slice (some a) n c) none (some (.int .i64 (k : Int))) (some (.int .i64 (k : Int)))).run P w = .ok (.slice (some a) k k) w := by
  obtain ⟨i, hi, hsz⟩ := Option.map_eq_some_iff.1 hs
  simp [Instr.sliceAt, Instr.slice, run_underlying ht, Instr.sliceBounds, run_sliceBound, sizeOf, typeInfo, hi, hk, Addr.add]
end Go.Proofs.YtldccpmnboebmaaDoor
