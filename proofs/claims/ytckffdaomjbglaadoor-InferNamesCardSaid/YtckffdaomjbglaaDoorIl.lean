/-
  Layer 42: the keys of the two maps of infer.best, and what is known of an entry that is counted up.
-/
import Derived.Test.YtckffdaomjbglaaDoorIk
import Derived.Maps.Own
import Derived.Maps.OwnOps
import Derived.Maps.OwnSet
import Derived.Maps.RangeWalk
import Derived.Maps.Views
import Derived.DeepKeys4
import Derived.WideKeyEntry
namespace Go.Proofs.YtckffdaomjbglaaDoor
open Go.RowKit Go.Maps Go.ChangeShapes Go.WideShapes Go.MapKept Go.ChangeMaps
open Go.WideMaps (KeyLaw)
set_option maxRecDepth 100000
theorem laidOutI : laidOutB Tryd.prog = true := by kernel_rfl
theorem pair_law : KeyLaw Tryd.prog 57 := deep_law_laid laidOutI (m := 100) (by decide) (by decide) (by kernel_rfl) (by kernel_rfl)
theorem pair_keyed : Keyed Tryd.prog 57 := Keyed.of_law pair_law
abbrev prV (a b : Int) : Value := .agg #[.int .u8 a, .int .u8 b]
def prL (a b : Int) : Lit := .string (keyBytes [.int .u8 a, .int .u8 b])
theorem wf_u8 {a : Int} : (Lit.int .u8 a).wf = true ↔ Fits .u8 a := Iff.rfl
theorem byte_lits (m : Nat) (a : Int) (ha : Fits .u8 a) : Tryd.prog.keyLits (m + 1) 5 [.int .u8 a] = some [.int .u8 a] := by
  simp [Program.keyLits, Tryd.underlying5, wf_u8.2 ha]
theorem byte_inv (m : Nat) (v : Value) (ls : List Lit) (hv : Tryd.prog.keyLits (m + 1) 5 [v] = some ls) : ∃ x, v = .int .u8 x ∧ Fits .u8 x := by
  unfold Program.keyLits at hv
  rw [Tryd.underlying5] at hv
  cases v with
  | int q x =>
    simp only at hv
    split at hv
    · rename_i hw
      exact ⟨x, by rw [hw.1], wf_u8.1 hw.2⟩
    · cases hv
  | _ => simp at hv
theorem pair_lits (m : Nat) (a b : Value) : Tryd.prog.keyLits (m + 1) 57 [a, b] = (Tryd.prog.keyLits m 5 [a]).bind fun la => (Tryd.prog.keyLits m 5 [b]).map fun lb => la ++ lb := by
  have c2 : Tryd.prog.cellsOf 57 = 2 := by kernel_rfl
  have c1 : Tryd.prog.cellsOf 5 = 1 := by kernel_rfl
  conv => lhs; unfold Program.keyLits
  rw [Tryd.underlying57]
  simp only [c2, c1, List.length_cons, List.length_nil, if_true]
  have hr : List.range 2 = [0, 1] := rfl
  rw [hr]
  simp only [List.mapM_cons, List.mapM_nil]
  show Option.map List.flatten ((Tryd.prog.keyLits m 5 [a]).bind fun la => ((Tryd.prog.keyLits m 5 [b]).bind fun lb => some [lb]).bind fun ls => some (la :: ls)) = _
  cases Tryd.prog.keyLits m 5 [a] with
  | none => rfl
  | some la =>
    cases Tryd.prog.keyLits m 5 [b] with
    | none => rfl
    | some lb => simp
theorem pair_of : ∀ (v : Value), keyOf Tryd.prog 57 v = if v.formed Tryd.prog 57 then (Tryd.prog.keyLits (Tryd.prog.types.size + 1) 57 v.cells.toList).map fun ls => .string (keyBytes ls) else none := by
  intro v
  have hk : Tryd.prog.keyType 57 = true := by kernel_rfl
  unfold keyOf
  rw [Tryd.underlying57]
  simp only [hk, Bool.true_and]
theorem types_two : ∃ n, Tryd.prog.types.size = n + 1 := by
  have hpos : 0 < Tryd.prog.types.size := by decide +kernel
  exact ⟨Tryd.prog.types.size - 1, by omega⟩
theorem formed_pair (cs : Array Value) : (Value.agg cs).formed Tryd.prog 57 = (cs.size == 2) := by
  have c2 : Tryd.prog.cellsOf 57 = 2 := by kernel_rfl
  unfold Value.formed
  rw [Tryd.underlying57]
  simp only [c2]
theorem pair_key {a b : Int} (ha : Fits .u8 a) (hb : Fits .u8 b) : keyOf Tryd.prog 57 (prV a b) = some (prL a b) := by
  obtain ⟨n, hn⟩ := types_two
  have hc : (prV a b).cells.toList = [.int .u8 a, .int .u8 b] := by simp [Value.cells]
  rw [pair_of, formed_pair, hc, hn, pair_lits, byte_lits n a ha, byte_lits n b hb]
  rfl
theorem prL_inj {a b x y : Int} (ha : Fits .u8 a) (hb : Fits .u8 b) (hx : Fits .u8 x) (hy : Fits .u8 y) (h : prL a b = prL x y) : a = x ∧ b = y := by
  have h1 := pair_key ha hb
  have h2 := pair_key hx hy
  rw [h] at h1
  have := pair_keyed.inj h1 h2
  simpa [prV] using this
theorem pair_inv (v : Value) (kl : Lit) (h : keyOf Tryd.prog 57 v = some kl) : ∃ p : Int × Int, v = prV p.1 p.2 ∧ Fits .u8 p.1 ∧ Fits .u8 p.2 := by
  obtain ⟨n, hn⟩ := types_two
  rw [pair_of, hn] at h
  split at h
  · rename_i hform
    cases v with
    | agg cs =>
      rw [formed_pair] at hform
      obtain ⟨l, rfl⟩ : ∃ l : List Value, cs = l.toArray := ⟨cs.toList, by simp⟩
      obtain ⟨a, b, rfl⟩ : ∃ a b, l = [a, b] := by
        match l, hform with
        | [a, b], _ => exact ⟨a, b, rfl⟩
      have hc : (Value.agg #[a, b]).cells.toList = [a, b] := by simp [Value.cells]
      rw [hc, pair_lits] at h
      cases ha : Tryd.prog.keyLits (n + 1) 5 [a] with
      | none => rw [ha] at h; cases h
      | some la =>
        cases hb : Tryd.prog.keyLits (n + 1) 5 [b] with
        | none => rw [ha, hb] at h; cases h
        | some lb =>
          obtain ⟨x, rfl, hx⟩ := byte_inv n a la ha
          obtain ⟨y, rfl, hy⟩ := byte_inv n b lb hb
          exact ⟨(x, y), rfl, hx, hy⟩
    | _ => simp [Value.formed, Tryd.underlying57] at hform
  · cases h

/-! ### an entry that is counted up -/
section
variable {H : Type} {P : Program} {w : World} {t k e : TypeId} {b n : Nat} {D : DataW H}
/-- what is known of 'm[k]++' as the machine makes it: a look-up, an entry, a store in it; the look-up may come behind the entry -/
theorem entry_facts (K : KeyLaw P k) (ht : P.underlying t = some (.map k e)) (he : P.underlying e = some (.int .i64)) (hz : ∀ u : World, (zeroValue e).run P u = .ok (.int .i64 0) u) (h : w.ownsMap P k (plainElem P e) b n D) (hn : n < maxLen)
    {key : Value} {kl : Lit} (hkey : keyOf P k key = some kl) {c : Int} (hat : D.atKey kl (.lit (.int .i64 0)) = .lit (.int .i64 c)) (hwc : (Lit.int .i64 (c + 1)).wf = true) :
    ∃ (o0 o1 o2 : Obj) (v0 : Value) (st : Nat), w.heap[b]? = some o0 ∧ (∀ W : World, W.heap[b]? = some o0 → (Instr.lookup t (.map (some b)) key false).run P W = .ok (.int .i64 c) W) ∧
      (∀ W : World, W.heap[b]? = some o1 → (Instr.lookup t (.map (some b)) key false).run P W = .ok (.int .i64 c) W) ∧
      (∀ W : World, W.heap[b]? = some o0 → (Instr.mapEntry t (.map (some b)) key).run P W = .ok (.tuple #[v0, goInt st]) (setBlock W b o1)) ∧
      (∀ W : World, W.heap[b]? = some o1 → (Instr.entryStore t (.map (some b)) (goInt st) (.int .i64 (c + 1))).run P W = .ok () (setBlock W b o2)) ∧
      (∀ W : World, W.heap[b]? = some o2 → W.ownsMap P k (plainElem P e) b (n + 1) (D.put kl (.lit (.int .i64 (c + 1))))) ∧ ∃ (es : Array MapEntry) (clock : Nat), o0 = .map es clock ∧ ∃ (es1 : Array MapEntry) (clock1 : Nat), o1 = .map es1 clock1 := by
  have KK : Keyed P k := Keyed.of_law K
  obtain ⟨w', hup, hown', _⟩ := h.update KK ht hn hkey (plainElem_int (H := H) he hwc)
  have hlook : ∃ c', (Instr.lookup t (.map (some b)) key false).run P w = .ok (.int .i64 c') w ∧ D.atKey kl (.lit (.int .i64 0)) = .lit (.int .i64 c') := by
    obtain ⟨c', h1, h2, _⟩ := h.lookup_int KK ht he (hz w) hkey
    exact ⟨c', h1, h2⟩
  obtain ⟨c', hl0, hc'⟩ := hlook
  obtain rfl : c' = c := by rw [hc'] at hat; simpa using hat
  obtain ⟨es, clock, hb, F, hs, rfl⟩ := h
  -- the world does not matter, the block does
  obtain ⟨v0, st, es1, clock1, hm, hv0, hst⟩ := Go.WideElems.entry_then_store (P := P) K ht hz hb F hkey
  have hb1 : (setBlock w b (.map es1 clock1)).heap[b]? = some (.map es1 clock1) := heap_setBlock_same hb _
  obtain ⟨es2, clock2, hs1, hs2⟩ := hst (setBlock w b (.map es1 clock1)) (.int .i64 (c' + 1)) hb1
  have e2 : w' = setBlock w b (.map es2 clock2) := by
    rw [hup] at hs2
    injection hs2
  have inj : ∀ (W : World) (o o' : Obj), W.heap[b]? = some (.map es clock) → setBlock W b o = setBlock W b o' → o = o' := fun W o o' hW heq => by
    have h1 := heap_setBlock_same hW o
    rw [heq, heap_setBlock_same hW o'] at h1
    injection h1 with h1
    exact h1.symm
  have hpw := ((stamped_iff es clock).1 F.stamped).2.2
  have look0 : ∀ W : World, W.heap[b]? = some (.map es clock) → (Instr.lookup t (.map (some b)) key false).run P W = .ok (.int .i64 c') W := fun W hW => by
    have hWo : W.ownsMap P k (plainElem (H := H) P e) b n (.map ((es.toList.map (Go.WideElems.rg P k (plainElem P e))).foldr DataW.insert [])) := ⟨es, clock, hW, F, hs, rfl⟩
    obtain ⟨c2, h1, h2, _⟩ := hWo.lookup_int KK ht he (hz W) hkey
    rw [hc'] at h2
    have : c' = c2 := by simpa using h2
    rw [h1, this]
  have tail : ∀ W : World, W.heap[b]? = some (.map es2 clock2) → W.ownsMap P k (plainElem (H := H) P e) b (n + 1) (DataW.put (.map ((es.toList.map (Go.WideElems.rg P k (plainElem P e))).foldr DataW.insert [])) kl (.lit (.int .i64 (c' + 1)))) := fun W hW => by
    obtain ⟨esx, clx, q1, q2, q3, q4⟩ := hown'
    rw [e2, heap_setBlock_same hb] at q1
    simp only [Option.some.injEq, Obj.map.injEq] at q1
    obtain ⟨rfl, rfl⟩ := q1
    exact ⟨es2, clock2, hW, q2, q3, q4⟩
  have store : ∀ W : World, W.heap[b]? = some (.map es1 clock1) → (Instr.entryStore t (.map (some b)) (goInt st) (.int .i64 (c' + 1))).run P W = .ok () (setBlock W b (.map es2 clock2)) := fun W hW => by
    obtain ⟨es', clock', r1, r2⟩ := hst W (.int .i64 (c' + 1)) hW
    rw [hup] at r2
    have e3 : w' = setBlock w b (.map es' clock') := by injection r2
    rw [r1, inj w _ _ hb (e3.symm.trans e2)]
  by_cases hab : ∀ x ∈ es.toList, x.key ≠ key
  · -- the key is not there
    have none0 : ∀ W : World, (Instr.findKey k key es.toList).run P W = .ok none W := fun W => by
      rcases K.find W hkey es.toList F.keys with ⟨h1, _⟩ | ⟨j, e0, _, h2, h3⟩
      · exact h1
      · exact absurd h3 (hab e0 (List.mem_of_getElem? h2))
    have run0 : ∀ W : World, W.heap[b]? = some (.map es clock) → (Instr.mapEntry t (.map (some b)) key).run P W = .ok (.tuple #[.int .i64 0, goInt clock]) (setBlock W b (.map (es.push ⟨key, .int .i64 0, clock⟩) (clock + 1))) := fun W hW => by
      simp [Instr.mapEntry, run_underlying ht, MapKept.run_getObj_map hW, K.check W false hkey, none0 W, hz, MapKept.run_setObj_map _ hW, Result.andThen, setBlock]
    have c0 : c' = 0 := by
      have h1 := look0 w hb
      have h2 : (Instr.lookup t (.map (some b)) key false).run P w = .ok (.int .i64 0) w := by simp [Instr.lookup, run_underlying ht, MapKept.run_getObj_map hb, K.check w _ hkey, none0 w, hz w, Result.andThen]
      rw [h1] at h2
      injection h2 with h2 _
      injection h2
    have hr := run0 w hb
    rw [hm] at hr
    injection hr with hr1 hr2
    have e1 := inj w _ _ hb hr2
    simp only [Obj.map.injEq] at e1
    obtain ⟨rfl, rfl⟩ := e1
    simp only [Value.tuple.injEq, Array.mk.injEq, List.cons.injEq, and_true] at hr1
    obtain ⟨rfl, hst'⟩ := hr1
    refine ⟨.map es clock, _, .map es2 clock2, .int .i64 0, clock, hb, look0, ?_, run0, ?_, tail, es, clock, rfl, _, _, rfl⟩
    · intro W hW
      have hkeys : ∀ x ∈ (es.push ⟨key, .int .i64 0, clock⟩).toList, ∃ l, keyOf P k x.key = some l := fun x hx => by
        simp only [Array.toList_push, List.mem_append, List.mem_singleton] at hx
        rcases hx with hx | rfl
        · exact F.keys x hx
        · exact ⟨kl, hkey⟩
      rcases K.find W hkey (es.push ⟨key, .int .i64 0, clock⟩).toList hkeys with ⟨_, h2⟩ | ⟨j, e0, h1, h2, h3⟩
      · exact absurd rfl (h2 ⟨key, .int .i64 0, clock⟩ (by simp))
      · have hm0 := List.mem_of_getElem? h2
        simp only [Array.toList_push, List.mem_append, List.mem_singleton] at hm0
        rcases hm0 with hx | rfl
        · exact absurd h3 (hab e0 hx)
        · simp only [Array.toList_push] at h1
          simp [Instr.lookup, run_underlying ht, MapKept.run_getObj_map hW, K.check W _ hkey, h1, c0, Result.andThen]
    · intro W hW
      rw [← hst']
      exact store W hW
  · -- the key is there
    obtain ⟨x0, hx0, hx1⟩ : ∃ x ∈ es.toList, x.key = key := by
      apply Classical.byContradiction
      intro hc
      exact hab fun x hx hk => hc ⟨x, hx, hk⟩
    have run0 : ∀ W : World, W.heap[b]? = some (.map es clock) → (Instr.mapEntry t (.map (some b)) key).run P W = .ok (.tuple #[x0.val, goInt x0.born]) (setBlock W b (.map es clock)) := fun W hW => by
      rcases K.find W hkey es.toList F.keys with ⟨_, h2⟩ | ⟨j, e0, h1, h2, h3⟩
      · exact absurd hx1 (h2 x0 hx0)
      · obtain rfl : e0 = x0 := entry_eq_of_key hpw (List.mem_of_getElem? h2) hx0 (h3.trans hx1.symm)
        have hj : es[j]? = some e0 := by simpa using h2
        have hsame : es.modify j (fun e => { e with key := key }) = es := by
          apply Array.ext'
          rw [Array.toList_modify]
          apply List.ext_getElem?
          intro i
          rw [List.getElem?_modify]
          by_cases hij : j = i
          · subst hij
            rw [h2]
            simp [← h3]
          · simp [hij]
        simp [Instr.mapEntry, run_underlying ht, MapKept.run_getObj_map hW, K.check W false hkey, h1, hj, h3, K.stays W hkey, hsame, MapKept.run_setObj_map _ hW, Result.andThen, setBlock]
    have hr := run0 w hb
    rw [hm] at hr
    injection hr with hr1 hr2
    have e1 := inj w _ _ hb hr2
    simp only [Obj.map.injEq] at e1
    obtain ⟨rfl, rfl⟩ := e1
    simp only [Value.tuple.injEq, Array.mk.injEq, List.cons.injEq, and_true] at hr1
    obtain ⟨rfl, hst'⟩ := hr1
    refine ⟨.map es1 clock1, .map es1 clock1, .map es2 clock2, x0.val, x0.born, hb, look0, look0, run0, ?_, tail, es1, clock1, rfl, es1, clock1, rfl⟩
    intro W hW
    rw [← hst']
    exact store W hW
end
end Go.Proofs.YtckffdaomjbglaaDoor
