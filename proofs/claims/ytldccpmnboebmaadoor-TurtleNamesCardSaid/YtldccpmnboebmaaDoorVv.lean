/-
  Layer 17: tracks placed by frames, plain; the box of a track that grows.
-/
import Derived.Test.YtldccpmnboebmaaDoorVu
import Derived.Test.YtldccpmnboebmaaDoorVn
namespace Go.Proofs.YtldccpmnboebmaaDoor
open Go.RowKit Go.Sort
set_option linter.unusedVariables false

def plL (f : Fr) (l : Ln) : Ln := ⟨imageF f l.fr, imageF f l.to, l.dep⟩
def okL (f : Fr) (l : Ln) : Bool := inV (-1000000) (imageF f l.fr) && inV (-1000000) (imageF f l.to)
def plM (f : Fr) (m : Mk) : Mk := ⟨m.name, (withinF (m.turn, m.pl) f).1.1, (withinF (m.turn, m.pl) f).1.2⟩
def okM (f : Fr) (m : Mk) : Bool := (withinF (m.turn, m.pl) f).2 == 0
def zeroT : Trk := ⟨[], [], (0, (0, 0, 0)), 0⟩
def placeT (t : Trk) (f : Fr) : Trk × Int :=
  if checkT t = 0 then (if checkFr f = 0 then (if t.lines.all (okL f) = true ∧ t.marks.all (okM f) = true ∧ (withinF t.fr f).2 = 0 then (⟨t.lines.map (plL f), t.marks.map (plM f), (withinF t.fr f).1, t.drawn⟩, 0) else (zeroT, 16)) else (zeroT, checkFr f)) else (zeroT, checkT t)
theorem placeT_bad {t : Trk} {f : Fr} (h0 : checkT t = 0) (h1 : checkFr f = 0) (h : t.lines.all (okL f) = false ∨ t.marks.all (okM f) = false ∨ (withinF t.fr f).2 ≠ 0) : placeT t f = (zeroT, 16) := by
  unfold placeT
  rw [if_pos h0, if_pos h1]
  refine if_neg ?_
  rintro ⟨a, b, c⟩
  rcases h with h | h | h
  · rw [h] at a; cases a
  · rw [h] at b; cases b
  · exact h c
theorem placeT_good {t : Trk} {f : Fr} (h0 : checkT t = 0) (h1 : checkFr f = 0) (a : t.lines.all (okL f) = true) (b : t.marks.all (okM f) = true) (c : (withinF t.fr f).2 = 0) : placeT t f = (⟨t.lines.map (plL f), t.marks.map (plM f), (withinF t.fr f).1, t.drawn⟩, 0) := by
  unfold placeT
  rw [if_pos h0, if_pos h1, if_pos ⟨a, b, c⟩]
theorem withinF_err {f g : Fr} (hf : checkFr f = 0) (hg : checkFr g = 0) : (withinF f g).2 = 0 ∨ (withinF f g).2 = 16 := by
  unfold withinF
  rw [if_pos hf, if_pos hg]
  split
  · exact .inl rfl
  · exact .inr rfl
theorem withinF_fit {f g : Fr} (h : (withinF f g).2 = 0) : Fits .u8 (withinF f g).1.1 ∧ FitV (withinF f g).1.2 := by
  unfold withinF at h ⊢
  by_cases h1 : checkFr f = 0
  · by_cases h2 : checkFr g = 0
    · by_cases h3 : checkFr (composeF f g) = 0
      · rw [if_pos h1, if_pos h2, if_pos h3]
        obtain ⟨a, b⟩ := checkFr_ok h3
        obtain ⟨b1, b2, b3⟩ := inV_iff.1 b
        have hc : (composeF f g).1 = (namedF (compT f.1.toNat g.1.toNat) : Int) := rfl
        simp only at a ⊢
        refine ⟨?_, ⟨?_, ?_, ?_⟩⟩
        · have : 0 ≤ (composeF f g).1 := by rw [hc]; omega
          exact fits_u8 (by omega)
        · exact fits_i64 (by omega)
        · exact fits_i64 (by omega)
        · exact fits_i64 (by omega)
      · rw [if_pos h1, if_pos h2, if_neg h3] at h
        cases h
    · rw [if_pos h1, if_neg h2] at h
      exact absurd h h2
  · rw [if_neg h1] at h
    exact absurd h h1
theorem fitV_in {v : V3} (h : inV (-1000000) v = true) : FitV v := by
  obtain ⟨b1, b2, b3⟩ := inV_iff.1 h
  exact ⟨fits_i64 (by omega), fits_i64 (by omega), fits_i64 (by omega)⟩
theorem applyF_ok {f : Fr} {v : V3} (hf : checkFr f = 0) (hv : inV (-1000000) v = true) : applyF f v = if inV (-1000000) (imageF f v) = true then (imageF f v, 0) else ((0, 0, 0), 16) := by
  unfold applyF
  rw [if_pos hf, if_pos hv]
theorem badM_at {t : Trk} (h : badM t = false) {k : Nat} {m : Mk} (hd : t.marks.drop k = m :: t.marks.drop (k + 1)) : checkFr (m.turn, m.pl) = 0 := by
  unfold badM at h
  have hm : m ∈ t.marks := List.mem_of_mem_drop (i := k) (by rw [hd]; simp)
  have := List.any_eq_false.1 h m hm
  simpa [mkOk] using this
theorem all_drop {α : Type} {p : α → Bool} {xs : List α} {k : Nat} {x : α} (hd : xs.drop k = x :: xs.drop (k + 1)) : (xs.drop k).all p = (p x && (xs.drop (k + 1)).all p) := by rw [hd, List.all_cons]
theorem all_end {α : Type} {p : α → Bool} {xs : List α} {k : Nat} (hk : ¬ k < xs.length) : (xs.drop k).all p = true := by rw [List.drop_eq_nil_of_le (by omega)]; rfl
theorem map_take {α β : Type} {p : α → β} {xs : List α} {k : Nat} {x : α} (hd : xs.drop k = x :: xs.drop (k + 1)) : (xs.take (k + 1)).map p = (xs.take k).map p ++ [p x] := by
  have hk : k < xs.length := by
    refine Classical.byContradiction fun h => ?_
    rw [List.drop_eq_nil_of_le (by omega)] at hd
    cases hd
  rw [List.take_succ_eq_append_getElem hk, List.map_append]
  have : xs[k] = x := by
    rw [List.drop_eq_getElem_cons hk] at hd
    injection hd
  rw [this]
  rfl

/-! ### the walk's bundle -/
def Z7 : Array Value := #[.slice none 0 0, .slice none 0 0, .int .u8 0, .int .i64 0, .int .i64 0, .int .i64 0, .int .i64 0]
structure PlSt (g0 g8 : Nat) (T F : Array Value) (x y : Value) (ls : List Ln) (ms : List Mk) (w : World) : Prop where
  b0 : Blk w g0 36 T
  b1 : Blk w (g0 + 1) 26 F
  b2 : Blk w (g0 + 1 + 1) 36 Z7
  b8 : Blk w g8 36 #[x, y, .int .u8 0, .int .i64 0, .int .i64 0, .int .i64 0, .int .i64 0]
  ox : Own pLn 46 (g8 + 1) (fun _ => False) w x ls
  oy : Own pMk 65 (g8 + 1) (fun _ => False) w y ms
  ne : ∀ k, x.ownBlock = some k → y.ownBlock ≠ some k
  lt : g0 + 1 + 1 < g8
section
variable {g0 g8 : Nat} {T F : Array Value} {x y x' : Value} {ls : List Ln} {ms : List Mk} {w w' : World}
theorem PlSt.later (h : PlSt g0 g8 T F x y ls ms w) (hb : RowKit.Below w.heap.size w w') : PlSt g0 g8 T F x y ls ms w' :=
  ⟨h.b0.same (hb.block _ h.b0.lt), h.b1.same (hb.block _ h.b1.lt), h.b2.same (hb.block _ h.b2.lt), h.b8.same (hb.block _ h.b8.lt), h.ox.later hb, h.oy.later hb, h.ne, h.lt⟩
theorem blk_off {g k : Nat} {t : TypeId} {cs : Array Value} (h : Blk w g t cs) (hne : g ≠ k) (j : Nat) (v : Value) : Blk (w.setCell ⟨k, j, none⟩ v) g t cs := h.same (Below.heap_setCell _ _ _ _ hne)
theorem own_off {α : Type} {E : Rp α} {e : TypeId} {base : Nat} {v : Value} {xs : List α} {k j : Nat} {u : Value} (h : Own E e base (fun _ => False) w v xs) (hk : k < base) : Own E e base (fun _ => False) (w.setCell ⟨k, j, none⟩ u) v xs := by
  refine h.keepG (fun i hi hG => Below.heap_setCell _ _ _ _ ?_) (by simp [World.setCell])
  rcases hG with hG | hG
  · exact hG.elim
  · have := (h.lt i hG).1
    show i ≠ k
    omega
theorem PlSt.pushX (h : PlSt g0 g8 T F x y ls ms w) {A : Option Addr} {n c : Nat} {l : Ln} (ho : Own pLn 46 (g8 + 1) (fun _ => False) w' (.slice A n c) (ls ++ [l])) (hg : Grew (g8 + 1) w w' x (.slice A n c)) : PlSt g0 g8 T F (.slice A n c) y (ls ++ [l]) ms (w'.setCell ⟨g8, 0, none⟩ (.slice A n c)) := by
  have hx : ∀ k, k ≤ g8 → some k ≠ x.ownBlock := fun k hk e => by have := (h.ox.lt k e.symm).1; omega
  have hlt := h.lt
  have h8 := h.b8.lt
  have hy : Own pMk 65 (g8 + 1) (fun _ => False) w' y ms := h.oy.beside hg fun k hk => ⟨fun hf => hf, h.ne k hk⟩
  refine ⟨?_, ?_, ?_, ?_, own_off ho (by omega), own_off hy (by omega), ?_, hlt⟩
  · exact blk_off (h.b0.same (hg.oth _ h.b0.lt (hx _ (by omega)))) (by omega) _ _
  · exact blk_off (h.b1.same (hg.oth _ h.b1.lt (hx _ (by omega)))) (by omega) _ _
  · exact blk_off (h.b2.same (hg.oth _ h.b2.lt (hx _ (by omega)))) (by omega) _ _
  · exact (h.b8.same (hg.oth _ h.b8.lt (hx _ (by omega)))).set 0 (.slice A n c)
  · intro k hk e
    rcases hg.blk with h1 | ⟨k', h1, h2⟩
    · rw [h1] at hk
      exact h.ne k hk e
    · rw [h1] at hk
      injection hk with hk
      have := (h.oy.lt k e).2
      omega
theorem PlSt.pushY (h : PlSt g0 g8 T F x y ls ms w) {A : Option Addr} {n c : Nat} {l : Mk} (ho : Own pMk 65 (g8 + 1) (fun _ => False) w' (.slice A n c) (ms ++ [l])) (hg : Grew (g8 + 1) w w' y (.slice A n c)) : PlSt g0 g8 T F x (.slice A n c) ls (ms ++ [l]) (w'.setCell ⟨g8, 1, none⟩ (.slice A n c)) := by
  have hx : ∀ k, k ≤ g8 → some k ≠ y.ownBlock := fun k hk e => by have := (h.oy.lt k e.symm).1; omega
  have hlt := h.lt
  have h8 := h.b8.lt
  have hy : Own pLn 46 (g8 + 1) (fun _ => False) w' x ls := h.ox.beside hg fun k hk => ⟨fun hf => hf, fun e => h.ne k e hk⟩
  refine ⟨?_, ?_, ?_, ?_, own_off hy (by omega), own_off ho (by omega), ?_, hlt⟩
  · exact blk_off (h.b0.same (hg.oth _ h.b0.lt (hx _ (by omega)))) (by omega) _ _
  · exact blk_off (h.b1.same (hg.oth _ h.b1.lt (hx _ (by omega)))) (by omega) _ _
  · exact blk_off (h.b2.same (hg.oth _ h.b2.lt (hx _ (by omega)))) (by omega) _ _
  · exact (h.b8.same (hg.oth _ h.b8.lt (hx _ (by omega)))).set 1 (.slice A n c)
  · intro k hk e
    rcases hg.blk with h1 | ⟨k', h1, h2⟩
    · rw [h1] at e
      exact h.ne k hk e
    · rw [h1] at e
      injection e with e
      have := (h.ox.lt k hk).2
      omega
end
def PlacePost (r : Trk × Int) (w : World) (e : Ending) (w' : World) : Prop := ∃ A c B d, e = .returned (.tuple #[.agg #[.slice A r.1.lines.length c, .slice B r.1.marks.length d, .int .u8 r.1.fr.1, .int .i64 r.1.fr.2.1, .int .i64 r.1.fr.2.2.1, .int .i64 r.1.fr.2.2.2, .int .i64 r.1.drawn], .int .i64 r.2]) ∧
  SlAt pLn (Old w') w' A c r.1.lines ∧ SlAt pMk (Old w') w' B d r.1.marks ∧ RowKit.Below w.heap.size w w'
theorem placePost_zero {r : Trk × Int} {z : Int} {w w' : World} (h : r = (zeroT, z)) (hb : RowKit.Below w.heap.size w w') : PlacePost r w (.returned (.tuple #[.agg #[.slice none 0 0, .slice none 0 0, .int .u8 0, .int .i64 0, .int .i64 0, .int .i64 0, .int .i64 0], .int .i64 z])) w' := by
  subst h
  refine ⟨none, 0, none, 0, rfl, ?_, ?_, hb⟩
  · have := (Own.nil (E := pLn) (e := 46) (base := 0) (G := fun _ => False) (w := w')).sl'
    exact this.2.wide fun k hk => hk.2
  · have := (Own.nil (E := pMk) (e := 65) (base := 0) (G := fun _ => False) (w := w')).sl'
    exact this.2.wide fun k hk => hk.2
section
variable {P : Program}
theorem wpList_storeAtG {ops : Array Oper} {rest : List Oper} {o : Oper} {a : Act} {Q : Exit → Act → World → Prop} {w : World} {g : Nat} {t : TypeId} (ty : TypeId) (p x : Operand) (off : Nat) (old cells row : Array Value) (hgd : o.guard = none) (ho : o.op = .store ty p x) (hp : a.eval p = .pointer (some ⟨g, off, none⟩)) (hx : a.eval x = .agg cells)
    (hg : Blk w g t old) (hi : (P.info? ty).map (·.size) = some cells.size) (hs : off + cells.size ≤ old.size) (h1 : cells.all (·.oneCell') = true) (hrow : (old.toList.take off ++ cells.toList ++ old.toList.drop (off + cells.size)).toArray = row) (hd : o.dst = none) (h : wpList P ops Q rest a (w.setRow g row)) : wpList P ops Q (o :: rest) a w := by
  unfold wpList
  rw [if_pos (by simp [Region.wanted, hgd])]
  exact .inl (wp_storeAtG ty p x off old cells row ho hp hx hg hi hs h1 hrow hd h)
end
end Go.Proofs.YtldccpmnboebmaaDoor
