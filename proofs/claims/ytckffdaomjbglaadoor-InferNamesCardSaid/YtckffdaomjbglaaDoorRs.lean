/-
  Layer 7: a range over a function: the walk of step.
-/
import Derived.Test.YtckffdaomjbglaaDoorRb
import Derived.Test.YtckffdaomjbglaaDoorM1
import Derived.Test.YtckffdaomjbglaaDoorLi
namespace Go.Proofs.YtckffdaomjbglaaDoor
open Go.RowKit Go.Shelf
attribute [local go_sem] Oper.semAt_some

def StepPost (rs : List Rul) (ms : List Mod) (w : World) (e : Ending) (w' : World) : Prop :=
  ∃ A c, e = .returned (.tuple #[.slice A (stepF rs ms).1.length c, .int .i64 (stepF rs ms).2]) ∧ Own pModF 50 w.heap.size (w.heap.size ≤ ·) w' (.slice A (stepF rs ms).1.length c) (stepF rs ms).1 ∧ Below w.heap.size w w'

theorem Own.base {α : Type} {E : Rp α} {w : World} {e : TypeId} {base base' : Nat} {G : Nat → Prop} {v : Value} {xs : List α} (h : Own E e base G w v xs) (hb : base' ≤ base) : Own E e base' G w v xs := by
  obtain ⟨cells, ⟨h1, h2⟩, h3⟩ := h
  refine ⟨cells, ⟨h1, ?_⟩, h3⟩
  rcases h2 with h2 | ⟨g, cap, cur, hv, hg, r⟩
  · exact .inl h2
  · exact .inr ⟨g, cap, cur, hv, Nat.le_trans hb hg, r⟩

/-- the blocks of the loop's own: the variable out (z + 2), the loop's record (z + 6), out's row -/
def sFoot (z : Nat) (W : World) (k : Nat) : Prop := k = z + 2 ∨ k = z + 6 ∨ ∃ v, W.cell? ⟨z + 2, 0, none⟩ = some v ∧ v.ownBlock = some k
structure SJ (w : World) (rec : LoopState → Option Code → Loop) (pre : List (Mod × Bool)) (W : World) : Prop where
  lp : W.heap[w.heap.size + 6]? = some (.loop (rec .ready none))
  df : W.heap[w.heap.size + 5]? = some (.deferred (some []))
  ow : ∃ Ao co, Blk W (w.heap.size + 2) 22 #[.slice Ao pre.length co] ∧ Own pModF 50 (w.heap.size + 7) (w.heap.size + 7 ≤ ·) W (.slice Ao pre.length co) (pre.map (·.1))
  ok : ∀ x ∈ pre, x.2 = true
  r0 : Blk W w.heap.size 22 #[.slice none 0 0]
  r1 : Blk W (w.heap.size + 1) 26 #[.int .i64 0]
  bl : Below w.heap.size w W
  sz : w.heap.size + 7 ≤ W.heap.size
structure SJx (w : World) (rec : LoopState → Option Code → Loop) (pre : List (Mod × Bool)) (W : World) : Prop where
  lp : W.heap[w.heap.size + 6]? = some (.loop (rec .done (some .ret)))
  df : W.heap[w.heap.size + 5]? = some (.deferred (some []))
  no : ∃ x ∈ pre, x.2 = false
  r0 : Blk W w.heap.size 22 #[.slice none 0 0]
  r1 : Blk W (w.heap.size + 1) 26 #[.int .i64 16]
  bl : Below w.heap.size w W
  sz : w.heap.size + 7 ≤ W.heap.size
theorem below_loop {W W' : World} (h : Below W.heap.size W W') {k : Nat} {o : Obj} (hk : W.heap[k]? = some o) : W'.heap[k]? = some o := (h.block k (Array.getElem?_eq_some_iff.1 hk).1).trans hk
theorem sBears (w : World) (rec : LoopState → Option Code → Loop) : Bears (sFoot w.heap.size) (SJ w rec) where
  keep pre W W' h hb := by
    obtain ⟨Ao, co, h1, h2⟩ := h.ow
    exact ⟨below_loop hb h.lp, below_loop hb h.df, ⟨Ao, co, h1.same (hb.block _ h1.lt), h2.later hb⟩, h.ok, h.r0.same (hb.block _ h.r0.lt), h.r1.same (hb.block _ h.r1.lt), h.bl.trans (hb.mono h.bl.size), Nat.le_trans h.sz hb.size⟩
  fewer pre W W' h hb k hf := by
    rcases hf with hf | hf | ⟨v, h1, h2⟩
    · exact .inl hf
    · exact .inr (.inl hf)
    · refine .inr (.inr ⟨v, ?_, h2⟩)
      rw [← h1]
      exact (cell_keep (hb.block _ (by have := h.sz; omega))).symm
  small pre W k h hf := by
    rcases hf with hf | hf | ⟨v, h1, h2⟩
    · have := h.sz; omega
    · have := h.sz; omega
    · obtain ⟨Ao, co, h3, h4⟩ := h.ow
      rw [h3.cell] at h1
      simp at h1
      subst h1
      exact (h4.lt k h2).2

/-- what a round leaves that has appended -/
theorem sRound {w : World} {rec : LoopState → Option Code → Loop} {pre : List (Mod × Bool)} {V W2 w3 : World} {m : Mod} {Ao A3 : Option Addr} {co c3 : Nat} (o : Obj) (lb : Loop) (hJ : SJ w rec pre V)
    (hW2 : W2 = (V.alloc o).putObj (w.heap.size + 6) (.loop lb)) (hb2 : Blk V (w.heap.size + 2) 22 #[.slice Ao pre.length co]) (ho : Own pModF 50 (w.heap.size + 7) (w.heap.size + 7 ≤ ·) V (.slice Ao pre.length co) (pre.map (·.1)))
    (h3 : Own pModF 50 (w.heap.size + 7) (w.heap.size + 7 ≤ ·) w3 (.slice A3 (pre.length + 1) c3) (pre.map (·.1) ++ [m])) (hg : Grew (w.heap.size + 7) W2 w3 (.slice Ao pre.length co) (.slice A3 (pre.length + 1) c3)) :
    SJ w rec (pre ++ [(m, true)]) ((w3.setCell ⟨w.heap.size + 2, 0, none⟩ (.slice A3 (pre.length + 1) c3)).putObj (w.heap.size + 6) (.loop (rec .ready none))) ∧
    Kpt (sFoot w.heap.size) V ((w3.setCell ⟨w.heap.size + 2, 0, none⟩ (.slice A3 (pre.length + 1) c3)).putObj (w.heap.size + 6) (.loop (rec .ready none))) := by
  have hsz := hJ.sz
  have hzW : V.heap.size + 1 = W2.heap.size := by rw [hW2]; simp [World.putObj]
  have hz3 := hg.bel.size
  have hown := ho.lt
  have k2 : ∀ k, k < V.heap.size → k ≠ w.heap.size + 6 → W2.heap[k]? = V.heap[k]? := fun k hk hne => by
    rw [hW2, World.putObj_heap_other hne]; exact Below.heap_alloc _ _ _ hk
  have k3 : ∀ k, k < V.heap.size → k ≠ w.heap.size + 6 → some k ≠ (Value.slice Ao pre.length co).ownBlock → w3.heap[k]? = V.heap[k]? := fun k hk hne h => (hg.oth k (by omega) h).trans (k2 k hk hne)
  generalize hV' : (w3.setCell ⟨w.heap.size + 2, 0, none⟩ (.slice A3 (pre.length + 1) c3)).putObj (w.heap.size + 6) (.loop (rec .ready none)) = V'
  have hs4 : V'.heap.size = w3.heap.size := by rw [← hV']; simp [World.putObj, World.setCell]
  have k4 : ∀ k, k ≠ w.heap.size + 6 → k ≠ w.heap.size + 2 → V'.heap[k]? = w3.heap[k]? := fun k h1 h2 => by
    rw [← hV', World.putObj_heap_other h1]; exact Below.heap_setCell _ _ _ _ h2
  have k5 : ∀ k, k < V.heap.size → k ≠ w.heap.size + 6 → k ≠ w.heap.size + 2 → some k ≠ (Value.slice Ao pre.length co).ownBlock → V'.heap[k]? = V.heap[k]? := fun k h1 h2 h3 h4 => (k4 k h2 h3).trans (k3 k h1 h2 h4)
  have hnb : ∀ k, k < w.heap.size + 7 → some k ≠ (Value.slice Ao pre.length co).ownBlock := fun k hk he => by have := (hown k he.symm).1; omega
  have hbk : Blk V' (w.heap.size + 2) 22 #[.slice A3 (pre.length + 1) c3] := by
    have h1 := (hb2.same (k3 _ (by omega) (by omega) (hnb _ (by omega)))).set 0 (.slice A3 (pre.length + 1) c3)
    unfold Blk at h1 ⊢
    rw [← hV', World.putObj_heap_other (by omega)]
    simpa using h1
  refine ⟨⟨?_, ?_, ⟨A3, c3, ?_, ?_⟩, ?_, ?_, ?_, ?_, by omega⟩, ⟨by omega, ?_⟩⟩
  · rw [← hV']; exact World.putObj_heap_same (by simp [World.setCell]; omega)
  · exact (k5 _ (by omega) (by omega) (by omega) (hnb _ (by omega))).trans hJ.df
  · rw [List.length_append]; exact hbk
  · rw [List.length_append, List.map_append]
    refine h3.keepG (fun k hk hG => k4 k ?_ ?_) (by omega)
    · rcases hG with hG | hG
      · omega
      · have := (h3.lt k hG).1; omega
    · rcases hG with hG | hG
      · omega
      · have := (h3.lt k hG).1; omega
  · intro x hx
    rcases List.mem_append.1 hx with hx | hx
    · exact hJ.ok x hx
    · simp at hx; rw [hx]
  · exact hJ.r0.same (k5 _ (by omega) (by omega) (by omega) (hnb _ (by omega)))
  · exact hJ.r1.same (k5 _ (by omega) (by omega) (by omega) (hnb _ (by omega)))
  · have hbl := hJ.bl
    have e1 : Below w.heap.size w W2 := by
      rw [hW2]
      have h1 := hbl.alloc hbl.size o
      exact ⟨h1.os, h1.tape, h1.output, by simpa [World.putObj] using h1.size, fun k hk => (World.putObj_heap_other (by omega)).trans (h1.block k hk)⟩
    have e2 := (e1.trans (hg.bel.mono (by omega))).setCell (p := ⟨w.heap.size + 2, 0, none⟩) (by show w.heap.size ≤ w.heap.size + 2; omega) (.slice A3 (pre.length + 1) c3)
    rw [← hV']
    exact ⟨e2.os, e2.tape, e2.output, by simpa [World.putObj] using e2.size, fun k hk => (World.putObj_heap_other (by omega)).trans (e2.block k hk)⟩
  · intro k hk hf
    have n1 : k ≠ w.heap.size + 2 := fun e => hf (.inl e)
    have n2 : k ≠ w.heap.size + 6 := fun e => hf (.inr (.inl e))
    have n3 : some k ≠ (Value.slice Ao pre.length co).ownBlock := fun e => hf (.inr (.inr ⟨_, by rw [hb2.cell]; rfl, e.symm⟩))
    refine ⟨k5 k hk n2 n1 n3, ?_⟩
    rintro (h | h | ⟨v, h1, h2⟩)
    · exact n1 h
    · exact n2 h
    · rw [hbk.cell] at h1
      simp at h1
      subst h1
      rcases hg.blk with h4 | ⟨j, h4, h5⟩
      · rw [h4] at h2; exact n3 h2.symm
      · rw [h4] at h2; injection h2 with h2; omega


/-- what a round leaves that has stopped the loop -/
theorem sStop {w : World} {rec : LoopState → Option Code → Loop} {pre : List (Mod × Bool)} {V W2 : World} {m : Mod} (o : Obj) (lb : Loop) (hJ : SJ w rec pre V) (hW2 : W2 = (V.alloc o).putObj (w.heap.size + 6) (.loop lb)) :
    SJx w rec (pre ++ [(m, false)]) (((W2.setCell ⟨w.heap.size, 0, none⟩ (.slice none 0 0)).setCell ⟨w.heap.size + 1, 0, none⟩ (.int .i64 16)).putObj (w.heap.size + 6) (.loop (rec .done (some .ret)))) := by
  have hsz := hJ.sz
  have hzW : V.heap.size + 1 = W2.heap.size := by rw [hW2]; simp [World.putObj]
  have k2 : ∀ k, k < V.heap.size → k ≠ w.heap.size + 6 → W2.heap[k]? = V.heap[k]? := fun k hk hne => by
    rw [hW2, World.putObj_heap_other hne]; exact Below.heap_alloc _ _ _ hk
  generalize hV' : (((W2.setCell ⟨w.heap.size, 0, none⟩ (.slice none 0 0)).setCell ⟨w.heap.size + 1, 0, none⟩ (.int .i64 16)).putObj (w.heap.size + 6) (.loop (rec .done (some .ret)))) = V'
  have hs4 : V'.heap.size = W2.heap.size := by rw [← hV']; simp [World.putObj, World.setCell]
  have k4 : ∀ k, k ≠ w.heap.size + 6 → k ≠ w.heap.size → k ≠ w.heap.size + 1 → V'.heap[k]? = W2.heap[k]? := fun k h1 h2 h3 => by
    rw [← hV', World.putObj_heap_other h1]; exact (Below.heap_setCell _ _ _ _ h3).trans (Below.heap_setCell _ _ _ _ h2)
  refine ⟨?_, ?_, ⟨(m, false), by simp, rfl⟩, ?_, ?_, ?_, by omega⟩
  · rw [← hV']; exact World.putObj_heap_same (by simp [World.setCell]; omega)
  · exact (k4 _ (by omega) (by omega) (by omega)).trans ((k2 _ (by omega) (by omega)).trans hJ.df)
  · have h1 := (hJ.r0.same (k2 _ (by omega) (by omega))).set 0 (.slice none 0 0)
    unfold Blk at h1 ⊢
    rw [← hV', World.putObj_heap_other (by omega), Below.heap_setCell _ _ _ _ (by show w.heap.size ≠ w.heap.size + 1; omega)]
    simpa using h1
  · have h1 : Blk (W2.setCell ⟨w.heap.size, 0, none⟩ (.slice none 0 0)) (w.heap.size + 1) 26 #[.int .i64 0] := (hJ.r1.same (k2 _ (by omega) (by omega))).same (Below.heap_setCell _ _ _ _ (by show w.heap.size + 1 ≠ w.heap.size; omega))
    have h2 := h1.set 0 (.int .i64 16)
    unfold Blk at h2 ⊢
    rw [← hV', World.putObj_heap_other (by omega)]
    simpa using h2
  · have hbl := hJ.bl
    have e1 : Below w.heap.size w W2 := by
      rw [hW2]
      have h1 := hbl.alloc hbl.size o
      exact ⟨h1.os, h1.tape, h1.output, by simpa [World.putObj] using h1.size, fun k hk => (World.putObj_heap_other (by omega)).trans (h1.block k hk)⟩
    have e2 := (e1.setCell (p := ⟨w.heap.size, 0, none⟩) (Nat.le_refl _) (.slice none 0 0)).setCell (p := ⟨w.heap.size + 1, 0, none⟩) (by show w.heap.size ≤ w.heap.size + 1; omega) (.int .i64 16)
    rw [← hV']
    exact ⟨e2.os, e2.tape, e2.output, by simpa [World.putObj] using e2.size, fun k hk => (World.putObj_heap_other (by omega)).trans (e2.block k hk)⟩

theorem below_put {B : Nat} {w W : World} (h : Below B w W) {k : Nat} (hk : B ≤ k) (o : Obj) : Below B w (W.putObj k o) :=
  ⟨h.os, h.tape, h.output, by simpa [World.putObj] using h.size, fun j hj => (World.putObj_heap_other (by omega)).trans (h.block j hj)⟩
/-- the deferred calls' block is shut: the results' cells -/
theorem sOut {w W5 : World} {v0 v1 : Value} {t0 t1 : TypeId} (r0 : Blk W5 w.heap.size t0 #[v0]) (r1 : Blk W5 (w.heap.size + 1) t1 #[v1]) (bl : Below w.heap.size w W5) :
    (W5.putObj (w.heap.size + 5) (.deferred none)).cell? ⟨w.heap.size, 0, none⟩ = some v0 ∧ (W5.putObj (w.heap.size + 5) (.deferred none)).cell? ⟨w.heap.size + 1, 0, none⟩ = some v1 ∧ Below w.heap.size w (W5.putObj (w.heap.size + 5) (.deferred none)) := by
  have h0 : Blk (W5.putObj (w.heap.size + 5) (.deferred none)) w.heap.size t0 #[v0] := r0.same (World.putObj_heap_other (by omega))
  have h1 : Blk (W5.putObj (w.heap.size + 5) (.deferred none)) (w.heap.size + 1) t1 #[v1] := r1.same (World.putObj_heap_other (by omega))
  exact ⟨h0.cell 0, h1.cell 0, below_put bl (by omega) _⟩
/-- two cells are set -/
theorem sSet {w W4 : World} {v0 v1 : Value} {t0 t1 : TypeId} (u0 u1 : Value) (hd : W4.heap[w.heap.size + 5]? = some (.deferred (some []))) (r0 : Blk W4 w.heap.size t0 #[v0]) (r1 : Blk W4 (w.heap.size + 1) t1 #[v1]) (bl : Below w.heap.size w W4) :
    ((W4.setCell ⟨w.heap.size, 0, none⟩ u0).setCell ⟨w.heap.size + 1, 0, none⟩ u1).heap[w.heap.size + 5]? = some (.deferred (some [])) ∧
    Blk ((W4.setCell ⟨w.heap.size, 0, none⟩ u0).setCell ⟨w.heap.size + 1, 0, none⟩ u1) w.heap.size t0 #[u0] ∧ Blk ((W4.setCell ⟨w.heap.size, 0, none⟩ u0).setCell ⟨w.heap.size + 1, 0, none⟩ u1) (w.heap.size + 1) t1 #[u1] ∧
    Below w.heap.size w ((W4.setCell ⟨w.heap.size, 0, none⟩ u0).setCell ⟨w.heap.size + 1, 0, none⟩ u1) ∧ ∀ k, k ≠ w.heap.size → k ≠ w.heap.size + 1 → ((W4.setCell ⟨w.heap.size, 0, none⟩ u0).setCell ⟨w.heap.size + 1, 0, none⟩ u1).heap[k]? = W4.heap[k]? := by
  have kk : ∀ k, k ≠ w.heap.size → k ≠ w.heap.size + 1 → ((W4.setCell ⟨w.heap.size, 0, none⟩ u0).setCell ⟨w.heap.size + 1, 0, none⟩ u1).heap[k]? = W4.heap[k]? := fun k h1 h2 => (Below.heap_setCell _ _ _ _ h2).trans (Below.heap_setCell _ _ _ _ h1)
  refine ⟨(kk _ (by omega) (by omega)).trans hd, ?_, ?_, (bl.setCell (p := ⟨w.heap.size, 0, none⟩) (Nat.le_refl _) _).setCell (p := ⟨w.heap.size + 1, 0, none⟩) (by show w.heap.size ≤ w.heap.size + 1; omega) _, kk⟩
  · have h1 := (r0.set 0 u0).same (Below.heap_setCell (W4.setCell ⟨w.heap.size, 0, none⟩ u0) ⟨w.heap.size + 1, 0, none⟩ u1 w.heap.size (by show w.heap.size ≠ w.heap.size + 1; omega))
    simpa using h1
  · have h1 := (r1.same (Below.heap_setCell W4 ⟨w.heap.size, 0, none⟩ u0 (w.heap.size + 1) (by show w.heap.size + 1 ≠ w.heap.size; omega))).set 0 u1
    simpa using h1

theorem fits_letter {c : Int} (h : letterB c = true) : Fits .u8 c := by
  refine fits_u8 ?_
  unfold letterB upB loB symB symL at h
  simp at h
  omega
/-- the names of what a step yields -/
theorem succ_letter {rs : List Rul} {ms : List Mod} (hr : rs.all coreR = true) (hm : ∀ m ∈ ms, fineF m = true) : ∀ x ∈ succF rs ms, letterB x.1.name = true := by
  intro x hx
  unfold succF at hx
  obtain ⟨m, h1, h2⟩ := List.mem_flatMap.1 hx
  rcases outsF_cases rs m with ⟨_, h3⟩ | ⟨j, r, _, h4, _, h3⟩
  · rw [h3] at h2; simp at h2; subst h2; exact letter_byte (hm m h1)
  · rw [h3] at h2
    obtain ⟨s, h5, rfl⟩ := List.mem_map.1 h2
    have h6 := List.all_eq_true.1 (checkF_iff.1 (core_out (List.all_eq_true.1 hr r (List.mem_of_getElem? h4))).1).2.1 _ (List.mem_map.2 ⟨s, h5, rfl⟩)
    exact letter_byte (m := ⟨s.name, List.replicate s.args.length 0⟩) h6

/-- the statement 'for .. := range g', its iterator a closure: the loop's record and the block of deferred calls are laid, the iterator is called -/
theorem wpIn_range_mine {F : Fence} {n : Nat} {P : Program} {g : Operand} {ps : Array Tmp} {assign body : Code} {Q : Exit → Act → World → Prop} {a : Act} {w : World} (hro : F.round = none) (hn : 1 ≤ n) {gf : Nat} {lb : Array Value}
    (hg : a.eval g = .func (.func gf) #[] lb) (hF : F.fn gf) (eg : ∀ args w, (callFunc gf args).run P w = .ok (.enter gf args) w)
    (h : ∀ fn, F.fn fn → ∀ rec : LoopState → Option Code → Loop, rec = (fun st pe => { state := st, pending := pe, fn, tmps := a.tmps, params := ps, assign, body, defers := w.heap.size }) → ∀ W1, W1 = (w.alloc (.deferred (some []))).alloc (.loop (rec .ready none)) →
      CallsIn F (n - 1) P gf (#[.func (.yield (w.heap.size + 1)) #[] #[]] ++ lb) W1 (rangePost F n P (w.heap.size + 1) Q { a with defers := { target := .collected w.heap.size, args := #[] } :: a.defers })) :
    (Code.rangeFunc g ps assign body).wpIn F n P Q a w := by
  refine wpIn_rangeFunc ?_
  intro fn hfn
  rw [hro]
  obtain ⟨rec, hrec⟩ : ∃ rec : LoopState → Option Code → Loop, rec = fun st pe => { state := st, pending := pe, fn, tmps := a.tmps, params := ps, assign, body, defers := w.heap.size } := ⟨_, rfl⟩
  obtain ⟨W1, hW1⟩ : ∃ W1, W1 = (w.alloc (.deferred (some []))).alloc (.loop (rec .ready none)) := ⟨_, rfl⟩
  refine ⟨w.heap.size + 1, [{ target := .collected w.heap.size, args := #[] }], W1, { target := .fn (.func gf) lb, args := #[.func (.yield (w.heap.size + 1)) #[] #[]] }, W1, gf,
    #[.func (.yield (w.heap.size + 1)) #[] #[]] ++ lb, W1, ?_, ?_, ?_, ?_, fun _ => hn, ?_⟩
  · rw [hW1, hrec]; exact run_enterLoop_outer _ _ _ _ _
  · simp only [resolve, hg]
    simp [go_sem]
  · intro f' hf'; simp [Target.leads] at hf'; subst hf'; exact hF
  · simp [invoke, go_sem, eg]
  · exact h fn hfn rec hrec W1 hW1
/-- a round, out of the walk of its code -/
theorem yield_mine {F : Fence} {n : Nat} {P : Program} {l : Nat} {args : Array Value} {r : Loop} {V : World} {R : Ending → World → Prop} (hF : F.fn r.fn) (hl : V.heap[l]? = some (.loop r)) (hs : args.size = r.params.size)
    (h : r.assign.wpIn (F.inRound l) n P (Exit.then (fun a₁ w₁ => ∃ w₂, (Instr.beginRound l).run P w₁ = .ok () w₂ ∧ r.body.wpIn (F.inRound l) n P (roundPost P l R) a₁ w₂) (fun _ _ _ => False))
      { tmps := (r.params.zip args).foldl (fun tmps (t, a) => tmps.setIfInBounds t a) r.tmps, defers := [] } V) : YieldAt F n P l args V R :=
  ⟨r.fn, _, r.assign, r.body, run_yield hl hs, roundIn_of_wpIn hF h⟩

/-- how many modules a step yields -/
theorem outsF_len {rs : List Rul} {m : Mod} (h : ∀ r ∈ rs, r.out.length ≤ 30) : (outsF rs m).length ≤ 30 := by
  rcases outsF_cases rs m with ⟨_, h1⟩ | ⟨j, r, _, h2, _, h3⟩
  · rw [h1]; simp
  · rw [h3, List.length_map]; exact h r (List.mem_of_getElem? h2)
theorem succF_len {rs : List Rul} (h : ∀ r ∈ rs, r.out.length ≤ 30) : ∀ (ms : List Mod), (succF rs ms).length ≤ ms.length * 30
  | [] => by simp [succF]
  | m :: ms => by
    have h1 := outsF_len (m := m) h
    have h2 := succF_len h ms
    have e : succF rs (m :: ms) = outsF rs m ++ succF rs ms := rfl
    rw [e, List.length_append, List.length_cons]
    omega
theorem stepF_no {rs : List Rul} {ms : List Mod} {pre : List (Mod × Bool)} (hp : pre <+: succF rs ms) (h : ∃ x ∈ pre, x.2 = false) : stepF rs ms = ([], 16) := by
  obtain ⟨x, hx, hf⟩ := h
  obtain ⟨t, ht⟩ := hp
  unfold stepF
  rw [if_neg]
  intro hall
  have := List.all_eq_true.1 hall x (by rw [← ht]; exact List.mem_append_left _ hx)
  rw [hf] at this; cases this

set_option maxRecDepth 100000 in
set_option maxHeartbeats 8000000 in
theorem step_calls (A : Option Addr) (c : Nat) (rs : List Rul) (B : Option Addr) (cb : Nat) (ms : List Mod) (w : World) (h : SlAt pRul (Old w) w A c rs) (h' : SlAt pMod (Old w) w B cb ms) (hcore : rs.all coreR = true) (hfine : ∀ m ∈ ms, fineF m = true)
    (ho : ∀ r ∈ rs, r.out.length ≤ 30) (hl : ms.length ≤ 2000) : Calls Tryd.prog 38 #[.slice A rs.length c, .slice B ms.length cb] w (StepPost rs ms w) := by
  have hsl := succF_len ho ms
  refine callsIn_wide (n := 3) |>.1 ?_
  refine callsIn_of_wp_marks Tryd.func38 rfl trivial ?_ rfl
  simp only [Tryd.ntmps38, List.size_toArray, List.length_cons, List.length_nil, Nat.reduceAdd, Nat.reduceSub, Array.replicate_succ, Array.replicate_zero, List.push_toArray, List.append_toArray, List.nil_append, List.cons_append]
  gi_wp2_with (refine ⟨trivial, ?_⟩; gi_at_call 52; refine (callsIn_wide.2 (successors_calls _ _ _ _ _ _ _)).mono ?_; rintro e w' ⟨rfl, rfl⟩)
  obtain ⟨wS, hwS⟩ : ∃ wS, wS = ((((w.alloc (.cells #[.slice none 0 0] 22)).alloc (.cells #[.int .i64 0] 26)).alloc (.cells #[.slice none 0 0] 22)).alloc (.cells #[.slice A rs.length c] 25)).alloc (.cells #[.slice B ms.length cb] 22) := ⟨_, rfl⟩
  rw [← hwS]
  have hzS : wS.heap.size = w.heap.size + 5 := by rw [hwS]; simp
  refine wpIn_range_mine rfl (by decide) (gf := 62) (lb := #[.pointer (some ⟨w.heap.size + 1 + 1 + 1 + 1, 0, none⟩), .pointer (some ⟨w.heap.size + 1 + 1 + 1, 0, none⟩)]) rfl trivial (enters_of Tryd.func62 (by kernel_rfl) rfl) ?_
  intro fn hfn rec hrec W1 hW1
  have hb1 : Below wS.heap.size wS W1 := by rw [hW1]; exact ((Below.refl _ _).alloc (Nat.le_refl _) _).alloc (by simp) _
  have hbS : Below w.heap.size w wS := by
    rw [hwS]; exact (((((Below.refl _ _).alloc (Nat.le_refl _) _).alloc (by simp) _).alloc (by simp; omega) _).alloc (by simp; omega) _).alloc (by simp; omega) _
  have hz1 : W1.heap.size = w.heap.size + 7 := by rw [hW1]; simp [hzS]
  have hbw1 : Below w.heap.size w W1 := hbS.trans (hb1.mono hbS.size)
  have hlp : W1.heap[w.heap.size + 6]? = some (.loop (rec .ready none)) := by
    rw [hW1]; have := World.alloc_heap_new (wS.alloc (.deferred (some []))) (.loop (rec .ready none)); rwa [World.size_alloc, hzS] at this
  have hdf : W1.heap[w.heap.size + 5]? = some (.deferred (some [])) := by
    rw [hW1, ← hzS]; exact (Below.heap_alloc _ _ _ (by simp)).trans (World.alloc_heap_new wS _)
  have hwS' : wS = chainW w [.cells #[.slice none 0 0] 22, .cells #[.int .i64 0] 26, .cells #[.slice none 0 0] 22, .cells #[.slice A rs.length c] 25, .cells #[.slice B ms.length cb] 22] := hwS
  have hbk : ∀ (i : Nat) (cs : Array Value) (t : TypeId), ([.cells #[.slice none 0 0] 22, .cells #[.int .i64 0] 26, .cells #[.slice none 0 0] 22, .cells #[.slice A rs.length c] 25, .cells #[.slice B ms.length cb] 22] : List Obj)[i]? = some (.cells cs t) → i < 5 → Blk W1 (w.heap.size + i) t cs := fun i cs t hi h5 =>
    Blk.same (by rw [hwS']; exact chainW_blk _ w i cs t hi) (hb1.block _ (by omega))
  have k0 := hbk 0 _ _ rfl (by decide)
  have k1 := hbk 1 _ _ rfl (by decide)
  have k2 := hbk 2 _ _ rfl (by decide)
  have k3 := hbk 3 _ _ rfl (by decide)
  have k4 := hbk 4 _ _ rfl (by decide)
  have hnf : ∀ k, sFoot w.heap.size W1 k → k = w.heap.size + 2 ∨ k = w.heap.size + 6 := fun k hf => by
    rcases hf with hf | hf | ⟨v, h1, h2⟩
    · exact .inl hf
    · exact .inr hf
    · rw [k2.cell] at h1; simp at h1; subst h1; cases h2
  have hold : ∀ k, k < w.heap.size → k < W1.heap.size ∧ ¬ sFoot w.heap.size W1 k := fun k hk => ⟨by omega, fun hf => by have := hnf k hf; omega⟩
  have hrs1 : SlAt pRul (fun k => k < W1.heap.size ∧ ¬ sFoot w.heap.size W1 k) W1 A c rs := (h.below hbw1).wide hold
  have hms1 : SlAt pMod (fun k => k < W1.heap.size ∧ ¬ sFoot w.heap.size W1 k) W1 B cb ms := (h'.below hbw1).wide hold
  have hJ0 : SJ w rec [] W1 := ⟨hlp, hdf, ⟨none, 0, k2, Own.nil⟩, by simp, k0, k1, hbw1, by omega⟩
  simp only [hzS, List.append_toArray, List.cons_append, List.nil_append, Nat.add_assoc, Nat.reduceAdd]
  clear hwS hwS' hbk hW1 hb1 hbS h h' hzS
  have hrecr : ∀ st pe, (rec st pe).state = st ∧ (rec st pe).pending = pe := fun st pe => by rw [hrec]; exact ⟨rfl, rfl⟩
  refine (iter_calls (J := SJ w rec) (Jx := SJx w rec) 2 (w.heap.size + 6) (w.heap.size + 3) (w.heap.size + 4) A B c cb rs ms W1 (by decide) (sBears w rec) ?hY hrs1 hms1 k3 k4 (fun hf => by have := hnf _ hf; omega) (fun hf => by have := hnf _ hf; omega) hcore (fun m hm => fine_args (hfine m hm)) hJ0).mono ?post
  case post =>
    rintro e W2 ⟨⟨v, rfl⟩, (hJ | ⟨pre, hp, hx⟩)⟩
    · obtain ⟨Ao, co, hbo, hown⟩ := hJ.ow
      have hall : (succF rs ms).all (·.2) = true := List.all_eq_true.2 hJ.ok
      have hsz := hJ.sz
      have hend : (Instr.endLoop (w.heap.size + 6)).run Tryd.prog W2 = .ok none (W2.putObj (w.heap.size + 6) (.loop { rec .ready none with state := .exhausted })) := by
        have := run_endLoop (P := Tryd.prog) hJ.lp (by rw [(hrecr _ _).1]; decide)
        exact this.trans (congrArg (fun j => Result.ok j _) (hrecr _ _).2)
      generalize hW4 : W2.putObj (w.heap.size + 6) (.loop { rec .ready none with state := .exhausted }) = W4 at hend
      have kk : ∀ k, k ≠ w.heap.size + 6 → W4.heap[k]? = W2.heap[k]? := fun k hk => by rw [← hW4]; exact World.putObj_heap_other hk
      have hz4 : W4.heap.size = W2.heap.size := by rw [← hW4]; simp [World.putObj]
      have hbo4 := hbo.same (kk _ (by omega))
      have hr0 := hJ.r0.same (kk _ (by omega))
      have hr1 := hJ.r1.same (kk _ (by omega))
      have hbl4 : Below w.heap.size w W4 := by rw [← hW4]; exact below_put hJ.bl (by omega) _
      have hdf4 := (kk (w.heap.size + 5) (by omega)).trans hJ.df
      have hown4 : Own pModF 50 (w.heap.size + 7) (w.heap.size + 7 ≤ ·) W4 (.slice Ao (succF rs ms).length co) ((succF rs ms).map (·.1)) := hown.keepG (fun k hk hG => kk k (by
        rcases hG with hG | hG
        · omega
        · have := (hown.lt k hG).1; omega)) (by omega)
      refine ⟨none, W4, hend, ?_⟩
      have y0 := hbo4.cell 0
      have z0 := hr0.cell 0
      have z1 := hr1.cell 0
      have f0 := hr0.free 0
      have f1 := hr1.free 0
      have hne : w.heap.size + 1 ≠ w.heap.size := by omega
      have hlen : (succF rs ms).length ≤ 9223372036854775807 := by omega
      obtain ⟨n, hn⟩ : ∃ n, (succF rs ms).length = n := ⟨_, rfl⟩
      have hown5 := hown4
      rw [hn] at y0 hlen hown5
      have Hown4 := Lib.hid hown4; clear hown4
      have Hown5 := Lib.hid hown5; clear hown5
      have Hbo4 := Lib.hid hbo4; clear hbo4
      have Hr0 := Lib.hid hr0; clear hr0
      have Hr1 := Lib.hid hr1; clear hr1
      have Hbl4 := Lib.hid hbl4; clear hbl4
      have Hdf4 := Lib.hid hdf4; clear hdf4
      have Hend := Lib.hid hend; clear hend
      have Kk := Lib.hid kk; clear kk
      have Hall := Lib.hid hall; clear hall
      have Hn := Lib.hid hn; clear hn
      clear hrs1 hms1 hJ0 hold hnf hrec hrecr hJ hlp hdf k0 k1 k2 k3 k4 hbo hown hW4
      dsimp only
      by_cases hbig : 2000 < n
      · have hst : stepF rs ms = ([], 4) := by unfold stepF; rw [if_pos Hall.out, if_pos (by rw [Hn.out]; exact hbig)]
        have Hst := Lib.hid hst; clear hst
        gi_wp2
        obtain ⟨s1, s2, s3, s4, _⟩ := sSet (.slice none 0 0) (.int .i64 4) Hdf4.out Hr0.out Hr1.out Hbl4.out
        obtain ⟨c0, c1, c2⟩ := sOut s2 s3 s4
        refine ⟨by simp, .inl ⟨_, _, rfl, run_takeDeferred s1, ?_⟩⟩
        refine ⟨.tuple #[.slice none 0 0, .int .i64 4], ?_, ?_⟩
        · simp [results, Tryd.f38, go_sem, c0, c1]
        · rw [StepPost, Hst.out]
          exact ⟨none, 0, rfl, Own.nil, c2⟩
      · have hst : stepF rs ms = ((succF rs ms).map (·.1), 0) := by unfold stepF; rw [if_pos Hall.out, if_neg (by rw [Hn.out]; exact hbig)]
        have Hst := Lib.hid hst; clear hst
        gi_wp2
        obtain ⟨s1, s2, s3, s4, s5⟩ := sSet (.slice Ao n co) (.int .i64 0) Hdf4.out Hr0.out Hr1.out Hbl4.out
        obtain ⟨c0, c1, c2⟩ := sOut s2 s3 s4
        refine ⟨by simp, .inl ⟨_, _, rfl, run_takeDeferred s1, ?_⟩⟩
        refine ⟨.tuple #[.slice Ao n co, .int .i64 0], ?_, ?_⟩
        · simp [results, Tryd.f38, go_sem, c0, c1]
        · rw [StepPost, Hst.out]
          simp only [List.length_map]
          rw [Hn.out]
          have h6 := (Hown5.out.keepG (w' := (((W4.setCell ⟨w.heap.size, 0, none⟩ (.slice Ao n co)).setCell ⟨w.heap.size + 1, 0, none⟩ (.int .i64 0)).putObj (w.heap.size + 5) (.deferred none))) (fun k hk hG => (World.putObj_heap_other (by
              rcases hG with hG | hG
              · omega
              · have := (Hown5.out.lt k hG).1; omega)).trans (s5 k (by
              rcases hG with hG | hG
              · omega
              · have := (Hown5.out.lt k hG).1; omega) (by
              rcases hG with hG | hG
              · omega
              · have := (Hown5.out.lt k hG).1; omega))) (by simp [World.putObj, World.setCell])).wideG (G' := (w.heap.size ≤ ·)) (fun k _ hk => by omega)
          exact ⟨Ao, co, rfl, h6.base (by omega), c2⟩
    · have hend : (Instr.endLoop (w.heap.size + 6)).run Tryd.prog W2 = .ok (some .ret) (W2.putObj (w.heap.size + 6) (.loop { rec .done (some .ret) with state := .exhausted })) := by
        have := run_endLoop (P := Tryd.prog) hx.lp (by rw [(hrecr _ _).1]; decide)
        exact this.trans (congrArg (fun j => Result.ok j _) (hrecr _ _).2)
      generalize hW4 : W2.putObj (w.heap.size + 6) (.loop { rec .done (some .ret) with state := .exhausted }) = W4 at hend
      have kk : ∀ k, k ≠ w.heap.size + 6 → W4.heap[k]? = W2.heap[k]? := fun k hk => by rw [← hW4]; exact World.putObj_heap_other hk
      have hr0 := hx.r0.same (kk _ (by omega))
      have hr1 := hx.r1.same (kk _ (by omega))
      have hbl4 : Below w.heap.size w W4 := by rw [← hW4]; exact below_put hx.bl (by omega) _
      have hdf4 := (kk (w.heap.size + 5) (by omega)).trans hx.df
      have hst := stepF_no hp hx.no
      refine ⟨some .ret, W4, hend, ?_⟩
      have Hr0 := Lib.hid hr0; clear hr0
      have Hr1 := Lib.hid hr1; clear hr1
      have Hbl4 := Lib.hid hbl4; clear hbl4
      have Hdf4 := Lib.hid hdf4; clear hdf4
      have Hend := Lib.hid hend; clear hend
      have Kk := Lib.hid kk; clear kk
      have Hst := Lib.hid hst; clear hst
      clear hrs1 hms1 hJ0 hold hnf hrec hrecr hx hlp hdf k0 k1 k2 k3 k4 hW4 hp
      dsimp only
      gi_wp2
      obtain ⟨c0, c1, c2⟩ := sOut Hr0.out Hr1.out Hbl4.out
      refine ⟨by simp, .inl ⟨_, _, rfl, run_takeDeferred Hdf4.out, ?_⟩⟩
      refine ⟨.tuple #[.slice none 0 0, .int .i64 16], ?_, ?_⟩
      · simp [results, Tryd.f38, go_sem, c0, c1]
      · rw [StepPost, Hst.out]
        exact ⟨none, 0, rfl, Own.nil, c2⟩
  case hY =>
    intro pre m D d ok V hJ hpre hya
    suffices hh : ∀ R : Ending → World → Prop, (∀ e V', (e = .returned (.bool true) ∧ SJ w rec (pre ++ [(m, ok)]) V' ∧ Kpt (sFoot w.heap.size) V V') ∨ (e = .returned (.bool false) ∧ SJx w rec (pre ++ [(m, ok)]) V') → R e V') →
        YieldAt Fence.wide (2 - 1) Tryd.prog (w.heap.size + 6) #[.agg #[.int .u8 m.name, .slice D m.args.length d], .bool ok] V R from hh _ (fun _ _ h => h)
    intro R hR
    obtain ⟨Ao, co, hbo, hown⟩ := hJ.ow
    have hprl : pre.length + 1 ≤ (succF rs ms).length := by have := hpre.length_le; simpa using this
    have hnm : Fits .u8 m.name := by
      obtain ⟨t, ht⟩ := hpre
      exact fits_letter (succ_letter hcore hfine (m, ok) (by rw [← ht]; simp))
    have hVz := hJ.sz
    have hrb : ∀ st pe, ({ rec .ready none with state := st, pending := pe } : Loop) = rec st pe := fun st pe => by rw [hrec]
    refine yield_mine (r := rec .ready none) (by rw [hrec]; exact hfn) hJ.lp (by rw [hrec]; rfl) ?_
    obtain ⟨W2, hW2⟩ : ∃ W2, W2 = (V.alloc (.cells #[.int .u8 m.name, .slice D m.args.length d] 50)).putObj (w.heap.size + 6) (.loop { rec .ready none with state := .busy }) := ⟨_, rfl⟩
    have hzW : V.heap.size + 1 = W2.heap.size := by rw [hW2]; simp [World.putObj]
    have kk : ∀ k, k < V.heap.size → k ≠ w.heap.size + 6 → W2.heap[k]? = V.heap[k]? := fun k hk hne => by
      rw [hW2, World.putObj_heap_other hne]; exact Below.heap_alloc _ _ _ hk
    have hlp2 : W2.heap[w.heap.size + 6]? = some (.loop { rec .ready none with state := .busy }) := by rw [hW2]; exact World.putObj_heap_same (by simp; omega)
    have hbeg : (Instr.beginRound (w.heap.size + 6)).run Tryd.prog (V.alloc (.cells #[.int .u8 m.name, .slice D m.args.length d] 50)) = .ok () W2 := by
      rw [hW2]; exact run_beginRound ((Below.heap_alloc _ _ _ (by omega)).trans hJ.lp) (hrecr _ _).1
    have hbm2 : Blk W2 V.heap.size 50 #[.int .u8 m.name, .slice D m.args.length d] := by
      unfold Blk; rw [hW2, World.putObj_heap_other (by omega)]; exact Blk.new _ _ _
    have hbo2 := hbo.same (kk _ (by omega) (by omega))
    have hr02 := hJ.r0.same (kk _ (by omega) (by omega))
    have hr12 := hJ.r1.same (kk _ (by omega) (by omega))
    have hown2 : Own pModF 50 (w.heap.size + 7) (w.heap.size + 7 ≤ ·) W2 (.slice Ao pre.length co) (pre.map (·.1)) := hown.keepG (fun k hk hG => kk k hk (by
      rcases hG with hG | hG
      · omega
      · have := (hown.lt k hG).1; omega)) (by omega)
    have hnft : ∀ k, ¬ sFoot w.heap.size V k → k ≠ w.heap.size + 6 ∧ some k ≠ (Value.slice Ao pre.length co).ownBlock := fun k hf => ⟨fun e => hf (.inr (.inl e)), fun e => hf (.inr (.inr ⟨_, by rw [hbo.cell]; rfl, e.symm⟩))⟩
    have hRm : pModF.R (fun k => (W1.heap.size ≤ k ∧ k < V.heap.size) ∧ ¬ sFoot w.heap.size V k) W2 (Value.agg #[.int .u8 m.name, .slice D m.args.length d]).cells.toList m :=
      ⟨D, d, rfl, hnm, hya.sl.keep fun k hk => kk k hk.1.2 (hnft k hk.2).1, fun hne b o hD => by
        obtain ⟨b', o', _, _, hA', hFq, _⟩ := hya.sl.getI (i := 0) (List.length_pos_iff.2 hne)
        rw [hD] at hA'; cases hA'
        exact unf_same (hya.unf hne b o hD) (kk b hFq.1.2 (hnft b hFq.2).1)⟩
    have hF2 : ∀ k, ((W1.heap.size ≤ k ∧ k < V.heap.size) ∧ ¬ sFoot w.heap.size V k) → w.heap.size + 7 ≤ k ∧ k < W2.heap.size ∧ some k ≠ (Value.slice Ao pre.length co).ownBlock := fun k hk => ⟨by omega, by omega, (hnft k hk.2).2⟩
    have hln2 : (pre.map (·.1)).length + 1 = pre.length + 1 := by simp
    have hrm2 : Room (pre.map (·.1)).length := room_of (by rw [List.length_map]; omega)
    have hba2 : w.heap.size + 7 ≤ W2.heap.size := by omega
    have x0 := hbm2.cell 0
    have x1 := hbm2.cell 1
    have y0 := hbo2.cell 0
    have f0 := hbo2.free 0
    have z0 := hr02.cell 0
    have z1 := hr12.cell 0
    have g0 := hr02.free 0
    have g1 := hr12.free 0
    have hne : w.heap.size + 1 ≠ w.heap.size := by omega
    have HJ := Lib.hid hJ
    have HR := Lib.hid hR
    have Hbo := Lib.hid hbo; clear hbo
    have Hown := Lib.hid hown; clear hown
    have Hya := Lib.hid hya; clear hya
    have Hlp2 := Lib.hid hlp2; clear hlp2
    have Hbm2 := Lib.hid hbm2; clear hbm2
    have Hbo2 := Lib.hid hbo2; clear hbo2
    have Hr02 := Lib.hid hr02; clear hr02
    have Hr12 := Lib.hid hr12; clear hr12
    have Hown2 := Lib.hid hown2; clear hown2
    have HRm := Lib.hid hRm; clear hRm
    have HF2 := Lib.hid hF2; clear hF2
    have Hln2 := Lib.hid hln2; clear hln2
    have Hrm2 := Lib.hid hrm2; clear hrm2
    have HW2 := Lib.hid hW2; clear hW2
    have Hrb := Lib.hid hrb; clear hrb
    have Hbeg := Lib.hid hbeg; clear hbeg
    have Kk := Lib.hid kk; clear kk
    clear hR hpre hnft
    rw [hrec]
    dsimp only
    simp only [Nat.add_assoc, Nat.reduceAdd]
    clear hrs1 hms1 hJ0 hold hnf hrec hrecr hJ hlp hdf k0 k1 k2 k3 k4
    gi_wp2
    refine ⟨W2, Hbeg.out, ?_⟩
    cases ok
    · gi_wp2
      have hl3 : ((W2.setCell ⟨w.heap.size, 0, none⟩ (.slice none 0 0)).setCell ⟨w.heap.size + 1, 0, none⟩ (.int .i64 16)).heap[w.heap.size + 6]? = some (.loop { rec .ready none with state := .busy }) :=
        (Below.heap_setCell _ _ _ _ (by show w.heap.size + 6 ≠ w.heap.size + 1; omega)).trans ((Below.heap_setCell _ _ _ _ (by show w.heap.size + 6 ≠ w.heap.size; omega)).trans Hlp2.out)
      have hst := sStop _ _ (m := m) HJ.out HW2.out
      rw [← Hrb.out] at hst
      exact ⟨_, _, run_endRound (P := Tryd.prog) (some .ret) hl3, HR.out _ _ (.inr ⟨rfl, hst⟩)⟩
    · gi_wp2_with ((with_reducible show wpListIn _ _ _ _ _ (Oper.mk (some 18) _ _ _ _ _ :: _) _ _); refine wpListIn_pushG (E := pModF) (xs := pre.map (·.1)) (v := .slice Ao pre.length co) (base := w.heap.size + 7) (G := (w.heap.size + 7 ≤ ·)) 22 50 (.agg #[.int .u8 0, .slice none 0 0]) 32 18 (.tmp 16) (.tmp 17) rfl rfl rfl rfl rfl Tryd.underlying22 info_mod rfl (by decide) (fun _ => rfl) (fun _ => rfl) Hown2.out (.agg #[.int .u8 m.name, .slice D m.args.length d]) rfl m _ HRm.out HF2.out (pre.length + 1) Hln2.out Hrm2.out ⟨by decide, by decide⟩ hba2 ?_; intro A3 c3 w3 hown3 hg3; have hbo3 := Hbo2.out.same (hg3.out.oth _ (by omega) (fun e => by have := (Hown2.out.lt _ e.symm).1; omega)); have y3 := hbo3.cell 0; have f3 := hbo3.free 0; have Hbo3 := Lib.hid hbo3; clear hbo3)
      have hl3 : (w3.setCell ⟨w.heap.size + 2, 0, none⟩ (.slice A3 (pre.length + 1) c3)).heap[w.heap.size + 6]? = some (.loop { rec .ready none with state := .busy }) :=
        (Below.heap_setCell _ _ _ _ (by show w.heap.size + 6 ≠ w.heap.size + 2; omega)).trans ((hg3.out.oth _ (by omega) (fun e => by have := (Hown2.out.lt _ e.symm).1; omega)).trans Hlp2.out)
      have hst := sRound _ _ (m := m) HJ.out HW2.out Hbo.out Hown.out hown3.out hg3.out
      rw [← Hrb.out] at hst
      exact ⟨_, _, run_endRound (P := Tryd.prog) none hl3, HR.out _ _ (.inl ⟨rfl, hst⟩)⟩
end Go.Proofs.YtckffdaomjbglaaDoor
