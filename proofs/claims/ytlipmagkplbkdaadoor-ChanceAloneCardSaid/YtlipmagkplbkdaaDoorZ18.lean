/- Texts of the proof that the statement of ChanceAlone holds, several in one. -/
import Derived.Test.YtlipmagkplbkdaaDoorZ7
import Derived.Test.YtlipmagkplbkdaaDoorZ5
import Derived.Test.YtlipmagkplbkdaaDoorZ9
import Derived.Test.YtlipmagkplbkdaaDoorZ6
import Derived.Test.YtlipmagkplbkdaaDoorZ16
import Derived.Test.YtlipmagkplbkdaaDoorZ14
import Derived.Test.YtlipmagkplbkdaaDoorZ8
set_option linter.unusedVariables false
set_option linter.unusedSimpArgs false
set_option linter.unusedSectionVars false
set_option maxRecDepth 100000
set_option maxHeartbeats 8000000
namespace Go.Proofs.YtlipmagkplbkdaaDoor
section
open Go Go.Conc Go.RowKit
noncomputable def itB : Code := match Tryd.f88.body with | some c => c | none => .skip
theorem itBody : Tryd.f88.body = some itB := by kernel_rfl
noncomputable def itR0 : Code := match itB with | .seq a _ => a | _ => .skip
noncomputable def itL1 : Code := match itB with | .seq _ (.block _ (.loop a)) => a | _ => .skip
noncomputable def itR1 : Code := match itL1 with | .seq a _ => a | _ => .skip
noncomputable def itB1 : Code := match itL1 with | .seq _ (.seq _ (.seq (.block _ a) _)) => a | _ => .skip
noncomputable def itR19 : Code := match itL1 with | .seq _ (.seq _ (.seq _ a)) => a | _ => .skip
noncomputable def itR2 : Code := match itB1 with | .seq a _ => a | _ => .skip
noncomputable def itR3 : Code := match itB1 with | .seq _ (.seq a _) => a | _ => .skip
noncomputable def itR4 : Code := match itB1 with | .seq _ (.seq _ (.seq (.seq a _) _)) => a | _ => .skip
noncomputable def itO5 : Array Oper := match itB1 with | .seq _ (.seq _ (.seq (.seq _ (.cond _ (.seq (.seq (.region _ a _) _) _) _)) _)) => a | _ => #[]
noncomputable def itR6 : Code := match itB1 with | .seq _ (.seq _ (.seq _ (.seq a _))) => a | _ => .skip
noncomputable def itL2 : Code := match itB1 with | .seq _ (.seq _ (.seq _ (.seq _ (.block _ (.loop a))))) => a | _ => .skip
noncomputable def itR7 : Code := match itL2 with | .seq a _ => a | _ => .skip
noncomputable def itB2 : Code := match itL2 with | .seq _ (.seq _ (.seq (.block _ a) _)) => a | _ => .skip
noncomputable def itR18 : Code := match itL2 with | .seq _ (.seq _ (.seq _ a)) => a | _ => .skip
noncomputable def itR8 : Code := match itB2 with | .seq a _ => a | _ => .skip
noncomputable def itR9 : Code := match itB2 with | .seq _ (.seq a _) => a | _ => .skip
noncomputable def itP3 : Code := match itB2 with | .seq _ (.seq _ (.seq a _)) => a | _ => .skip
noncomputable def itO17 : Array Oper := match itB2 with | .seq _ (.seq _ (.seq _ (.seq (.region _ a _) _))) => a | _ => #[]
theorem itB_eq : itB = .seq itR0 (.block 0 (.loop itL1)) := by kernel_rfl
theorem itL1_eq : itL1 = .seq itR1 (.seq (.cond (.tmp 17) .skip (.exit 0)) (.seq (.block 1 itB1) itR19)) := by kernel_rfl
theorem itB1_eq : itB1 = .seq itR2 (.seq itR3 (.seq (.seq itR4 (.cond (.tmp 24) (.seq (.seq (.region 5 itO5 true) (.cond (.tmp 33) .ret .skip)) (.exit 1)) .skip)) (.seq itR6 (.block 2 (.loop itL2))))) := by kernel_rfl
theorem itL2_eq : itL2 = .seq itR7 (.seq (.cond (.tmp 41) .skip (.exit 2)) (.seq (.block 3 itB2) itR18)) := by kernel_rfl
theorem itB2_eq : itB2 = .seq itR8 (.seq itR9 (.seq itP3 (.seq (.region 17 itO17 false) (.cond (.tmp 78) .ret .skip)))) := by kernel_rfl
theorem itokR0 : okC Tryd.prog gR sR itR0 = true := by kernel_rfl
theorem itokR2 : okC Tryd.prog gR sR itR2 = true := by kernel_rfl
theorem itokR3 : okC Tryd.prog gR sR itR3 = true := by kernel_rfl
theorem itokR6 : okC Tryd.prog gR sR itR6 = true := by kernel_rfl
theorem itokR8 : okC Tryd.prog gR sR itR8 = true := by kernel_rfl
theorem itokR9 : okC Tryd.prog gR sR itR9 = true := by kernel_rfl
theorem itokP3 : okC Tryd.prog gR sR itP3 = true := by kernel_rfl
theorem itz17 : List.range itO17.size = [0, 1, 2, 3, 4] := by kernel_rfl
def bIt : Frame := { (default : Frame) with fn := 88, kind := .normal }
theorem bIt_fn : ∃ fn, Tryd.prog.funcs[bIt.fn]? = some fn := ⟨Tryd.f88, Tryd.func88⟩
noncomputable def rstB : Code := match Tryd.f60.body with | some c => c | none => .skip
theorem rstBody : Tryd.f60.body = some rstB := by kernel_rfl
noncomputable def rstR0 : Code := match rstB with | .seq a _ => a | _ => .skip
noncomputable def rstR1 : Code := match rstB with | .seq _ (.seq a _) => a | _ => .skip
noncomputable def rstR2 : Code := match rstB with | .seq _ (.seq _ (.seq (.seq a _) _)) => a | _ => .skip
noncomputable def rstAs : Code := match rstB with | .seq _ (.seq _ (.seq (.seq _ (.block _ (.rangeFunc _ _ a _))) _)) => a | _ => .skip
noncomputable def rstBd : Code := match rstB with | .seq _ (.seq _ (.seq (.seq _ (.block _ (.rangeFunc _ _ _ a))) _)) => a | _ => .skip
noncomputable def rstT : Code := match rstB with | .seq _ (.seq _ (.seq _ a)) => a | _ => .skip
noncomputable def rstO3 : Array Oper := match rstAs with | .seq (.region _ a _) _ => a | _ => #[]
noncomputable def rstO4 : Array Oper := match rstAs with | .seq _ (.region _ a _) => a | _ => #[]
noncomputable def rstO5 : Array Oper := match rstBd with | .block _ (.seq (.seq (.region _ a _) _) _) => a | _ => #[]
noncomputable def rstO6 : Array Oper := match rstBd with | .block _ (.seq (.seq _ (.cond _ (.seq (.region _ a _) _) _)) _) => a | _ => #[]
noncomputable def rstO7 : Array Oper := match rstBd with | .block _ (.seq _ (.region _ a _)) => a | _ => #[]
noncomputable def rstO8 : Array Oper := match rstT with | .seq (.seq (.region _ a _) _) _ => a | _ => #[]
noncomputable def rstO9 : Array Oper := match rstT with | .seq (.seq _ (.cond _ (.seq (.region _ a _) _) _)) _ => a | _ => #[]
noncomputable def rstO10 : Array Oper := match rstT with | .seq _ (.seq (.region _ a _) _) => a | _ => #[]
theorem rstB_eq : rstB = .seq rstR0 (.seq rstR1 (.seq (.seq rstR2 (.block 0 (.rangeFunc (.tmp 11) #[12, 13] rstAs rstBd))) rstT)) := by kernel_rfl
theorem rstAs_eq : rstAs = .seq (.region 3 rstO3 false) (.region 4 rstO4 false) := by kernel_rfl
theorem rstBd_eq : rstBd = .block 1 (.seq (.seq (.region 5 rstO5 false) (.cond (.tmp 15) (.seq (.region 6 rstO6 false) .ret) .skip)) (.region 7 rstO7 false)) := by kernel_rfl
theorem rstT_eq : rstT = .seq (.seq (.region 8 rstO8 false) (.cond (.tmp 22) (.seq (.region 9 rstO9 false) .ret) .skip)) (.seq (.region 10 rstO10 false) .ret) := by kernel_rfl
theorem rstokR0 : okC Tryd.prog gR sR rstR0 = true := by kernel_rfl
theorem rstokR1 : okC Tryd.prog gR sR rstR1 = true := by kernel_rfl
theorem rstokR2 : okC Tryd.prog gR sR rstR2 = true := by kernel_rfl
theorem rstq3 : (rstO3.all fun o => okOp Tryd.prog (okX gR sR) sR o.op) = true := by kernel_rfl
theorem rstq4 : (rstO4.all fun o => okOp Tryd.prog (okX gR sR) sR o.op) = true := by kernel_rfl
theorem rstq5 : (rstO5.all fun o => okOp Tryd.prog (okX gR sR) sR o.op) = true := by kernel_rfl
theorem rstq6 : (rstO6.all fun o => okOp Tryd.prog (okX gR sR) sR o.op) = true := by kernel_rfl
theorem rstq7 : (rstO7.all fun o => okOp Tryd.prog (okX gR sR) sR o.op) = true := by kernel_rfl
theorem rstq8 : (rstO8.all fun o => okOp Tryd.prog (okX gR sR) sR o.op) = true := by kernel_rfl
theorem rstq9 : (rstO9.all fun o => okOp Tryd.prog (okX gR sR) sR o.op) = true := by kernel_rfl
theorem rstq10 : (rstO10.all fun o => okOp Tryd.prog (okX gR sR) sR o.op) = true := by kernel_rfl
end
section
open Go Go.Conc Go.RowKit
theorem Gw.of_below {w w' : World} (h : Below w.heap.size w w') : Gw w w' := ⟨h.size, h.block⟩
structure KptL (foot : World -> Nat -> Prop) (W W' : World) : Prop where
 size : W.heap.size <= W'.heap.size
 same : ∀ k, k < W.heap.size -> ¬ foot W k -> W'.heap[k]? = W.heap[k]? /\ ¬ foot W' k
theorem KptL.refl {foot : World -> Nat -> Prop} (W : World) : KptL foot W W := ⟨Nat.le_refl _, fun _ _ h => ⟨rfl, h⟩⟩
theorem KptL.trans {foot : World -> Nat -> Prop} {A B C : World} (h : KptL foot A B) (k : KptL foot B C) : KptL foot A C :=
 ⟨Nat.le_trans h.size k.size, fun i hi hf => by
  have h1 := h.same i hi hf
  have h2 := k.same i (Nat.lt_of_lt_of_le hi h.size) h1.2
  exact ⟨h2.1.trans h1.1, h2.2⟩⟩
structure BearsL (foot : World -> Nat -> Prop) (J : List (Mod × Bool) -> World -> Prop) : Prop where
 keep : ∀ pre W W', J pre W -> Gw W W' -> J pre W'
 fewer : ∀ pre W W', J pre W -> Gw W W' -> ∀ k, foot W' k -> foot W k
 small : ∀ pre W k, J pre W -> foot W k -> k < W.heap.size
theorem BearsL.kpt {foot : World -> Nat -> Prop} {J : List (Mod × Bool) -> World -> Prop} {pre : List (Mod × Bool)} {W W' : World} (h : BearsL foot J) (hJ : J pre W) (hb : Gw W W') : KptL foot W W' :=
 ⟨hb.1, fun k hk hf => ⟨hb.2 k hk, fun he => hf (h.fewer _ _ _ hJ hb k he)⟩⟩
theorem SlAt.kptL {α : Type} {E : Rp α} {foot : World -> Nat -> Prop} {W W' : World} {A : Option Addr} {c : Nat} {xs : List α} (h : SlAt E (fun k => k < W.heap.size /\ ¬ foot W k) W A c xs) (hk : KptL foot W W') :
  SlAt E (fun k => k < W'.heap.size /\ ¬ foot W' k) W' A c xs :=
 (h.keep fun k hf => (hk.same k hf.1 hf.2).1).wide fun k hf => ⟨Nat.lt_of_lt_of_le hf.1 hk.size, (hk.same k hf.1 hf.2).2⟩
theorem SlAt.oldL {α : Type} {E : Rp α} {foot : World -> Nat -> Prop} {W : World} {A : Option Addr} {c : Nat} {xs : List α} (h : SlAt E (fun k => k < W.heap.size /\ ¬ foot W k) W A c xs) : SlAt E (Old W) W A c xs := h.wide fun _ hf => hf.1
def YArL (foot : World -> Nat -> Prop) (W0 V : World) (D : Option Addr) (d : Nat) (args : List Int) : Prop := SlAt (pI .i64) (fun k => (W0.heap.size <= k /\ k < V.heap.size) /\ ¬ foot V k) V D d args
theorem own_yarL {foot : World -> Nat -> Prop} {J : List (Mod × Bool) -> World -> Prop} {pre : List (Mod × Bool)} {W0 w w' : World} {e : TypeId} {D : Option Addr} {n d base : Nat} {G : Nat -> Prop} {xs : List Int} (hB : BearsL foot J) (hJ : J pre w)
  (hb : Gw w w') (ho : Own (pI .i64) e base G w' (.slice D n d) xs) (h1 : w.heap.size <= base) (h0 : W0.heap.size <= w.heap.size) : YArL foot W0 w' D d xs := by
 obtain ⟨A, c, he, hs⟩ := (ho.flat (pI_flat _) (G' := (base <= ·))).fresh
 injection he with e1 e2 e3
 subst e1 e3
 refine hs.wide fun k hk => ⟨⟨by omega, hk.2⟩, fun hf => ?_⟩
 have h2 := hB.fewer _ _ _ hJ hb k hf
 have h3 := hB.small _ _ _ hJ h2
 omega
def sFootL (z : Nat) (W : World) (k : Nat) : Prop := k = z + 2 ∨ ∃ v, W.cell? ⟨z + 2, 0, none⟩ = some v /\ v.ownBlock = some k
structure SV (w : World) (pre : List (Mod × Bool)) (W : World) : Prop where
 ow : ∃ Ao co, Blk W (w.heap.size + 2) 23 #[.slice Ao pre.length co] /\ Own pMod 49 (w.heap.size + 5) (w.heap.size + 5 <= ·) W (.slice Ao pre.length co) (pre.map (·.1))
 ok : ∀ x ∈ pre, x.2 = true
 r0 : Blk W w.heap.size 23 #[.slice none 0 0]
 r1 : Blk W (w.heap.size + 1) 27 #[.int .i64 0]
 gw : Gw w W
 sz : w.heap.size + 5 <= W.heap.size
structure SVx (w : World) (pre : List (Mod × Bool)) (W : World) : Prop where
 no : ∃ x ∈ pre, x.2 = false
 r0 : Blk W w.heap.size 23 #[.slice none 0 0]
 r1 : Blk W (w.heap.size + 1) 27 #[.int .i64 16]
 gw : Gw w W
 sz : w.heap.size + 5 <= W.heap.size
theorem svBears (w : World) : BearsL (sFootL w.heap.size) (SV w) where
 keep pre W W' h hb := by
  obtain ⟨Ao, co, h1, h2⟩ := h.ow
  exact ⟨⟨Ao, co, h1.same (hb.2 _ h1.lt), h2.keep hb.2 hb.1⟩, h.ok, h.r0.same (hb.2 _ h.r0.lt), h.r1.same (hb.2 _ h.r1.lt), h.gw.trans hb, Nat.le_trans h.sz hb.1⟩
 fewer pre W W' h hb k hf := by
  rcases hf with hf | ⟨v, h1, h2⟩
  ·exact .inl hf
  ·refine .inr ⟨v, ?_, h2⟩
   rw [<- h1]
   exact (World.cell?_of_block (hb.2 _ (by have := h.sz; show w.heap.size + 2 < _; omega))).symm
 small pre W k h hf := by
  rcases hf with hf | ⟨v, h1, h2⟩
  ·have := h.sz; omega
  ·obtain ⟨Ao, co, h3, h4⟩ := h.ow
   rw [h3.cell] at h1
   simp at h1
   subst h1
   exact (h4.lt k h2).2
theorem sRoundL {w : World} {pre : List (Mod × Bool)} {V W2 w3 : World} {m : Mod} {Ao A3 : Option Addr} {co c3 : Nat} (o : Obj) (hJ : SV w pre V)
  (hW2 : W2.heap = (V.alloc o).heap) (hb2 : Blk V (w.heap.size + 2) 23 #[.slice Ao pre.length co]) (ho : Own pMod 49 (w.heap.size + 5) (w.heap.size + 5 <= ·) V (.slice Ao pre.length co) (pre.map (·.1)))
  (h3 : Own pMod 49 (w.heap.size + 5) (w.heap.size + 5 <= ·) w3 (.slice A3 (pre.length + 1) c3) (pre.map (·.1) ++ [m])) (hg : Grew (w.heap.size + 5) W2 w3 (.slice Ao pre.length co) (.slice A3 (pre.length + 1) c3)) :
  SV w (pre ++ [(m, true)]) (w3.setCell ⟨w.heap.size + 2, 0, none⟩ (.slice A3 (pre.length + 1) c3)) /\ KptL (sFootL w.heap.size) V (w3.setCell ⟨w.heap.size + 2, 0, none⟩ (.slice A3 (pre.length + 1) c3)) := by
 have hsz := hJ.sz
 have hzW : V.heap.size + 1 = W2.heap.size := by rw [hW2]; simp
 have hz3 := hg.bel.size
 have hown := ho.lt
 have k2 : ∀ k, k < V.heap.size -> W2.heap[k]? = V.heap[k]? := fun k hk => by
  rw [hW2]; exact Below.heap_alloc _ _ _ hk
 have k3 : ∀ k, k < V.heap.size -> some k ≠ (Value.slice Ao pre.length co).ownBlock -> w3.heap[k]? = V.heap[k]? := fun k hk h => (hg.oth k (by omega) h).trans (k2 k hk)
 generalize hV' : w3.setCell ⟨w.heap.size + 2, 0, none⟩ (.slice A3 (pre.length + 1) c3) = V'
 have hs4 : V'.heap.size = w3.heap.size := by rw [<- hV']; simp [World.setCell]
 have k4 : ∀ k, k ≠ w.heap.size + 2 -> V'.heap[k]? = w3.heap[k]? := fun k h2 => by
  rw [<- hV']; exact Below.heap_setCell _ _ _ _ h2
 have k5 : ∀ k, k < V.heap.size -> k ≠ w.heap.size + 2 -> some k ≠ (Value.slice Ao pre.length co).ownBlock -> V'.heap[k]? = V.heap[k]? := fun k h1 h3 h4 => (k4 k h3).trans (k3 k h1 h4)
 have hnb : ∀ k, k < w.heap.size + 5 -> some k ≠ (Value.slice Ao pre.length co).ownBlock := fun k hk he => by have := (hown k he.symm).1; omega
 have hbk : Blk V' (w.heap.size + 2) 23 #[.slice A3 (pre.length + 1) c3] := by
  have h1 := (hb2.same (k3 _ (by omega) (hnb _ (by omega)))).set 0 (.slice A3 (pre.length + 1) c3)
  unfold Blk at h1 ⊢
  rw [<- hV']
  simpa using h1
 refine ⟨⟨⟨A3, c3, ?_, ?_⟩, ?_, ?_, ?_, ?_, by omega⟩, ⟨by omega, ?_⟩⟩
 ·rw [List.length_append]; exact hbk
 ·rw [List.length_append, List.map_append]
  refine h3.keepG (fun k hk hG => k4 k ?_) (by omega)
  rcases hG with hG | hG
  ·omega
  ·have := (h3.lt k hG).1; omega
 ·intro x hx
  rcases List.mem_append.1 hx with hx | hx
  ·exact hJ.ok x hx
  ·simp at hx; rw [hx]
 ·exact hJ.r0.same (k5 _ (by omega) (by omega) (hnb _ (by omega)))
 ·exact hJ.r1.same (k5 _ (by omega) (by omega) (hnb _ (by omega)))
 ·exact ⟨by have := hJ.gw.1; omega, fun k hk => (k5 k (by omega) (by omega) (hnb k (by omega))).trans (hJ.gw.2 k hk)⟩
 ·intro k hk hf
  have n1 : k ≠ w.heap.size + 2 := fun e => hf (.inl e)
  have n3 : some k ≠ (Value.slice Ao pre.length co).ownBlock := fun e => hf (.inr ⟨_, by rw [hb2.cell]; rfl, e.symm⟩)
  refine ⟨k5 k hk n1 n3, ?_⟩
  rintro (h | ⟨v, h1, h2⟩)
  ·exact n1 h
  ·rw [hbk.cell] at h1
   simp at h1
   subst h1
   rcases hg.blk with h4 | ⟨j, h4, h5⟩
   ·rw [h4] at h2; exact n3 h2.symm
   ·rw [h4] at h2; injection h2 with h2; omega
theorem sStopL {w : World} {pre : List (Mod × Bool)} {V W2 : World} {m : Mod} (o : Obj) (hJ : SV w pre V) (hW2 : W2.heap = (V.alloc o).heap) :
  SVx w (pre ++ [(m, false)]) ((W2.setCell ⟨w.heap.size, 0, none⟩ (.slice none 0 0)).setCell ⟨w.heap.size + 1, 0, none⟩ (.int .i64 16)) := by
 have hsz := hJ.sz
 have hzW : V.heap.size + 1 = W2.heap.size := by rw [hW2]; simp
 have k2 : ∀ k, k < V.heap.size -> W2.heap[k]? = V.heap[k]? := fun k hk => by
  rw [hW2]; exact Below.heap_alloc _ _ _ hk
 generalize hV' : (W2.setCell ⟨w.heap.size, 0, none⟩ (.slice none 0 0)).setCell ⟨w.heap.size + 1, 0, none⟩ (.int .i64 16) = V'
 have hs4 : V'.heap.size = W2.heap.size := by rw [<- hV']; simp [World.setCell]
 have k4 : ∀ k, k ≠ w.heap.size -> k ≠ w.heap.size + 1 -> V'.heap[k]? = W2.heap[k]? := fun k h2 h3 => by
  rw [<- hV']; exact (Below.heap_setCell _ _ _ _ h3).trans (Below.heap_setCell _ _ _ _ h2)
 refine ⟨⟨(m, false), by simp, rfl⟩, ?_, ?_, ?_, by omega⟩
 ·have h1 := (hJ.r0.same (k2 _ (by omega))).set 0 (.slice none 0 0)
  unfold Blk at h1 ⊢
  rw [<- hV', Below.heap_setCell _ _ _ _ (by show w.heap.size ≠ w.heap.size + 1; omega)]
  simpa using h1
 ·have h1 : Blk (W2.setCell ⟨w.heap.size, 0, none⟩ (.slice none 0 0)) (w.heap.size + 1) 27 #[.int .i64 0] := (hJ.r1.same (k2 _ (by omega))).same (Below.heap_setCell _ _ _ _ (by show w.heap.size + 1 ≠ w.heap.size; omega))
  have h2 := h1.set 0 (.int .i64 16)
  unfold Blk at h2 ⊢
  rw [<- hV']
  simpa using h2
 ·exact ⟨by have := hJ.gw.1; omega, fun k hk => (k4 k (by omega) (by omega)).trans ((k2 k (by omega)).trans (hJ.gw.2 k hk))⟩
abbrev LT (F : Value -> Prop) (ch : Option Nat) : Option LRec -> Sit := LS Tryd.prog SR gR sR (KM Tryd.prog SR gR sR F ch)
def bRst : Frame := { (default : Frame) with fn := 60, kind := .normal }
theorem bRst_fn : ∃ fn, Tryd.prog.funcs[bRst.fn]? = some fn := ⟨Tryd.f60, Tryd.func60⟩
def rstTm (z : Nat) (x0 x1 x12 x13 : Value) : Array Value := #[x0, x1, undef, undef, .pointer (some ⟨z, 0, none⟩), .pointer (some ⟨z + 1, 0, none⟩), .pointer (some ⟨z + 2, 0, none⟩), undef, undef, x0, x1, .func (.func 88) #[] #[.pointer (some ⟨z + 4, 0, none⟩), .pointer (some ⟨z + 3, 0, none⟩)], x12, x13, undef, undef, undef, undef, undef, undef, undef, undef, undef, undef]
theorem rstTm_set (z : Nat) (x0 x1 x y : Value) : setPs #[12, 13] #[x, y] (rstTm z x0 x1 undef undef) = rstTm z x0 x1 x y := by
 unfold setPs
 rw [<- Array.foldl_toList, Array.toList_zip]
 rfl
noncomputable def rstQ (z : Nat) (x0 x1 : Value) (l r : Nat) : LRec := ⟨60, rstTm z x0 x1 undef undef, #[12, 13], rstAs, rstBd, l, r, .ready, none⟩
noncomputable def rstQx (z : Nat) (x0 x1 : Value) (l r : Nat) : LRec := { rstQ z x0 x1 l r with st := .done, pend := some .ret }
theorem rB_fn (l : Nat) : ∃ fn, Tryd.prog.funcs[(rB l 60).fn]? = some fn := ⟨Tryd.f60, Tryd.func60⟩
theorem info_modS : (Tryd.prog.info? 49).map (fun i => (i.zero, i.size, i.bytes)) = some (some (.agg #[.int .u8 0, .slice none 0 0]), 2, 32) := by kernel_rfl
theorem round_LS {F : Value -> Prop} {ch : Option Nat} {cs : List Frame} {w V : World} {x0 x1 : Value} {l r : Nat} {c0 : Frame} {a0 : Act} {ops : Array Oper} {i : Nat} {rr : List Nat} {o : Oper} {k : List Item} {pre : List (Mod × Bool)} {m : Mod} {D : Option Addr} {d : Nat} {W0 : World} (ok : Bool) (ho : ops[i]? = some o) (hJ : SV w pre V) (hpr : pre.length <= 1000000) (hnm : Fits .u8 m.name) (hW0 : w.heap.size + 5 <= W0.heap.size)
  (hya : YArL (sFootL w.heap.size) W0 V D d m.args)
  (kt : ok = true -> ∀ V', SV w (pre ++ [(m, true)]) V' -> KptL (sFootL w.heap.size) V V' -> LT F ch (some (rstQ w.heap.size x0 x1 l r)) (c0.at (a0.put o.dst (.bool true)) (.inRegion ops rr :: k)) cs V')
  (kf : ok = false -> ∀ V', SVx w (pre ++ [(m, false)]) V' -> LT F ch (some (rstQx w.heap.size x0 x1 l r)) (c0.at (a0.put o.dst (.bool false)) (.inRegion ops rr :: k)) cs V') :
  LT F ch (some (rstQ w.heap.size x0 x1 l r)) (Frame.round l 60 (setPs #[12, 13] #[.agg #[.int .u8 m.name, .slice D m.args.length d], .bool ok] (rstTm w.heap.size x0 x1 undef undef)) rstAs rstBd .normal) (c0.at a0 (.inRegion ops (i :: rr) :: k) :: cs) V := by
 have hXX : ∀ Λ, WalkL Tryd.prog SR gR sR (LT F ch Λ) := fun Λ => KM.walk ctxR
 have hX := hXX (some (rstQ w.heap.size x0 x1 l r))
 rw [round_eq, rstTm_set, rstAs_eq]
 refine hX.seqR (hX.reg ctxR rfl (rB_fn l) rstq3 fun τ t => ?_)
 dsimp only [rstO3, rstAs, rstB, rstTm, Tryd.f60]
 go_wp2
 obtain ⟨V1, hV1⟩ : ∃ V1, V1 = V.alloc (.cells #[.int .u8 m.name, .slice D m.args.length d] 49) := ⟨_, rfl⟩
 show LT F ch _ ((rB l 60).atR ⟨_, []⟩ _) _ (aT2 (V.alloc (.cells #[.int .u8 m.name, .slice D m.args.length d] 49)) τ t)
 refine hX.at2 _ _ _ τ t ?_
 rw [<- hV1]
 have HV1 := HH1 hV1
 clear hV1
 show LT F ch _ ((rB l 60).atR ⟨#[x0, x1, undef, undef, .pointer (some ⟨w.heap.size, 0, none⟩), .pointer (some ⟨w.heap.size + 1, 0, none⟩), .pointer (some ⟨w.heap.size + 2, 0, none⟩), .pointer (some ⟨V.heap.size, 0, none⟩), undef, x0, x1, .func (.func 88) #[] #[.pointer (some ⟨w.heap.size + 4, 0, none⟩), .pointer (some ⟨w.heap.size + 3, 0, none⟩)], .agg #[.int .u8 m.name, .slice D m.args.length d], .bool ok, undef, undef, undef, undef, undef, undef, undef, undef, undef, undef], []⟩ _) _ V1
 clear τ t
 refine hX.reg ctxR rfl (rB_fn l) rstq4 fun τ t => ?_
 dsimp only [rstO4, rstAs, rstB, Tryd.f60]
 go_wp2
 show LT F ch _ ((rB l 60).atR ⟨_, []⟩ _) _ (aT2 V1 τ t)
 refine hX.at2 _ _ _ τ t ?_
 clear τ t
 refine LS.beg rfl rfl ?_
 have hY := hXX (some { rstQ w.heap.size x0 x1 l r with st := .busy })
 rw [rstBd_eq]
 refine hY.blockR (hY.seqR (hY.seqR (hY.reg ctxR rfl (rB_fn l) rstq5 fun τ t => ?_)))
 dsimp only [rstO5, rstBd, rstB, Tryd.f60]
 go_wp2
 show LT F ch _ ((rB l 60).atR ⟨_, []⟩ _) _ (aT2 V1 τ t)
 refine hY.at2 _ _ _ τ t ?_
 clear τ t
 have hV1 := HV1.out
 have hz1 : V1.heap.size = V.heap.size + 1 := by rw [hV1]; simp
 have kk : ∀ k, k < V.heap.size -> V1.heap[k]? = V.heap[k]? := fun k hk => by rw [hV1]; exact Below.heap_alloc _ _ _ hk
 have hVz := hJ.sz
 obtain ⟨Ao, co, hbo, hown⟩ := hJ.ow
 have hbm1 : Blk V1 V.heap.size 49 #[.int .u8 m.name, .slice D m.args.length d] := by unfold Blk; rw [hV1]; exact Blk.new _ _ _
 have hbo1 := hbo.same (kk _ (by omega))
 have hr01 := hJ.r0.same (kk _ (by omega))
 have hr11 := hJ.r1.same (kk _ (by omega))
 have hne : w.heap.size + 1 ≠ w.heap.size := by omega
 refine hY.condR (t := !ok) rfl rfl ?_
 cases ok
 ·
  show LT F ch _ ((rB l 60).atR _ (.code (.seq (.region 6 rstO6 false) .ret) :: _)) _ V1
  refine hY.seqR (hY.reg ctxR rfl (rB_fn l) rstq6 fun τ t => ?_)
  have z0 : (aT2 V1 τ t).cell? ⟨w.heap.size, 0, none⟩ = some (.slice none 0 0) := hr01.cell 0
  have z1 : (aT2 V1 τ t).cell? ⟨w.heap.size + 1, 0, none⟩ = some (.int .i64 0) := hr11.cell 0
  have g0 : (aT2 V1 τ t).frozen? ⟨w.heap.size, 0, none⟩ = false := hr01.free 0
  have g1 : (aT2 V1 τ t).frozen? ⟨w.heap.size + 1, 0, none⟩ = false := hr11.free 0
  have hst := sStopL (m := m) _ hJ (show V1.heap = _ from congrArg World.heap hV1)
  have Hk := HH1 (kf rfl)
  have Hst := HH1 hst
  clear kt kf hJ hya hbo hown hbm1 hbo1 hr01 hr11 kk hV1 hst
  dsimp only [rstO6, rstBd, rstB, Tryd.f60]
  go_wp2
  show LT F ch _ ((rB l 60).atR ⟨_, []⟩ _) _ (aT2 ((V1.setCell ⟨w.heap.size, 0, none⟩ (.slice none 0 0)).setCell ⟨w.heap.size + 1, 0, none⟩ (.int .i64 16)) τ t)
  refine hY.at2 _ _ _ τ t ?_
  exact LS.endR rfl rfl ho (Hk.out _ Hst.out)
 ·
  show LT F ch _ ((rB l 60).atR _ (.code .skip :: _)) _ V1
  refine hY.skipR (hY.reg ctxR rfl (rB_fn l) rstq7 fun τ t => ?_)
  have hown1 : Own pMod 49 (w.heap.size + 5) (w.heap.size + 5 <= ·) V1 (.slice Ao pre.length co) (pre.map (·.1)) := hown.keep (fun k hk => kk k hk) (by omega)
  have hbT : Blk (aT2 V1 τ t) (w.heap.size + 2) 23 #[.slice Ao pre.length co] := hbo1
  have hmT : Blk (aT2 V1 τ t) V.heap.size 49 #[.int .u8 m.name, .slice D m.args.length d] := hbm1
  have hnft : ∀ k, ¬ sFootL w.heap.size V k -> some k ≠ (Value.slice Ao pre.length co).ownBlock := fun k hf => fun e => hf (.inr ⟨_, by rw [hbo.cell]; rfl, e.symm⟩)
  have hRm : pMod.R (fun k => (W0.heap.size <= k /\ k < V.heap.size) /\ ¬ sFootL w.heap.size V k) (aT2 V1 τ t) (Value.agg #[.int .u8 m.name, .slice D m.args.length d]).cells.toList m := ⟨D, d, rfl, hnm, hya.keep fun k hk => kk k hk.1.2⟩
  have hsT : (aT2 V1 τ t).heap.size = V.heap.size + 1 := hz1
  have hF2 : ∀ k, ((W0.heap.size <= k /\ k < V.heap.size) /\ ¬ sFootL w.heap.size V k) -> w.heap.size + 5 <= k /\ k < (aT2 V1 τ t).heap.size /\ some k ≠ (Value.slice Ao pre.length co).ownBlock := fun k hk => ⟨by omega, by omega, hnft k hk.2⟩
  have hownT : Own pMod 49 (w.heap.size + 5) (w.heap.size + 5 <= ·) (aT2 V1 τ t) (.slice Ao pre.length co) (pre.map (·.1)) := hown1.keep (fun _ _ => rfl) (Nat.le_refl _)
  have hh : (aT2 V1 τ t).heap = (V.alloc (.cells #[.int .u8 m.name, .slice D m.args.length d] 49)).heap := (show (aT2 V1 τ t).heap = V1.heap from rfl).trans (congrArg World.heap hV1)
  generalize hVT : aT2 V1 τ t = VT at hbT hmT hRm hsT hF2 hownT hh ⊢
  have x0 := hmT.cell 0
  have x1 := hmT.cell 1
  have y0 := hbT.cell 0
  have hln2 : (pre.map (·.1)).length + 1 = pre.length + 1 := by simp
  have hrm2 : Room (pre.map (·.1)).length := room_of (by rw [List.length_map]; omega)
  have hba2 : w.heap.size + 5 <= VT.heap.size := by omega
  have Hk := HH1 (kt rfl)
  have HJ := HH1 hJ
  have Hbo := HH1 hbo
  have Hown := HH1 hown
  have HbT := HH1 hbT
  have HRm := HH1 hRm
  have HF2 := HH1 hF2
  have HownT := HH1 hownT
  have Hh := HH1 hh
  have Hln := HH1 hln2
  have Hrm := HH1 hrm2
  have HXX := HH1 hXX
  clear kt kf hJ hya hbo hown hbm1 hbo1 hr01 hr11 kk hV1 hown1 hbT hmT hnft hRm hF2 hownT hh hVT hln2 hrm2 hX hY hXX
  dsimp only [rstO7, rstBd, rstB, Tryd.f60]
  go_wp2_with ((with_reducible show wpList _ _ _ (Oper.mk (some 18) _ _ _ _ _ :: _) _ _); refine wpList_pushG (E := pMod) (xs := pre.map (·.1)) (v := .slice Ao pre.length co) (base := w.heap.size + 5) (G := (w.heap.size + 5 <= ·)) 23 49 (.agg #[.int .u8 0, .slice none 0 0]) 32 18 (.tmp 16) (.tmp 17) rfl rfl rfl rfl rfl Tryd.underlying23 info_modS rfl (by decide) (fun _ => rfl) (fun _ => rfl) HownT.out (.agg #[.int .u8 m.name, .slice D m.args.length d]) rfl m _ HRm.out HF2.out (pre.length + 1) Hln.out Hrm.out ⟨by decide, by decide⟩ hba2 ?_; intro A3 c3 w3 hown3 hg3; have hbo3 := HbT.out.same (hg3.out.oth _ (by omega) (fun e => by have := (HownT.out.lt _ e.symm).1; omega)); have y3 := hbo3.cell 0; have f3 := hbo3.free 0; have Hbo3 := HH1 hbo3; clear hbo3)
  show LT F ch _ ((rB l 60).atR ⟨_, []⟩ _) _ (w3.setCell ⟨w.heap.size + 2, 0, none⟩ (.slice A3 (pre.length + 1) c3))
  refine (HXX.out _).inBlockR (LS.endN rfl rfl ho ?_)
  have hst := sRoundL (m := m) _ HJ.out Hh.out Hbo.out Hown.out hown3.out hg3.out
  exact Hk.out _ hst.1 hst.2
end
section
open Go Go.Conc Go.RowKit
section
variable {P : Program} {α : Type} {E : Rp α}
theorem run_catL {o : Oper} {a : Act} {w : World} {base : Nat} {G : Nat -> Prop} {v : Value} {xs : List α} (t e : TypeId) (z : Value) (bytes : Nat) (s x : Operand)
  (ho : o.op = .call { callee := .builtin .append, args := #[s, x], argTypes := #[t, t] })
  (ht : P.underlying t = some (.slice e)) (hinfo : (P.info? e).map (fun i => (i.zero, i.size, i.bytes)) = some (some z, E.n, bytes)) (hzs : z.cells.size = E.n) (hsz : 0 < E.n)
  (hs : a.eval s = v) (hown : Own E e base G w v xs) (A : Option Addr) (c : Nat) (ys : List α) (hx : a.eval x = .slice A ys.length c) (F : Nat -> Prop) (hsl : SlAt E F w A c ys)
  (hF : ∀ k, F k -> G k /\ k < w.heap.size /\ some k ≠ v.ownBlock) (n : Nat) (hn : (xs ++ ys).length = n) (hlen : Room n) (hb : bytes <= 131072) (hbase : base <= w.heap.size) :
  ∃ A' c' w', (execOp a.eval o).run P w = .ok (.value (.slice A' n c')) w' /\ Own E e base G w' (.slice A' n c') (xs ++ ys) /\ Grew base w w' v (.slice A' n c') := by
 obtain ⟨i, hi, hz, h1, h2⟩ := info_parts hinfo
 have hown' := hown
 obtain ⟨cells, h3, h4⟩ := hown
 cases A with
 | some ad =>
  obtain ⟨news, h5, h6⟩ := hsl.cells
  have hby : (xs.length + ys.length) * bytes <= 140737488355328 := by
   rw [<- List.length_append, hn]
   have := Nat.mul_le_mul (Nat.le_of_lt hlen) hb
   omega
  have hml : xs.length + ys.length <= maxLen := by
   rw [<- List.length_append, hn]; unfold Room at hlen; unfold maxLen; omega
  obtain ⟨v', w', hr, k1, k2, _, k4⟩ := run_append_own_at (P := P) w base t o.type e i z E.n bytes ht hi hz h1 h2 hzs hsz v xs.length cells h3 ad ys.length c news h5.length h6 h5.oneCell hml hby hbase
  have hO := own_append h4 h5 hF k1 k2 k4
  have hform : ∃ A' c', v' = .slice A' n c' := by
   obtain ⟨cells', ⟨hl, hv⟩, hc⟩ := hO
   rcases hv with ⟨hv, h0⟩ | ⟨g, cap, cur, hv, _⟩
   ·rw [hn] at h0; subst h0; exact ⟨_, _, hv⟩
   ·rw [hn] at hv; exact ⟨_, _, hv⟩
  obtain ⟨A', c', rfl⟩ := hform
  refine ⟨A', c', w', ?_, hO, ⟨below_app (Below.refl base w) k2 hown' (Nat.le_refl _) hbase, k2.block, k4.imp id fun he => ⟨_, he, Nat.le_refl _⟩⟩⟩
  unfold execOp
  simp only [ho, resolve, invoke, builtin, Sem.run_bind, Sem.run_pure, Result.andThen_ok, List.map_toArray, List.map_cons, List.map_nil, hs, hx, hr]
 | none =>
  have hc := hsl.nil rfl
  have hl := hsl.le
  have hy : ys = [] := List.eq_nil_of_length_eq_zero (by omega)
  subst hy
  subst hc
  have hrun := run_append_owned_none (P := P) w base t o.type e i E.n ht hi v xs.length cells h3
  have hform : ∃ A' c', v = .slice A' n c' := by
   rcases h3.2 with ⟨hv, h0⟩ | ⟨g, cap, cur, hv, _⟩
   ·rw [List.append_nil] at hn; rw [hn] at h0; subst h0; exact ⟨_, _, hv⟩
   ·rw [List.append_nil] at hn; rw [hn] at hv; exact ⟨_, _, hv⟩
  obtain ⟨A', c', rfl⟩ := hform
  refine ⟨A', c', w, ?_, by rw [List.append_nil]; exact hown', ⟨Below.refl base w, fun _ _ _ => rfl, .inl rfl⟩⟩
  unfold execOp
  simp only [List.length_nil] at hx
  simp only [ho, resolve, invoke, builtin, Sem.run_bind, Sem.run_pure, Result.andThen_ok, List.map_toArray, List.map_cons, List.map_nil, hs, hx, hrun]
end
section
variable {P : Program} {S : FuncId -> Prop} {G Sb : Nat -> Bool} {X : Sit} {b : Frame} {k : List Item} {cs : List Frame} {a : Act} {v v' w w0 : World} {l : List Oper} {tm : Array Value} {df : List Deferred} {Φ : Nat -> Value -> World -> Prop} {i : Nat}
theorem WalkL.val (hX : WalkL P S G Sb X) {ops : Array Oper} {i : Nat} {r : List Nat} {o : Oper} (d : Option Tmp) (x : Value) (ho : ops[i]? = some o) (hk : okOp P (okX G Sb) Sb o.op = true) (hg : o.guard = none) (hd : o.dst = d)
  (he : ∀ τ d, (execOp a.eval o).run P (aT2 v τ d) = .ok (.value x) (aT2 v' τ d)) (h : X (b.at (a.put d x) (.inRegion ops r :: k)) cs v') : X (b.at a (.inRegion ops (i :: r) :: k)) cs v := by
 subst hd
 exact hX.value ho hk (by unfold Region.wanted; rw [hg]) he h
theorem WalkL.valueR (hX : WalkL P S G Sb X) {ops : Array Oper} {i : Nat} {r : List Nat} {o : Oper} {R : Value -> World -> Prop} (ho : ops[i]? = some o) (hk : okOp P (okX G Sb) Sb o.op = true) (hw : Region.wanted o (yielded ops a.tmps) = true)
  (he : ∀ τ d, ∃ x w', (execOp a.eval o).run P (aT2 v τ d) = .ok (.value x) w' /\ R x w') (h : ∀ x w', R x w' -> X (b.at (a.put o.dst x) (.inRegion ops r :: k)) cs w') : X (b.at a (.inRegion ops (i :: r) :: k)) cs v := by
 have st : ∀ τ d x w', (execOp a.eval o).run P (aT2 v τ d) = .ok (.value x) w' -> (stepS P (b.at a (.inRegion ops (i :: r) :: k)) cs).run P (aT2 v τ d) = .ok (b.at (a.put o.dst x) (.inRegion ops r :: k), cs) w' := fun τ d x w' hr => by
  have hfin : (b.at a (.inRegion ops (i :: r) :: k)).finish x = b.at (a.put o.dst x) (.inRegion ops r :: k) := by rw [Frame.finish_at, ho]; rfl
  rw [<- hfin]
  unfold stepS
  show Sem.run P (match ops[i]? with | none => _ | some o => _) _ = _
  rw [ho]
  show Sem.run P (if Region.wanted o (yielded ops a.tmps) = true then _ else _) _ = _
  rw [if_pos hw]
  show Sem.run P (Sem.bind (execOp a.eval o) _) _ = _
  rw [Sem.run_bind', hr]
  rfl
 refine hX.back _ _ _ (fun o' ho' => by rw [ho] at ho'; injection ho' with ho'; subst ho'; exact hk) tmw_at (fun τ d => ?_) fun τ d y w' hy => ?_
 ·obtain ⟨x, w', hr, _⟩ := he τ d
  exact ⟨_, _, st τ d x w' hr⟩
 ·obtain ⟨x, w2, hr, hR⟩ := he τ d
  rw [st τ d x w2 hr] at hy
  injection hy with e1 e2
  subst e1 e2
  exact h x w2 hR
theorem armL (hX : WalkL P S G Sb X) {o : Oper} {rest : List Nat} {x : Value} (ho : l[i]? = some o) (hk : okOp P (okX G Sb) Sb o.op = true) (hg : o.guard = none) (he : ∀ w, Gw w0 w -> (execOp a.eval o).run P w = .ok (.value x) w) (hw : Gw w0 w) (hΦ : Φ i x w)
  (hn : ∀ x w', Φ i x w' -> Gw w w' -> X (b.at (a.put o.dst x) (.inRegion l.toArray rest :: k)) cs w') : X (b.at a (.inRegion l.toArray (i :: rest) :: k)) cs w :=
 hX.value (v' := w) (by rw [List.getElem?_toArray]; exact ho) hk (by unfold Region.wanted; rw [hg]) (fun τ d => he _ (hw.trans (Gw.at2 w τ d))) (hn x w hΦ (Gw.refl w))
end
noncomputable def itl5 : List Oper := itO5.toList
theorem itl5_eq : (Code.region 5 itO5 true) = .region 5 itl5.toArray true := by kernel_rfl
theorem itl5_len : itl5.length = 9 := by kernel_rfl
theorem info_intS : (Tryd.prog.info? 3).map (fun i => (i.zero, i.size, i.bytes)) = some (some (.int .i64 0), 1, 8) := by kernel_rfl
def Φ5 (l g : Nat) (nm : Int) (D : Option Addr) (d : Nat) (args : List Int) (V : World) : Nat -> Value -> World -> Prop
 | 0, x, _ => x = yl l
 | 1, x, _ => x = .pointer (some ⟨g, 0, none⟩)
 | 2, x, _ => x = .int .u8 nm
 | 3, x, _ => x = .pointer (some ⟨g, 1, none⟩)
 | 4, x, _ => x = .slice D args.length d
 | 5, x, w => ∃ D4 d4, x = .slice D4 args.length d4 /\ Own (pI .i64) 3 V.heap.size (fun _ => True) w (.slice D4 args.length d4) args
 | 6, x, w => ∃ D4 d4, x = .agg #[.int .u8 nm, .slice D4 args.length d4] /\ Own (pI .i64) 3 V.heap.size (fun _ => True) w (.slice D4 args.length d4) args
 | _, _, _ => True
theorem run_buildMS {o : Oper} {w : World} (ev : Operand -> Value) (x y : Operand) (ho : o.op = .build 49 #[(0, x), (1, y)]) {n : Int} {A : Option Addr} {m c : Nat} (hx : ev x = .int .u8 n) (hy : ev y = .slice A m c) :
  (execOp ev o).run Tryd.prog w = .ok (.value (.agg #[.int .u8 n, .slice A m c])) w := by
 unfold execOp
 simp only [ho, List.map_toArray, List.map_cons, List.map_nil, hx, hy]
 kernel_rfl
theorem it5_dst : (itl5.all fun o => match o.dst with | some d => decide (25 <= d) && decide (d <= 33) | none => true) = true := by kernel_rfl
theorem it5_no {s : Nat} (hs : s < 25 ∨ 33 < s) : ∀ o ∈ itl5, o.dst ≠ some s := fun o ho e => by
 have h1 := List.all_eq_true.1 it5_dst o ho
 have h2 : (decide (25 <= s) && decide (s <= 33)) = true := by rw [e] at h1; exact h1
 simp only [Bool.and_eq_true, decide_eq_true_eq] at h2
 omega
theorem it_R5 {F : Value -> Prop} {ch : Option Nat} {cs : List Frame} {w V : World} {x0 x1 : Value} {l r g : Nat} {a : Act} {k : List Item} {pre : List (Mod × Bool)} {m : Mod} {D : Option Addr} {d : Nat} {W0 : World}
  (hz : a.tmps.size = 81) (hd : a.defers = []) (s0 : slot a 0 (yl l)) (s5 : slot a 5 (.pointer (some ⟨g, 0, none⟩))) (hb : Blk V g 49 #[.int .u8 m.name, .slice D m.args.length d]) (hJ : SV w pre V) (hpr : pre.length <= 1000000) (hnm : Fits .u8 m.name) (hW0 : w.heap.size + 5 <= W0.heap.size) (hWV : W0.heap.size <= V.heap.size)
  (hsl : SlAt (pI .i64) (fun k => k < V.heap.size /\ ¬ sFootL w.heap.size V k) V D d m.args) (hrm : Room m.args.length)
  (kt : ∀ a' V', a'.tmps.size = 81 -> a'.defers = [] -> (∀ s u, s < 25 -> slot a s u -> slot a' s u) -> slot a' 33 (.bool false) -> SV w (pre ++ [(m, true)]) V' -> KptL (sFootL w.heap.size) V V' ->
   LT F ch (some (rstQ w.heap.size x0 x1 l r)) (bIt.at a' k) cs V') :
  LT F ch (some (rstQ w.heap.size x0 x1 l r)) (bIt.at a (.code (.region 5 itO5 true) :: k)) cs V := by
 have hX : WalkL Tryd.prog SR gR sR (LT F ch (some (rstQ w.heap.size x0 x1 l r))) := KM.walk ctxR
 rw [itl5_eq]
 have hgV := hb.lt
 have c0 : V.cell? ⟨g, 0, none⟩ = some (.int .u8 m.name) := hb.cell 0
 have c1 : V.cell? ⟨g, 1, none⟩ = some (.slice D m.args.length d) := hb.cell 1
 show LS _ _ _ _ _ _ (bIt.at { tmps := a.tmps, defers := a.defers } (.code (.region 5 itl5.toArray true) :: k)) cs V
 refine hX.orders2 (Φ := Φ5 l g m.name D d m.args V) mixes (by rw [hz]; kernel_rfl) (by rw [itl5_len]; omega) (fun j x w w' h hg => ?_) ?_ ?_
 ·match j, h with
  | 0, h | 1, h | 2, h | 3, h | 4, h => exact h
  | 5, ⟨D4, d4, h1, h2⟩ => exact ⟨D4, d4, h1, h2.keep hg.2 hg.1⟩
  | 6, ⟨D4, d4, h1, h2⟩ => exact ⟨D4, d4, h1, h2.keep hg.2 hg.1⟩
  | j + 7, h => exact trivial
 ·intro j o ho hj a1 w1 rest hA hk
  match j, ho with
  | 0, ho =>
   obtain rfl := Option.some.inj ho
   exact armL hX ho (by kernel_rfl) rfl (fun w hw => run_moveX _ (.tmp 0) (.inl rfl) (hA.old (d := 0) (by kernel_rfl) s0)) hA.gw rfl hk
  | 1, ho =>
   obtain rfl := Option.some.inj ho
   refine armL hX ho (by kernel_rfl) rfl (fun w hw => ?_) hA.gw rfl hk
   have hf : (Instr.fieldAt 49 (.pointer (some ⟨g, 0, none⟩)) 0).run Tryd.prog w = .ok (.pointer (some ⟨g, 0, none⟩)) w := by kernel_rfl
   exact run_fieldX a1.eval (.tmp 5) 0 rfl (hA.old (d := 5) (by kernel_rfl) s5) hf
  | 2, ho =>
   obtain rfl := Option.some.inj ho
   have h1 := hA.get 1 (by kernel_rfl)
   rw [<- hA.val (j := 1) (d := 26) (by kernel_rfl)] at h1
   exact armL hX ho (by kernel_rfl) rfl (fun w hw => run_one _ 5 (.tmp 26) rfl _ Tryd.underlying5 rfl g 0 h1 ((cell_gw hw hgV).trans c0)) hA.gw rfl hk
  | 3, ho =>
   obtain rfl := Option.some.inj ho
   refine armL hX ho (by kernel_rfl) rfl (fun w hw => ?_) hA.gw rfl hk
   have hf : (Instr.fieldAt 49 (.pointer (some ⟨g, 0, none⟩)) 1).run Tryd.prog w = .ok (.pointer (some ⟨g, 1, none⟩)) w := by kernel_rfl
   exact run_fieldX a1.eval (.tmp 5) 1 rfl (hA.old (d := 5) (by kernel_rfl) s5) hf
  | 4, ho =>
   obtain rfl := Option.some.inj ho
   have h1 := hA.get 3 (by kernel_rfl)
   rw [<- hA.val (j := 3) (d := 28) (by kernel_rfl)] at h1
   exact armL hX ho (by kernel_rfl) rfl (fun w hw => run_one _ 47 (.tmp 28) rfl _ Tryd.underlying47 rfl g 1 h1 ((cell_gw hw hgV).trans c1)) hA.gw rfl hk
  | 5, ho =>
   have hop : o.op = .call { callee := .builtin .append, args := #[.const (.slice none 0 0), .tmp 29], argTypes := #[47, 47] } := by obtain rfl := Option.some.inj ho; rfl
   have hgd : o.guard = none := by obtain rfl := Option.some.inj ho; rfl
   have hok5 : okOp Tryd.prog (okX gR sR) sR o.op = true := by obtain rfl := Option.some.inj ho; kernel_rfl
   have h1 := hA.get 4 (by kernel_rfl)
   rw [<- hA.val (j := 4) (d := 29) (by kernel_rfl)] at h1
   refine hX.valueR (R := fun x w' => (∃ D4 d4, x = .slice D4 m.args.length d4 /\ Own (pI .i64) 3 V.heap.size (fun _ => True) w' (.slice D4 m.args.length d4) m.args) /\ Gw w1 w') (by rw [List.getElem?_toArray]; exact ho) hok5 (by unfold Region.wanted; rw [hgd]) (fun τ t => ?_) fun x w' hR => hk x w' hR.1 hR.2
   have hslT : SlAt (pI .i64) (fun k => k < V.heap.size /\ ¬ sFootL w.heap.size V k) (aT2 w1 τ t) D d m.args := hsl.keep fun k hk => hA.gw.2 k hk.1
   have hsz : V.heap.size <= (aT2 w1 τ t).heap.size := hA.gw.1
   obtain ⟨D4, d4, w', hr, hO, hG⟩ := run_catL (P := Tryd.prog) (o := o) (E := pI .i64) (xs := []) (v := .slice none 0 0) (base := V.heap.size) (G := fun _ => True) (w := aT2 w1 τ t) (a := a1) 47 3 (.int .i64 0) 8 (.const (.slice none 0 0)) (.tmp 29) hop Tryd.underlying47 info_intS rfl (by decide) rfl Own.nil D d m.args h1 _ hslT (fun k hk => ⟨trivial, by omega, by simp [Value.ownBlock]⟩) m.args.length rfl hrm (by decide) hsz
   refine ⟨_, w', hr, ⟨D4, d4, rfl, hO⟩, hG.bel.size, fun k hk => ?_⟩
   exact hG.oth k hk (by simp [Value.ownBlock])
  | 6, ho =>
   obtain rfl := Option.some.inj ho
   have h1 := hA.get 2 (by kernel_rfl)
   rw [<- hA.val (j := 2) (d := 27) (by kernel_rfl)] at h1
   obtain ⟨D4, d4, h2, h3⟩ := hA.get 5 (by kernel_rfl)
   rw [<- hA.val (j := 5) (d := 30) (by kernel_rfl)] at h2
   exact armL hX ho (by kernel_rfl) rfl (fun w hw => run_buildMS a1.eval (.tmp 27) (.tmp 30) rfl h1 h2) hA.gw ⟨D4, d4, rfl, h3⟩ hk
  | j + 7, ho => rw [itl5_len] at hj; omega
 ·intro i hi a1 w1 hA
  have hi7 : i = 7 := by rw [itl5_len] at hi; omega
  subst hi7
  have e0 := hA.get 0 (by kernel_rfl)
  rw [<- hA.val (j := 0) (d := 25) (by kernel_rfl)] at e0
  obtain ⟨D4, d4, h2, h3⟩ := hA.get 6 (by kernel_rfl)
  rw [<- hA.val (j := 6) (d := 31) (by kernel_rfl)] at h2
  have hJ1 := (svBears w).keep _ _ _ hJ hA.gw
  have hkp1 := (svBears w).kpt hJ hA.gw
  have hya := own_yarL (W0 := W0) (svBears w) hJ hA.gw h3 (Nat.le_refl _) hWV
  have hop : itl5.toArray[7]? = some _ := (List.getElem?_toArray).trans rfl
  refine LS.yield (q := rstQ w.heap.size x0 x1 l r) (x := .tmp 25) (ars := #[.tmp 31, .const (.bool true)]) (ats := #[49, 4]) hop (by kernel_rfl) rfl (by kernel_rfl) (by kernel_rfl) e0 rfl ?_
  have hargs : (#[.tmp 31, .const (.bool true)] : Array Operand).map a1.eval = #[.agg #[.int .u8 m.name, .slice D4 m.args.length d4], .bool true] := by
   simp only [List.map_toArray, List.map_cons, List.map_nil]
   rw [show a1.eval (.tmp 31) = _ from h2]
   rfl
  rw [hargs]
  refine round_LS true hop hJ1 hpr hnm hW0 hya (fun _ V' hJ' hk' => ?_) fun e => (by cases e)
  have hop8 : itl5.toArray[8]? = some _ := (List.getElem?_toArray).trans rfl
  have hz1 : a1.tmps.size = 81 := hA.sz.trans hz
  refine hX.val (v' := V') (some 33) (.bool false) hop8 (by kernel_rfl) rfl rfl (fun τ t => run_notX _ 4 (.tmp 32) rfl (b := true) (slot_same (a := a1) (d := 32) (by rw [hz1]; decide)) rfl) (hX.done ?_)
  refine kt _ _ (size_put (size_put hz1)) (hA.df.trans hd) (fun s u hs h => slot_ne (slot_ne ?_ (by omega)) (by omega)) (slot_same (by rw [size_put hz1]; decide)) hJ' (hkp1.trans hk')
  have := hA.out s (it5_no (.inl hs))
  show a1.tmps.getD s undef = u
  rw [Array.getD_eq_getD_getElem?, this, <- Array.getD_eq_getD_getElem?]
  exact h
end
section
open Go Go.Conc Go.RowKit Go.Shelf
structure It1 (a : Act) (l z : Nat) (A' : Option Addr) (n' c' k : Nat) : Prop where
 sz : a.tmps.size = 81
 df : a.defers = []
 s0 : slot a 0 (yl l)
 s1 : slot a 1 (.pointer (some ⟨z + 4, 0, none⟩))
 s2 : slot a 2 (.pointer (some ⟨z + 3, 0, none⟩))
 s14 : slot a 14 (.slice A' n' c')
 s15 : slot a 15 (.int .i64 n')
 s16 : slot a 16 (.int .i64 k)
structure It2 (a : Act) (l z : Nat) (A' : Option Addr) (n' c' k : Nat) (g : Nat) (A2 : Option Addr) (n2 c2 k2 : Nat) : Prop extends It1 a l z A' n' c' k where
 s5 : slot a 5 (.pointer (some ⟨g, 0, none⟩))
 s38 : slot a 38 (.slice A2 n2 c2)
 s39 : slot a 39 (.int .i64 n2)
 s40 : slot a 40 (.int .i64 k2)
theorem it_out {X : Sit} (hX : WalkL Tryd.prog SR gR sR X) {a : Act} {rest : Code} {k0 : List Item} {cs : List Frame} {wp : World} {l z : Nat} {A' : Option Addr} {n' c' k g : Nat} {A2 : Option Addr} {c2 k2 : Nat} {m : Mod} {D : Option Addr} {d : Nat} {outl : List Shp} {s : Shp}
  (h : It2 a l z A' n' c' k g A2 outl.length c2 k2) (hb : Blk wp g 49 #[.int .u8 m.name, .slice D m.args.length d]) (hso : SlAt pShp (Old wp) wp A2 c2 outl) (hs : outl[k2]? = some s) (hxa : SlAt (pI .i64) (Old wp) wp D d m.args)
  (hsum : ∀ f ∈ s.args, SumOk f m.args) (hs4 : s.args.length <= 4) (hml : m.args.length <= 4)
  (kt : ∀ a' wq Dv dv, It2 a' l z A' n' c' k g A2 outl.length c2 k2 -> slot a' 9 (.pointer (some ⟨wp.heap.size + 1, 0, none⟩)) -> slot a' 10 (.bool (s.args.all fun f => argOk (worthF f m.args))) -> Gw wp wq ->
   Blk wq (wp.heap.size + 1) 49 #[.int .u8 s.name, .slice Dv s.args.length dv] -> Own (pI .i64) 3 (wp.heap.size + 2) (fun _ => False) wq (.slice Dv s.args.length dv) (s.args.map fun f => worthF f m.args) -> wp.heap.size + 2 <= wq.heap.size -> X (bIt.at a' (.code rest :: k0)) cs wq) :
  X (bIt.at a (.code (.seq itR8 (.seq itR9 (.seq itP3 rest))) :: k0)) cs wp := by
 obtain ⟨j, rfl, hj⟩ := (Sl.of (L := [(0, _), (1, _), (2, _), (14, _), (15, _), (16, _), (5, _), (38, _), (39, _), (40, _)]) h.sz h.df ⟨h.s0, h.s1, h.s2, h.s14, h.s15, h.s16, h.s5, h.s38, h.s39, h.s40, trivial⟩).lit
 simp only [List.range, List.range.loop, List.map, hj 0 _ rfl, hj 1 _ rfl, hj 2 _ rfl, hj 14 _ rfl, hj 15 _ rfl, hj 16 _ rfl, hj 5 _ rfl, hj 38 _ rfl, hj 39 _ rfl, hj 40 _ rfl]
 clear hj
 clear h
 obtain ⟨hk2, hsx⟩ := List.getElem?_eq_some_iff.1 hs
 refine hX.seq (hX.wp ctxR rfl rfl bIt_fn itokR8 fun τ t => ?_)
 have hsoT : SlAt pShp (Old (aT2 wp τ t)) (aT2 wp τ t) A2 c2 outl := hso.keep fun _ _ => rfl
 obtain ⟨b4, o4, As, cs4, s', hds, hA4, hob4, s0, s1, hs8, hsa, hsl⟩ := hsoT.getShp hk2
 obtain rfl : s' = s := by have := get_of_drop hds.out; rw [hs] at this; exact (Option.some.inj this).symm
 subst hA4
 have hsa0 : SlAt pFrm (Old wp) wp As cs4 s'.args := hsa.out.keep (w' := wp) fun _ _ => rfl
 have Hkt := HH1 kt
 have Hb := HH1 hb
 have Hxa := HH1 hxa
 have Hsa := HH1 hsa0
 have Hsum := HH1 hsum
 have HX := HH1 hX
 clear kt hb hso hxa hsoT hsa hsa0 hsum hs hsx hds hX
 dsimp only [itR8, itB2, itL2, itB1, itL1, itB, Tryd.f88]
 go_wp2
 show X (bIt.at ⟨_, []⟩ _) cs (aT2 (wp.alloc (.cells #[.int .u8 s'.name, .slice As s'.args.length cs4] 72)) τ t)
 refine HX.out.at2 _ _ _ τ t ?_
 try rw [show (aT2 wp τ t).heap.size = wp.heap.size from rfl]
 clear s0 s1 hob4 τ t
 obtain ⟨w8, hw8⟩ : ∃ w8, w8 = wp.alloc (.cells #[.int .u8 s'.name, .slice As s'.args.length cs4] 72) := ⟨_, rfl⟩
 rw [<- hw8]
 refine HX.out.seq (HX.out.wp ctxR rfl rfl bIt_fn itokR9 fun τ t => ?_)
 have hz8 : w8.heap.size = wp.heap.size + 1 := by rw [hw8]; simp
 have hz8T : (aT2 w8 τ t).heap.size = wp.heap.size + 1 := hz8
 have hbs8 : Blk w8 wp.heap.size 72 #[.int .u8 s'.name, .slice As s'.args.length cs4] := by rw [hw8]; exact Blk.new _ _ _
 have c0 : (aT2 w8 τ t).cell? ⟨wp.heap.size, 0, none⟩ = some (.int .u8 s'.name) := hbs8.cell 0
 have Hw8 := HH1 hw8
 have Hbs8 := HH1 hbs8
 clear hw8 hbs8
 dsimp only [itR9, itB2, itL2, itB1, itL1, itB, Tryd.f88]
 go_wp2
 show X (bIt.at ⟨_, []⟩ _) cs (aT2 (w8.alloc (.cells #[.int .u8 s'.name, .slice none 0 0] 49)) τ t)
 refine HX.out.at2 _ _ _ τ t ?_
 try rw [hz8T]
 clear c0 hz8T τ t
 obtain ⟨w9, hw9⟩ : ∃ w9, w9 = w8.alloc (.cells #[.int .u8 s'.name, .slice none 0 0] 49) := ⟨_, rfl⟩
 rw [<- hw9]
 refine HX.out.seq (HX.out.wp ctxR rfl rfl bIt_fn itokP3 fun τ t => ?_)
 have hz9 : w9.heap.size = wp.heap.size + 2 := by rw [hw9]; simp [hz8]
 have hbs9 : Blk w9 wp.heap.size 72 #[.int .u8 s'.name, .slice As s'.args.length cs4] := by rw [hw9]; exact Hbs8.out.alloc _
 have hbm9 : Blk w9 (wp.heap.size + 1) 49 #[.int .u8 s'.name, .slice none 0 0] := by
  rw [hw9]
  have := Blk.new w8 49 #[.int .u8 s'.name, .slice none 0 0]
  rwa [hz8] at this
 have hgw9 : Gw wp w9 := ⟨by omega, fun k hk => by rw [hw9]; exact (Below.heap_alloc _ _ _ (by omega)).trans (by rw [Hw8.out]; exact Below.heap_alloc _ _ _ hk)⟩
 obtain ⟨wT, hwT⟩ : ∃ wT, wT = aT2 w9 τ t := ⟨_, rfl⟩
 rw [<- hwT]
 have hbs0 : Blk wT wp.heap.size 72 #[.int .u8 s'.name, .slice As s'.args.length cs4] := by rw [hwT]; exact hbs9
 have hbm0 : Blk wT (wp.heap.size + 1) 49 #[.int .u8 s'.name, .slice none 0 0] := by rw [hwT]; exact hbm9
 have hgT : Gw wp wT := by rw [hwT]; exact hgw9.trans (Gw.at2 w9 τ t)
 have hzT : wp.heap.size + 2 <= wT.heap.size := by rw [hwT]; show _ <= w9.heap.size; omega
 clear hwT hbs9 hbm9 hgw9 hw9 hz9 hz8 Hw8 Hbs8
 have hbq0 : Below wp.heap.size wT wT := Below.refl _ _
 have how0 : Own (pI .i64) 3 (wp.heap.size + 2) (fun _ => False) wT (.slice none 0 0) ((s'.args.take 0).map fun f => worthF f m.args) := Own.nil
 have c1 := hbs0.cell 1
 have hgp : g < wp.heap.size := Hb.out.lt
 have HgT := HH1 hgT
 have Hbq0 := HH1 hbq0
 have Hbs0 := HH1 hbs0
 have Hbm0 := HH1 hbm0
 have How0 := HH1 how0
 clear hgT hbq0 hbs0 hbm0 how0
 dsimp only [itP3, itB2, itL2, itB1, itL1, itB, Tryd.f88]
 go_wp2
 clear c1
 go_loopw [50, 10] (fun p okv wr => ∃ (k3 : Nat) (Dv : Option Addr) (dv : Nat), k3 <= s'.args.length /\ p = .int .i64 k3 /\ okv = .bool ((s'.args.take k3).all (fun f => argOk (worthF f m.args))) /\ Hid (Below wp.heap.size wT wr) /\ wp.heap.size + 2 <= wr.heap.size /\
  Hid (Blk wr wp.heap.size 72 #[.int .u8 s'.name, .slice As s'.args.length cs4]) /\ Hid (Blk wr (wp.heap.size + 1) 49 #[.int .u8 s'.name, .slice Dv k3 dv]) /\
  Hid (Own (pI .i64) 3 (wp.heap.size + 2) (fun _ => False) wr (.slice Dv k3 dv) ((s'.args.take k3).map fun f => worthF f m.args))) (fun p _ _ => s'.args.length - (intOf p).toNat)
 case atStart => exact ⟨0, none, 0, Nat.zero_le _, rfl, rfl, Hbq0, hzT, Hbs0, Hbm0, How0⟩
 case round =>
  obtain ⟨k3, Dv, dv, hk3m, rfl, rfl, hbq, hzq, hbs, hbm, how⟩ := hrel
  obtain ⟨wq, rfl⟩ : ∃ wq : World, wq = wr := ⟨_, rfl⟩
  by_cases hlt3 : k3 < s'.args.length
  case neg =>
   obtain rfl : k3 = s'.args.length := by omega
   have how' := how.out
   rw [List.take_length] at how'
   have hall : ((s'.args.take s'.args.length).all fun f => argOk (worthF f m.args)) = (s'.args.all fun f => argOk (worthF f m.args)) := by rw [List.take_length]
   have hgq : Gw wp wq := ⟨by omega, fun k hk => (hbq.out.block k hk).trans (HgT.out.2 k hk)⟩
   have How' := HH1 how'
   have Hgq := HH1 hgq
   rw [hall]
   obtain ⟨okb, hokb⟩ : ∃ okb, (s'.args.all fun f => argOk (worthF f m.args)) = okb := ⟨_, rfl⟩
   rw [hokb]
   rw [hokb] at Hkt
   clear how' hgq hall hokb
   go_wp2
   exact Hkt.out _ _ _ _ ⟨⟨rfl, rfl, rfl, rfl, rfl, rfl, rfl, rfl⟩, rfl, rfl, rfl, rfl⟩ rfl rfl Hgq.out hbm.out How'.out (by omega)
  case pos =>
   have hkq : ∀ q, q < wp.heap.size -> wq.heap[q]? = wp.heap[q]? := fun q hq => (hbq.out.block q hq).trans (HgT.out.2 q hq)
   obtain ⟨b6, o6, A6, c6, f, hdf, rfl, hob6, f0, f1, hfc, hfa, hfl⟩ := (Hsa.out.keep fun q hq => hkq q hq).getFrm hlt3
   have hob6' : b6 < wq.heap.size := by have : b6 < wp.heap.size := hob6; omega
   have hblq := Hb.out.same (hkq g hgp)
   have hw9 : g < wq.heap.size := by omega
   have hw8 : wp.heap.size < wq.heap.size := by omega
   have y0 := hblq.cell 0
   have y1q := hblq.cell 1
   have u0 := hbs.out.cell 0
   have u1 := hbs.out.cell 1
   have hok := Hsum.out f (mem_of_drop hdf.out)
   have hbd := worth_bd hok
   have hcall : ∀ Wx : World, Below wq.heap.size wq Wx -> Calls Tryd.prog 86 #[.agg #[.int .i64 f.const, .slice A6 f.coefs.length c6], .slice D m.args.length d] Wx (IntPost (worthF f m.args) Wx) := fun Wx hW =>
    worth_calls (F := Old wp) A6 c6 f D d m.args Wx (hfa.out.keep fun q hq => hW.block q (by have : q < wp.heap.size := hq; omega)) ((Hxa.out.keep fun q hq => hkq q hq).keep fun q hq => hW.block q (by have : q < wp.heap.size := hq; omega)) (fun q hq => by have : q < wp.heap.size := hq; have := hW.size; show q < Wx.heap.size; omega) hok
   obtain ⟨v, hvv⟩ : ∃ v, worthF f m.args = v := ⟨_, rfl⟩
   rw [hvv] at hbd hcall
   obtain ⟨okb, hokb⟩ : ∃ okb, (s'.args.take k3).all (fun f => argOk (worthF f m.args)) = okb := ⟨_, rfl⟩
   rw [hokb]
   have hoks : (s'.args.take (k3 + 1)).all (fun f => argOk (worthF f m.args)) = (okb && argOk v) := by
    rw [take_of_drop hdf.out, List.all_append, hokb, List.all_cons, hvv, List.all_nil, Bool.and_true]
   have hvs : (s'.args.take (k3 + 1)).map (fun f => worthF f m.args) = (s'.args.take k3).map (fun f => worthF f m.args) ++ [v] := by
    rw [take_of_drop hdf.out, List.map_append, List.map_singleton, hvv]
   obtain ⟨Hcall, Hok, Hvv, Hvs⟩ := HH4 hcall hok hvv hvs; clear hcall hok hvv hvs
   go_wp2_with (go_at_call 86; refine (Hcall.out _ ((Below.refl _ _).alloc (Nat.le_refl _) _)).mono ?_; rintro e w5 ⟨rfl, hb5⟩; refine Hid.out ?_)
   refine HH1 ?_
   have hbx5 : Below wq.heap.size wq w5 := ((Below.refl _ _).alloc (Nat.le_refl _) _).trans (hb5.mono (by simp))
   have hz5 := hbx5.size
   have hbm5 := hbm.out.same (hbx5.block _ (by omega))
   have hbs5 := hbs.out.same (hbx5.block _ hw8)
   have how5 := how.out.later hbx5
   have x1 := hbm5.cell 1
   have hbp5 : Below wp.heap.size wT w5 := hbq.out.trans (hbx5.mono (by omega))
   have hne5 : some (wp.heap.size + 1) ≠ (Value.slice Dv k3 dv).ownBlock := fun he => by have := how.out.lt _ he.symm; omega
   have hRv : (pI .i64).R (fun _ => False) w5 (Value.int .i64 v).cells.toList v := ⟨rfl, fits_i64 (by omega)⟩
   have hln5 : ((s'.args.take k3).map fun f => worthF f m.args).length + 1 = k3 + 1 := by rw [List.length_map, List.length_take]; omega
   have hrm5 : Room ((s'.args.take k3).map fun f => worthF f m.args).length := room_of (by rw [List.length_map, List.length_take]; omega)
   have hba5 : wp.heap.size + 2 <= w5.heap.size := by omega
   have hlt5 : wp.heap.size + 1 < w5.heap.size := by omega
   obtain ⟨Hbx5, Hbm5, Hbs5, How5, Hbp5, Hne5, HRv, Hln5, Hrm5⟩ := HH9 hbx5 hbm5 hbs5 how5 hbp5 hne5 hRv hln5 hrm5; clear hbx5 hbm5 hbs5 how5 hbp5 hne5 hRv hln5 hrm5
   clear hb5 y0 y1q u0 u1 f0 f1
   have hfin : ∀ (bb : Bool) (A7 : Option Addr) (c7 : Nat) (w7 : World), (okb && argOk v) = bb ->
     Hid (Own (pI .i64) 3 (wp.heap.size + 2) (fun _ => False) w7 (.slice A7 (k3 + 1) c7) (((s'.args.take k3).map fun f => worthF f m.args) ++ [v])) -> Hid (Grew (wp.heap.size + 2) w5 w7 (.slice Dv k3 dv) (.slice A7 (k3 + 1) c7)) ->
     (∃ (k4 : Nat) (Dw : Option Addr) (dw : Nat), k4 <= s'.args.length /\ Value.int .i64 (k3 + 1) = .int .i64 k4 /\ Value.bool bb = .bool ((s'.args.take k4).all (fun f => argOk (worthF f m.args))) /\ Hid (Below wp.heap.size wT (w7.setCell ⟨wp.heap.size + 1, 1, none⟩ (.slice A7 (k3 + 1) c7))) /\ wp.heap.size + 2 <= (w7.setCell ⟨wp.heap.size + 1, 1, none⟩ (.slice A7 (k3 + 1) c7)).heap.size /\
      Hid (Blk (w7.setCell ⟨wp.heap.size + 1, 1, none⟩ (.slice A7 (k3 + 1) c7)) wp.heap.size 72 #[.int .u8 s'.name, .slice (some ⟨b6, o6, none⟩) s'.args.length cs4]) /\ Hid (Blk (w7.setCell ⟨wp.heap.size + 1, 1, none⟩ (.slice A7 (k3 + 1) c7)) (wp.heap.size + 1) 49 #[.int .u8 s'.name, .slice Dw k4 dw]) /\
      Hid (Own (pI .i64) 3 (wp.heap.size + 2) (fun _ => False) (w7.setCell ⟨wp.heap.size + 1, 1, none⟩ (.slice A7 (k3 + 1) c7)) (.slice Dw k4 dw) ((s'.args.take k4).map fun f => worthF f m.args))) := by
    intro bb A7 c7 w7 hbb ho7 hg7
    have hz7 := hg7.out.bel.size
    have hs7 : (w7.setCell ⟨wp.heap.size + 1, 1, none⟩ (.slice A7 (k3 + 1) c7)).heap.size = w7.heap.size := by simp [World.setCell]
    have hne7 : wp.heap.size ≠ wp.heap.size + 1 := by omega
    refine ⟨k3 + 1, A7, c7, hlt3, rfl, by rw [hoks, hbb], ?_, by omega, ?_, ?_, ?_⟩
    ·exact (Hbp5.out.trans (hg7.out.bel.mono (by omega))).setCell (by show wp.heap.size <= wp.heap.size + 1; omega) _
    ·exact Hbs5.out.same ((Below.heap_setCell _ _ _ _ hne7).trans (hg7.out.bel.block _ (by omega)))
    ·have := (Hbm5.out.same (hg7.out.oth _ hlt5 Hne5.out)).set 1 (.slice A7 (k3 + 1) c7)
     unfold Hid
     simpa using this
    ·unfold Hid
     rw [Hvs.out]
     refine ho7.out.keepG (fun q hq hG => Below.heap_setCell _ _ _ _ ?_) (by omega)
     rcases hG with hG | hG
     ·exact hG.elim
     ·have := ho7.out.lt q hG
      show q ≠ wp.heap.size + 1
      omega
   have hcases : (okb && argOk v) = false /\ okb = false ∨ okb = true /\ (((okb && argOk v) = false /\ ¬ -1000000000 <= v) ∨ (-1000000000 <= v /\ (((okb && argOk v) = false /\ ¬ v <= 1000000000) ∨ ((okb && argOk v) = true /\ v <= 1000000000)))) := by
    cases okb
    ·exact .inl ⟨rfl, rfl⟩
    ·refine .inr ⟨rfl, ?_⟩
     by_cases h1 : -1000000000 <= v
     ·refine .inr ⟨h1, ?_⟩
      by_cases h2 : v <= 1000000000
      ·exact .inr ⟨by rw [argOk_yes (by omega) (by omega)]; rfl, h2⟩
      ·exact .inl ⟨by rw [argOk_no (by omega)]; rfl, h2⟩
     ·exact .inl ⟨by rw [argOk_no (by omega)]; rfl, h1⟩
   obtain ⟨Hfin, Hokb⟩ := HH2 hfin hokb; clear hfin hokb
   rcases hcases with ⟨hb9, rfl⟩ | ⟨rfl, (⟨hb9, h1⟩ | ⟨h1, (⟨hb9, h2⟩ | ⟨hb9, h2⟩)⟩)⟩
   all_goals
    have Hb9 := HH1 hb9; clear hb9
    go_wp2_with ((with_reducible show wpList _ _ _ (Oper.mk (some 70) _ _ _ _ _ :: _) _ _); refine wpList_pushG (E := pI .i64) (xs := (s'.args.take k3).map fun f => worthF f m.args) (v := .slice Dv k3 dv) (base := wp.heap.size + 2) (G := fun _ => False) 47 3 (.int .i64 0) 8 70 (.tmp 68) (.tmp 69) rfl rfl rfl rfl rfl Tryd.underlying47 (by kernel_rfl) rfl (by decide) (fun _ => rfl) (fun _ => rfl) How5.out (.int .i64 v) rfl v (fun _ => False) HRv.out (fun _ h => h.elim) (k3 + 1) Hln5.out Hrm5.out ⟨by decide, by decide⟩ hba5 ?_; intro A7 c7 w7 hown7 hg7; have hbm7 := Hbm5.out.same (hg7.out.oth _ hlt5 Hne5.out); have x7 := hbm7.cell 1; have f7 := hbm7.free 1; have Hbm7 := HH1 hbm7; clear hbm7)
    exact ⟨Hfin.out _ _ _ _ Hb9.out hown7 hg7, by simp only [intOf]; omega⟩
end
section
open Go Go.Conc Go.RowKit Go.Shelf
theorem loadM_run {w : World} {g : Nat} {u0 u1 : Value} (h0 : w.cell? ⟨g, 0, none⟩ = some u0) (h1 : w.cell? ⟨g, 1, none⟩ = some u1) : (Instr.loadAt 49 (.pointer (some ⟨g, 0, none⟩))).run Tryd.prog w = .ok (.agg #[u0, u1]) w := by
 go_simp
theorem run_loadM {o : Oper} {w : World} (ev : Operand -> Value) (x : Operand) (ho : o.op = .load 49 x) {g : Nat} {u0 u1 : Value} (hx : ev x = .pointer (some ⟨g, 0, none⟩)) (h0 : w.cell? ⟨g, 0, none⟩ = some u0) (h1 : w.cell? ⟨g, 1, none⟩ = some u1) :
  (execOp ev o).run Tryd.prog w = .ok (.value (.agg #[u0, u1])) w := by
 unfold execOp
 simp only [ho, hx, Sem.run_bind, loadM_run h0 h1, Result.andThen_ok, Sem.run_pure]
theorem It1.put {a : Act} {l z n' c' k : Nat} {A' : Option Addr} (h : It1 a l z A' n' c' k) {d : Nat} {x : Value} (hd : d ≠ 0 /\ d ≠ 1 /\ d ≠ 2 /\ d ≠ 14 /\ d ≠ 15 /\ d ≠ 16) : It1 (a.put (some d) x) l z A' n' c' k :=
 ⟨size_put h.sz, h.df, slot_ne h.s0 hd.1, slot_ne h.s1 hd.2.1, slot_ne h.s2 hd.2.2.1, slot_ne h.s14 hd.2.2.2.1, slot_ne h.s15 hd.2.2.2.2.1, slot_ne h.s16 hd.2.2.2.2.2⟩
theorem It2.put {a : Act} {l z n' c' k g n2 c2 k2 : Nat} {A' A2 : Option Addr} (h : It2 a l z A' n' c' k g A2 n2 c2 k2) {d : Nat} {x : Value} (hd : 40 < d) : It2 (a.put (some d) x) l z A' n' c' k g A2 n2 c2 k2 :=
 ⟨h.toIt1.put ⟨by omega, by omega, by omega, by omega, by omega, by omega⟩, slot_ne h.s5 (by omega), slot_ne h.s38 (by omega), slot_ne h.s39 (by omega), slot_ne h.s40 (by omega)⟩
theorem it_R17 {F : Value -> Prop} {ch : Option Nat} {cs : List Frame} {w V W0 : World} {x0 x1 : Value} {l r : Nat} {a : Act} {kk : List Item} {A' A2 : Option Addr} {n' c' k g n2 c2 k2 : Nat} {pre : List (Mod × Bool)} {mo : Mod} {g9 : Nat} {Dv : Option Addr} {dv : Nat} (ok : Bool)
  (h : It2 a l w.heap.size A' n' c' k g A2 n2 c2 k2) (s9 : slot a 9 (.pointer (some ⟨g9, 0, none⟩))) (s10 : slot a 10 (.bool ok)) (hb : Blk V g9 49 #[.int .u8 mo.name, .slice Dv mo.args.length dv])
  (hJ : SV w pre V) (hpr : pre.length <= 1000000) (hnm : Fits .u8 mo.name) (hW0 : w.heap.size + 5 <= W0.heap.size) (hya : YArL (sFootL w.heap.size) W0 V Dv dv mo.args)
  (kt : ok = true -> ∀ a' V', It2 a' l w.heap.size A' n' c' k g A2 n2 c2 k2 -> slot a' 78 (.bool false) -> SV w (pre ++ [(mo, true)]) V' -> KptL (sFootL w.heap.size) V V' -> LT F ch (some (rstQ w.heap.size x0 x1 l r)) (bIt.at a' kk) cs V')
  (kf : ok = false -> ∀ a' V', a'.tmps.size = 81 -> a'.defers = [] -> slot a' 78 (.bool true) -> SVx w (pre ++ [(mo, false)]) V' -> LT F ch (some (rstQx w.heap.size x0 x1 l r)) (bIt.at a' kk) cs V') :
  LT F ch (some (rstQ w.heap.size x0 x1 l r)) (bIt.at a (.code (.region 17 itO17 false) :: kk)) cs V := by
 have hXX : ∀ Λ, WalkL Tryd.prog SR gR sR (LT F ch Λ) := fun Λ => KM.walk ctxR
 have hX := hXX (some (rstQ w.heap.size x0 x1 l r))
 refine hX.region ?_
 rw [itz17]
 refine hX.val (v' := V) (some 74) (yl l) rfl (by kernel_rfl) rfl rfl (fun τ t => run_moveX _ (.tmp 0) (.inl rfl) h.s0) ?_
 have s74 := slot_same (a := a) (d := 74) (x := yl l) (by rw [h.sz]; decide)
 have t9 := slot_ne (d := 74) (x := yl l) s9 (by decide)
 have t10 := slot_ne (d := 74) (x := yl l) s10 (by decide)
 have h1 := h.put (d := 74) (x := yl l) (by decide)
 generalize a.put (some 74) (yl l) = a1 at s74 t9 t10 h1 ⊢
 have c0 : V.cell? ⟨g9, 0, none⟩ = some (.int .u8 mo.name) := hb.cell 0
 have c1 : V.cell? ⟨g9, 1, none⟩ = some (.slice Dv mo.args.length dv) := hb.cell 1
 refine hX.val (v' := V) (some 75) (.agg #[.int .u8 mo.name, .slice Dv mo.args.length dv]) rfl (by kernel_rfl) rfl rfl (fun τ t => run_loadM _ (.tmp 9) rfl t9 (w := aT2 V τ t) c0 c1) ?_
 have s75 := slot_same (a := a1) (d := 75) (x := .agg #[.int .u8 mo.name, .slice Dv mo.args.length dv]) (by rw [h1.sz]; decide)
 have s74 := slot_ne (d := 75) (x := .agg #[.int .u8 mo.name, .slice Dv mo.args.length dv]) s74 (by decide)
 have t10 := slot_ne (d := 75) (x := .agg #[.int .u8 mo.name, .slice Dv mo.args.length dv]) t10 (by decide)
 have h2 := h1.put (d := 75) (x := .agg #[.int .u8 mo.name, .slice Dv mo.args.length dv]) (by decide)
 generalize a1.put (some 75) (.agg #[.int .u8 mo.name, .slice Dv mo.args.length dv]) = a2 at s74 s75 t10 h2 ⊢
 refine hX.val (v' := V) (some 76) (.bool ok) rfl (by kernel_rfl) rfl rfl (fun τ t => run_moveX _ (.tmp 10) (.inl rfl) t10) ?_
 have s76 := slot_same (a := a2) (d := 76) (x := .bool ok) (by rw [h2.sz]; decide)
 have s74 := slot_ne (d := 76) (x := .bool ok) s74 (by decide)
 have s75 := slot_ne (d := 76) (x := .bool ok) s75 (by decide)
 have h3 := h2.put (d := 76) (x := .bool ok) (by decide)
 generalize a2.put (some 76) (.bool ok) = a3 at s74 s75 s76 h3 ⊢
 refine LS.yield (q := rstQ w.heap.size x0 x1 l r) (x := .tmp 74) (ars := #[.tmp 75, .tmp 76]) (ats := #[49, 4]) rfl (by kernel_rfl) rfl (by kernel_rfl) (by kernel_rfl) s74 rfl ?_
 have hargs : (#[.tmp 75, .tmp 76] : Array Operand).map a3.eval = #[.agg #[.int .u8 mo.name, .slice Dv mo.args.length dv], .bool ok] := by
  simp only [List.map_toArray, List.map_cons, List.map_nil]
  rw [show a3.eval (.tmp 75) = _ from s75, show a3.eval (.tmp 76) = _ from s76]
 rw [hargs]
 refine round_LS ok rfl hJ hpr hnm hW0 hya (fun e V' hJ' hk' => ?_) fun e V' hJ' => ?_
 ·refine hX.val (v' := V') (some 78) (.bool false) rfl (by kernel_rfl) rfl rfl (fun τ t => run_notX _ 4 (.tmp 77) rfl (b := true) (slot_same (a := a3) (d := 77) (by rw [h3.sz]; decide)) rfl) (hX.done ?_)
  exact kt e _ _ ((h3.put (by decide)).put (by decide)) (slot_same (by rw [size_put h3.sz]; decide)) hJ' hk'
 ·refine (hXX _).val (v' := V') (some 78) (.bool true) rfl (by kernel_rfl) rfl rfl (fun τ t => run_notX _ 4 (.tmp 77) rfl (b := false) (slot_same (a := a3) (d := 77) (by rw [h3.sz]; decide)) rfl) ((hXX _).done ?_)
  exact kf e _ _ (size_put (size_put h3.sz)) h3.df (slot_same (by rw [size_put h3.sz]; decide)) hJ'
end
section
open Go Go.Conc Go.RowKit Go.Shelf
noncomputable def itO1 : Array Oper := match itR1 with | .region _ a _ => a | _ => #[]
noncomputable def itO4 : Array Oper := match itR4 with | .region _ a _ => a | _ => #[]
noncomputable def itO7 : Array Oper := match itR7 with | .region _ a _ => a | _ => #[]
noncomputable def itO18 : Array Oper := match itR18 with | .region _ a _ => a | _ => #[]
noncomputable def itO19 : Array Oper := match itR19 with | .region _ a _ => a | _ => #[]
theorem itR1_eq : itR1 = .region 1 itO1 false := by kernel_rfl
theorem itR4_eq : itR4 = .region 4 itO4 false := by kernel_rfl
theorem itR7_eq : itR7 = .region 7 itO7 false := by kernel_rfl
theorem itR18_eq : itR18 = .region 18 itO18 false := by kernel_rfl
theorem itR19_eq : itR19 = .region 19 itO19 false := by kernel_rfl
theorem itz1 : List.range itO1.size = [0] := by kernel_rfl
theorem itz4 : List.range itO4.size = [0, 1] := by kernel_rfl
theorem itz7 : List.range itO7.size = [0] := by kernel_rfl
theorem itz18 : List.range itO18.size = [0, 1] := by kernel_rfl
theorem itz19 : List.range itO19.size = [0, 1] := by kernel_rfl
theorem It2.next {a : Act} {l z n' c' k g n2 c2 k2 j : Nat} {A' A2 : Option Addr} (h : It2 a l z A' n' c' k g A2 n2 c2 k2) : It2 (a.put (some 40) (.int .i64 (j : Nat))) l z A' n' c' k g A2 n2 c2 j :=
 ⟨h.toIt1.put ⟨by decide, by decide, by decide, by decide, by decide, by decide⟩, slot_ne h.s5 (by decide), slot_ne h.s38 (by decide), slot_ne h.s39 (by decide), slot_same (by rw [h.sz]; decide)⟩
theorem it_loop2 {F : Value -> Prop} {ch : Option Nat} {cs : List Frame} {w w2 W0 : World} {x0 x1 : Value} {l r : Nat} {a : Act} {kk : List Item} {A' A2 : Option Addr} {n' c' k g c2 : Nat} {pre0 : List (Mod × Bool)} {m : Mod} {D : Option Addr} {d : Nat} {outl : List Shp}
  (h : It2 a l w.heap.size A' n' c' k g A2 outl.length c2 0) (hb : Blk w2 g 49 #[.int .u8 m.name, .slice D m.args.length d]) (hng : ¬ sFootL w.heap.size w2 g)
  (hso : SlAt pShp (fun k => k < w2.heap.size /\ ¬ sFootL w.heap.size w2 k) w2 A2 c2 outl) (hxa : SlAt (pI .i64) (fun k => k < w2.heap.size /\ ¬ sFootL w.heap.size w2 k) w2 D d m.args)
  (hsum : ∀ s ∈ outl, ∀ f ∈ s.args, SumOk f m.args) (hs4 : ∀ s ∈ outl, s.args.length <= 4) (hml : m.args.length <= 4) (hnm : ∀ s ∈ outl, Fits .u8 s.name)
  (hJ : SV w pre0 w2) (hlen : (pre0 ++ outl.map (outF m.args)).length <= 1000000) (hol : outl.length <= 1000000) (hW0 : w.heap.size + 5 <= W0.heap.size) (hWw : W0.heap.size <= w2.heap.size)
  (ke : ∀ a V, It1 a l w.heap.size A' n' c' k -> SV w (pre0 ++ outl.map (outF m.args)) V -> KptL (sFootL w.heap.size) w2 V -> LT F ch (some (rstQ w.heap.size x0 x1 l r)) (bIt.at a kk) cs V)
  (kx : ∀ a t V pre, a.defers = [] -> pre <+: pre0 ++ outl.map (outF m.args) -> SVx w pre V -> LT F ch (some (rstQx w.heap.size x0 x1 l r)) { bIt.at a t with mode := .returning } cs V) :
  LT F ch (some (rstQ w.heap.size x0 x1 l r)) (bIt.at a (.code (.block 2 (.loop itL2)) :: kk)) cs w2 := by
 have hXX : ∀ Λ, WalkL Tryd.prog SR gR sR (LT F ch Λ) := fun Λ => KM.walk ctxR
 have hX := hXX (some (rstQ w.heap.size x0 x1 l r))
 refine hX.block (hX.loopN (I := fun n a V => ∃ k2, k2 <= outl.length /\ n = outl.length - k2 /\ It2 a l w.heap.size A' n' c' k g A2 outl.length c2 k2 /\ SV w (pre0 ++ (outl.take k2).map (outF m.args)) V /\ KptL (sFootL w.heap.size) w2 V) (fun n a V hI ih => ?_) _ _ _ ⟨0, Nat.zero_le _, rfl, h, by simpa using hJ, KptL.refl _⟩)
 clear h hJ
 obtain ⟨k2, hk2, rfl, h, hJ, hkp⟩ := hI
 have hlt0 : ∀ b, b = decide (k2 < outl.length) -> decide ((k2 : Int) < (outl.length : Int)) = b := fun b hb => by rw [hb]; simp
 rw [itL2_eq]
 refine hX.seq ?_
 rw [itR7_eq]
 refine hX.region ?_
 rw [itz7]
 refine hX.val (v' := V) (some 41) (.bool (decide ((k2 : Int) < (outl.length : Int)))) rfl (by kernel_rfl) rfl rfl (fun τ t => run_lss _ 3 _ (.tmp 40) (.tmp 39) rfl Tryd.underlying3 h.s40 h.s39) (hX.done (hX.seq ?_))
 have s41 := slot_same (a := a) (d := 41) (x := .bool (decide ((k2 : Int) < (outl.length : Int)))) (by rw [h.sz]; decide)
 have h1 := h.put (d := 41) (x := .bool (decide ((k2 : Int) < (outl.length : Int)))) (by decide)
 generalize a.put (some 41) (.bool (decide ((k2 : Int) < (outl.length : Int)))) = a1 at s41 h1 ⊢
 clear h
 by_cases hlt : k2 < outl.length
 case neg =>
  rw [hlt0 false (by simp [hlt])] at s41
  obtain rfl : k2 = outl.length := by omega
  refine hX.cond (t := false) rfl s41 (hX.exit (k' := kk) rfl ?_)
  rw [List.take_length] at hJ
  exact ke _ _ h1.toIt1 hJ hkp
 case pos =>
  rw [hlt0 true (by simp [hlt])] at s41
  refine hX.cond (t := true) rfl s41 (hX.skip (hX.seq (hX.block ?_)))
  obtain ⟨s, hs⟩ : ∃ s, outl[k2]? = some s := ⟨_, List.getElem?_eq_getElem hlt⟩
  have hsm : s ∈ outl := List.mem_of_getElem? hs
  have hgw2 : g < w2.heap.size := hb.lt
  have hkz := hkp.size
  rw [itB2_eq]
  refine it_out hX h1 (hb.same (hkp.same g hgw2 hng).1) (hso.kptL hkp).oldL hs (hxa.kptL hkp).oldL (hsum s hsm) (hs4 s hsm) hml fun a2 wq Dv dv h2 s9 s10 hG hbm how hzq => hX.seq ?_
  have htk : pre0 ++ (outl.take k2).map (outF m.args) ++ [outF m.args s] = pre0 ++ (outl.take (k2 + 1)).map (outF m.args) := by
   rw [List.take_add_one, hs]
   simp
  have hJq := (svBears w).keep _ _ _ hJ hG
  have hkq := (svBears w).kpt hJ hG
  have hya := own_yarL (W0 := W0) (svBears w) hJ hG how (by omega) (by omega)
  have hpl : (pre0 ++ (outl.take k2).map (outF m.args)).length <= 1000000 := by
   rw [List.length_append, List.length_map] at hlen ⊢
   have := List.length_take_le k2 outl
   rw [List.length_take]
   omega
  have hnl : (s.args.map fun f => worthF f m.args).length = s.args.length := List.length_map ..
  refine it_R17 (mo := ⟨s.name, s.args.map fun f => worthF f m.args⟩) (s.args.all fun f => argOk (worthF f m.args)) h2 s9 s10 (by simp only [hnl]; exact hbm) hJq hpl (hnm s hsm) hW0 hya (fun e a3 V3 h3 s78 hJ3 hk3 => ?_) fun e a3 V3 hz3 hd3 s78 hJ3 => ?_
  ·have hout : (⟨s.name, s.args.map fun f => worthF f m.args⟩, true) = outF m.args s := by unfold outF; rw [e]
   rw [hout, htk] at hJ3
   refine hX.cond (t := false) rfl s78 (hX.skip (hX.inBlock ?_))
   rw [itR18_eq]
   refine hX.region ?_
   rw [itz18]
   refine hX.val (v' := V3) (some 79) (.int .i64 ((k2 + 1 : Nat) : Int)) rfl (by kernel_rfl) rfl rfl (fun τ t => ?_) ?_
   ·have := run_add (P := Tryd.prog) (o := itO18[0]) (w := aT2 V3 τ t) a3.eval 3 3 (.tmp 40) (.const (.int .i64 1)) rfl Tryd.underlying3 h3.s40 (n := 1) rfl (by omega)
    exact this
   have s79 := slot_same (a := a3) (d := 79) (x := .int .i64 ((k2 + 1 : Nat) : Int)) (by rw [h3.sz]; decide)
   have h4 := h3.put (d := 79) (x := .int .i64 ((k2 + 1 : Nat) : Int)) (by decide)
   refine hX.val (v' := V3) (some 40) (.int .i64 ((k2 + 1 : Nat) : Int)) rfl (by kernel_rfl) rfl rfl (fun τ t => run_moveX _ (.tmp 79) (.inl rfl) s79) (hX.done ?_)
   exact ih _ _ _ (by omega) ⟨k2 + 1, hlt, rfl, h4.next, hJ3, hkp.trans (hkq.trans hk3)⟩
  ·have hout : (⟨s.name, s.args.map fun f => worthF f m.args⟩, false) = outF m.args s := by unfold outF; rw [e]
   rw [hout, htk] at hJ3
   refine (hXX _).cond (t := true) rfl s78 ((hXX _).ret ?_)
   refine kx _ _ _ _ hd3 ?_ hJ3
   exact (List.prefix_append_right_inj _).2 ((List.take_prefix _ _).map _)
end
section
open Go Go.Conc Go.RowKit Go.Shelf
theorem it_head {X : Sit} (hX : WalkL Tryd.prog SR gR sR X) {a : Act} {rest : Code} {k0 : List Item} {cs : List Frame} {V : World} {l z : Nat} {A' : Option Addr} {c' k : Nat} {A : Option Addr} {c : Nat} {rs : List Rul} {ms : List Mod} {m : Mod} {F : Nat -> Prop}
  (h : It1 a l z A' ms.length c' k) (hms : SlAt pMod F V A' c' ms) (hF : ∀ q, F q -> q < V.heap.size) (hm : ms[k]? = some m) (hb3 : Blk V (z + 3) 22 #[.slice A rs.length c]) (hrs : SlAt pRul (Old V) V A c rs) (hcore : rs.all coreR = true) (hfm : m.args.all argOk = true /\ m.args.length <= 4)
  (kt : ∀ a' w2 D d, It1 a' l z A' ms.length c' k -> slot a' 5 (.pointer (some ⟨V.heap.size, 0, none⟩)) -> slot a' 6 (.int .i64 (firstF rs m)) -> Gw V w2 -> Blk w2 V.heap.size 49 #[.int .u8 m.name, .slice D m.args.length d] -> SlAt (pI .i64) F V D d m.args -> Fits .u8 m.name -> X (bIt.at a' (.code rest :: k0)) cs w2) :
  X (bIt.at a (.code (.seq itR2 (.seq itR3 rest)) :: k0)) cs V := by
 obtain ⟨j, rfl, hj⟩ := (Sl.of (L := [(0, _), (1, _), (2, _), (14, _), (15, _), (16, _)]) h.sz h.df ⟨h.s0, h.s1, h.s2, h.s14, h.s15, h.s16, trivial⟩).lit
 simp only [List.range, List.range.loop, List.map, hj 0 _ rfl, hj 1 _ rfl, hj 2 _ rfl, hj 14 _ rfl, hj 15 _ rfl, hj 16 _ rfl]
 clear hj
 clear h
 obtain ⟨hk2, hsx⟩ := List.getElem?_eq_some_iff.1 hm
 refine hX.seq (hX.wp ctxR rfl rfl bIt_fn itokR2 fun τ t => ?_)
 have hmsT : SlAt pMod F (aT2 V τ t) A' c' ms := hms.keep fun _ _ => rfl
 obtain ⟨b, o, D, d, m', hd, hA4, hob, q0, q1, hx8, hxa, hxl⟩ := hmsT.getMod hk2
 obtain rfl : m' = m := by have := get_of_drop hd.out; rw [hm] at this; exact (Option.some.inj this).symm
 subst hA4
 have hxa0 : SlAt (pI .i64) F V D d m'.args := hxa.out.keep (w' := V) fun _ _ => rfl
 have hlm := hms.lenle
 have Hkt := HH1 kt
 have Hb := HH1 hb3
 have Hrs := HH1 hrs
 have Hxa := HH1 hxa0
 have HX := HH1 hX
 have HF := HH1 hF
 have Hcore := HH1 hcore
 have Hfm := HH1 hfm
 have Hx8 := HH1 hx8
 clear kt hb3 hms hmsT hrs hxa hxa0 hd hX hm hsx hF hcore hfm hob hx8
 dsimp only [itR2, itB1, itL1, itB, Tryd.f88]
 go_wp2
 show X (bIt.at ⟨_, []⟩ _) cs (aT2 (V.alloc (.cells #[.int .u8 m'.name, .slice D m'.args.length d] 49)) τ t)
 refine HX.out.at2 _ _ _ τ t ?_
 try rw [show (aT2 V τ t).heap.size = V.heap.size from rfl]
 clear q0 q1 τ t
 obtain ⟨V1, hV1⟩ : ∃ V1, V1 = V.alloc (.cells #[.int .u8 m'.name, .slice D m'.args.length d] 49) := ⟨_, rfl⟩
 rw [<- hV1]
 refine HX.out.seq (HX.out.wp ctxR rfl rfl bIt_fn itokR3 fun τ t => ?_)
 have hG1 : Gw V V1 := ⟨by rw [hV1]; simp, fun q hq => by rw [hV1]; exact Below.heap_alloc _ _ _ hq⟩
 have hbm1 : Blk V1 V.heap.size 49 #[.int .u8 m'.name, .slice D m'.args.length d] := by rw [hV1]; exact Blk.new _ _ _
 obtain ⟨VT, hVT⟩ : ∃ VT, VT = aT2 V1 τ t := ⟨_, rfl⟩
 rw [<- hVT]
 have hGT : Gw V VT := by rw [hVT]; exact hG1.trans (Gw.at2 V1 τ t)
 have hbmT : Blk VT V.heap.size 49 #[.int .u8 m'.name, .slice D m'.args.length d] := by rw [hVT]; exact hbm1
 have hbT := Hb.out.same (hGT.2 _ Hb.out.lt)
 have hrsT : SlAt pRul (Old VT) VT A c rs := (Hrs.out.keep fun q hq => hGT.2 q hq).wide fun q (hq : q < V.heap.size) => show q < VT.heap.size from Nat.lt_of_lt_of_le hq hGT.1
 have hxaT : SlAt (pI .i64) (Old VT) VT D d m'.args := (Hxa.out.keep fun q hq => hGT.2 q (HF.out q hq)).wide fun q hq => show q < VT.heap.size from Nat.lt_of_lt_of_le (HF.out q hq) hGT.1
 clear hV1 hG1 hbm1 hVT
 have Hfc := find_calls A c rs D d m' _ hrsT hxaT Hcore.out Hfm.out
 have y1 := hbT.cell 0
 have c0 := hbmT.cell 0
 have c1 := hbmT.cell 1
 obtain ⟨ff, hff⟩ : ∃ ff, firstF rs m' = ff := ⟨_, rfl⟩
 rw [hff] at Hfc Hkt
 have HGT := HH1 hGT
 have HbmT := HH1 hbmT
 clear hGT hbmT hbT hrsT hxaT hff
 dsimp only [itR3, itB1, itL1, itB, Tryd.f88]
 go_wp2_with (go_at_call 89; refine Hfc.mono ?_; rintro e w2 ⟨rfl, hbf⟩)
 have hg2 : Gw V w2 := HGT.out.trans (Gw.of_below hbf)
 exact Hkt.out _ _ D d ⟨rfl, rfl, rfl, rfl, rfl, rfl, rfl, rfl⟩ rfl rfl hg2 (HbmT.out.same (hbf.block _ HbmT.out.lt)) Hxa.out Hx8.out
theorem it_R6 {X : Sit} (hX : WalkL Tryd.prog SR gR sR X) {a : Act} {rest : Code} {k0 : List Item} {cs : List Frame} {V : World} {l z : Nat} {A' : Option Addr} {n' c' k g j : Nat} {A : Option Addr} {c : Nat} {rs : List Rul} {r : Rul} {F : Nat -> Prop}
  (h : It1 a l z A' n' c' k) (s5 : slot a 5 (.pointer (some ⟨g, 0, none⟩))) (s6 : slot a 6 (.int .i64 j)) (hb3 : Blk V (z + 3) 22 #[.slice A rs.length c]) (hrs : SlAt pRul F V A c rs) (hr : rs[j]? = some r)
  (kt : ∀ a' A2 c2, It2 a' l z A' n' c' k g A2 r.out.length c2 0 -> SlAt pShp F V A2 c2 r.out -> X (bIt.at a' (.code rest :: k0)) cs V) :
  X (bIt.at a (.code (.seq itR6 rest) :: k0)) cs V := by
 obtain ⟨j, rfl, hj⟩ := (Sl.of (L := [(0, _), (1, _), (2, _), (14, _), (15, _), (16, _), (5, _), (6, _)]) h.sz h.df ⟨h.s0, h.s1, h.s2, h.s14, h.s15, h.s16, s5, s6, trivial⟩).lit
 simp only [List.range, List.range.loop, List.map, hj 0 _ rfl, hj 1 _ rfl, hj 2 _ rfl, hj 14 _ rfl, hj 15 _ rfl, hj 16 _ rfl, hj 5 _ rfl, hj 6 _ rfl]
 clear hj
 clear h s5 s6
 obtain ⟨hjl, hsx⟩ := List.getElem?_eq_some_iff.1 hr
 refine hX.seq (hX.wp ctxR rfl rfl bIt_fn itokR6 fun τ t => ?_)
 have hrsT : SlAt pRul F (aT2 V τ t) A c rs := hrs.keep fun _ _ => rfl
 have hlr := hrs.lenle
 obtain ⟨b3, o3, A1, c1, A2, c2, r', hdr, hA3, hob3, k0', k1, k2, k3, k4, k5, k6, hat, hl1, hl2⟩ := hrsT.getRulAt hjl
 obtain rfl : r' = r := by have := get_of_drop hdr.out; rw [hr] at this; exact (Option.some.inj this).symm
 subst hA3
 have hso : SlAt pShp F V A2 c2 r'.out := hat.out.so.keep (w' := V) fun _ _ => rfl
 have y1 : (aT2 V τ t).cell? ⟨z + 3, 0, none⟩ = some (.slice (some ⟨b3, o3, none⟩) rs.length c) := hb3.cell 0
 have Hkt := HH1 kt
 have Hso := HH1 hso
 have HX := HH1 hX
 clear kt hb3 hrs hrsT hdr hat hob3 hX hr hsx hso k0' k1 k2 k3 k4 k5
 dsimp only [itR6, itB1, itL1, itB, Tryd.f88]
 go_wp2
 show X (bIt.at ⟨_, []⟩ _) cs (aT2 V τ t)
 refine HX.out.at2 _ _ _ τ t ?_
 exact Hkt.out _ A2 c2 ⟨⟨rfl, rfl, rfl, rfl, rfl, rfl, rfl, rfl⟩, rfl, rfl, rfl, rfl⟩ Hso.out
end
section
open Go Go.Conc Go.RowKit Go.Shelf
theorem fits_letterL {c : Int} (h : letterB c = true) : Fits .u8 c := by
 refine fits_u8 ?_
 unfold letterB upB loB symB symL at h
 simp at h
 omega
theorem outsF_lenL {rs : List Rul} {m : Mod} (h : ∀ r ∈ rs, r.out.length <= 30) : (outsF rs m).length <= 30 := by
 rcases outsF_cases rs m with ⟨_, h1⟩ | ⟨j, r, _, h2, _, h3⟩
 ·rw [h1]; simp
 ·rw [h3, List.length_map]; exact h r (List.mem_of_getElem? h2)
theorem succF_lenL {rs : List Rul} (h : ∀ r ∈ rs, r.out.length <= 30) : ∀ (ms : List Mod), (succF rs ms).length <= ms.length * 30
 | [] => by simp [succF]
 | m :: ms => by
  have h1 := outsF_lenL (m := m) h
  have h2 := succF_lenL h ms
  have e : succF rs (m :: ms) = outsF rs m ++ succF rs ms := rfl
  rw [e, List.length_append, List.length_cons]
  omega
theorem stepF_noL {rs : List Rul} {ms : List Mod} {pre : List (Mod × Bool)} (hp : pre <+: succF rs ms) (h : ∃ x ∈ pre, x.2 = false) : stepF rs ms = ([], 16) := by
 obtain ⟨x, hx, hf⟩ := h
 obtain ⟨t, ht⟩ := hp
 unfold stepF
 rw [if_neg]
 intro hall
 have := List.all_eq_true.1 hall x (by rw [<- ht]; exact List.mem_append_left _ hx)
 rw [hf] at this; cases this
theorem It1.next {a : Act} {l z n' c' k j : Nat} {A' : Option Addr} (h : It1 a l z A' n' c' k) : It1 (a.put (some 16) (.int .i64 (j : Nat))) l z A' n' c' j :=
 ⟨size_put h.sz, h.df, slot_ne h.s0 (by decide), slot_ne h.s1 (by decide), slot_ne h.s2 (by decide), slot_ne h.s14 (by decide), slot_ne h.s15 (by decide), slot_same (by rw [h.sz]; decide)⟩
theorem it_R19 {X : Sit} (hX : WalkL Tryd.prog SR gR sR X) {a : Act} {kk : List Item} {cs : List Frame} {V : World} {l z n' c' k : Nat} {A' : Option Addr} (h : It1 a l z A' n' c' k) (hk : k < 2000000)
  (kt : ∀ a', It1 a' l z A' n' c' (k + 1) -> X (bIt.at a' kk) cs V) : X (bIt.at a (.code itR19 :: kk)) cs V := by
 rw [itR19_eq]
 refine hX.region ?_
 rw [itz19]
 refine hX.val (v' := V) (some 80) (.int .i64 ((k + 1 : Nat) : Int)) rfl (by kernel_rfl) rfl rfl (fun τ t => ?_) ?_
 ·have := run_add (P := Tryd.prog) (o := itO19[0]) (w := aT2 V τ t) a.eval 3 3 (.tmp 16) (.const (.int .i64 1)) rfl Tryd.underlying3 h.s16 (n := 1) rfl (by omega)
  exact this
 have s80 := slot_same (a := a) (d := 80) (x := .int .i64 ((k + 1 : Nat) : Int)) (by rw [h.sz]; decide)
 have h4 := h.put (d := 80) (x := .int .i64 ((k + 1 : Nat) : Int)) (by decide)
 refine hX.val (v' := V) (some 16) (.int .i64 ((k + 1 : Nat) : Int)) rfl (by kernel_rfl) rfl rfl (fun τ t => run_moveX _ (.tmp 80) (.inl rfl) s80) (hX.done ?_)
 exact kt _ h4.next
theorem it_round {F : Value -> Prop} {ch : Option Nat} {cs : List Frame} {w W0 V : World} {x0 x1 : Value} {l r : Nat} {a : Act} {kk : List Item} {A A' : Option Addr} {c c' k : Nat} {rs : List Rul} {ms : List Mod} {m : Mod}
  (h : It1 a l w.heap.size A' ms.length c' k) (hm : ms[k]? = some m)
  (hrs : SlAt pRul (fun k => k < V.heap.size /\ ¬ sFootL w.heap.size V k) V A c rs) (hms : SlAt pMod (fun k => k < V.heap.size /\ ¬ sFootL w.heap.size V k) V A' c' ms)
  (hb3 : Blk V (w.heap.size + 3) 22 #[.slice A rs.length c]) (hn3 : ¬ sFootL w.heap.size V (w.heap.size + 3))
  (hcore : rs.all coreR = true) (hfine : ∀ m ∈ ms, fineF m = true) (ho : ∀ r ∈ rs, r.out.length <= 30) (hl : ms.length <= 2000) (hW0 : w.heap.size + 5 <= W0.heap.size) (hWV : W0.heap.size <= V.heap.size) (hJ : SV w (succF rs (ms.take k)) V)
  (ke : ∀ a V', It1 a l w.heap.size A' ms.length c' (k + 1) -> SV w (succF rs (ms.take (k + 1))) V' -> KptL (sFootL w.heap.size) V V' -> LT F ch (some (rstQ w.heap.size x0 x1 l r)) (bIt.at a kk) cs V')
  (kx : ∀ a t V pre, a.defers = [] -> pre <+: succF rs ms -> SVx w pre V -> LT F ch (some (rstQx w.heap.size x0 x1 l r)) { bIt.at a t with mode := .returning } cs V) :
  LT F ch (some (rstQ w.heap.size x0 x1 l r)) (bIt.at a (.code (.seq (.block 1 itB1) itR19) :: kk)) cs V := by
 have hX : WalkL Tryd.prog SR gR sR (LT F ch (some (rstQ w.heap.size x0 x1 l r))) := KM.walk ctxR
 obtain ⟨hkl, hmk⟩ := List.getElem?_eq_some_iff.1 hm
 have hmm : m ∈ ms := List.mem_of_getElem? hm
 have hfm := hfine m hmm
 have hfa := fine_args hfm
 have hd : ms.drop k = m :: ms.drop (k + 1) := by rw [<- hmk]; exact List.drop_eq_getElem_cons hkl
 have hsn := succF_snoc (rs := rs) hd
 have hsl := succF_lenL ho ms
 have hpre : succF rs (ms.take k) ++ outsF rs m <+: succF rs ms := by rw [<- hsn]; exact succF_prefix _
 have hlen := hpre.length_le
 have hlen0 : (succF rs (ms.take k)).length <= 60000 := by
  rw [List.length_append] at hlen; omega
 rw [itB1_eq]
 refine hX.seq (hX.block (it_head hX h hms (fun q hq => hq.1) hm hb3 hrs.oldL hcore hfa fun a2 w2 D d h2 s5 s6 hG hbm hxa hnm => ?_))
 have hkG := (svBears w).kpt hJ hG
 have hJ2 := (svBears w).keep _ _ _ hJ hG
 have hz2 := hG.1
 have hng : ¬ sFootL w.heap.size w2 V.heap.size := fun hf => by
  have h1 := (svBears w).fewer _ _ _ hJ hG _ hf
  have h2 := (svBears w).small _ _ _ hJ h1
  omega
 have hxa2 := hxa.kptL hkG
 refine hX.seq (hX.seq ?_)
 rw [itR4_eq]
 refine hX.region ?_
 rw [itz4]
 refine hX.val (v' := w2) (some 23) (.int .i64 (firstF rs m)) rfl (by kernel_rfl) rfl rfl (fun τ t => run_moveX _ (.tmp 6) (.inl rfl) s6) ?_
 have s23 := slot_same (a := a2) (d := 23) (x := .int .i64 (firstF rs m)) (by rw [h2.sz]; decide)
 have s5 := slot_ne (d := 23) (x := .int .i64 (firstF rs m)) s5 (by decide)
 have s6 := slot_ne (d := 23) (x := .int .i64 (firstF rs m)) s6 (by decide)
 have h3 := h2.put (d := 23) (x := .int .i64 (firstF rs m)) (by decide)
 generalize a2.put (some 23) (.int .i64 (firstF rs m)) = a3 at s23 s5 s6 h3 ⊢
 refine hX.val (v' := w2) (some 24) (.bool (decide (firstF rs m < 0))) rfl (by kernel_rfl) rfl rfl (fun τ t => run_lss _ 3 _ (.tmp 23) (.const (.int .i64 0)) rfl Tryd.underlying3 s23 rfl) (hX.done ?_)
 have s24 := slot_same (a := a3) (d := 24) (x := .bool (decide (firstF rs m < 0))) (by rw [h3.sz]; decide)
 have s5 := slot_ne (d := 24) (x := .bool (decide (firstF rs m < 0))) s5 (by decide)
 have s6 := slot_ne (d := 24) (x := .bool (decide (firstF rs m < 0))) s6 (by decide)
 have h4 := h3.put (d := 24) (x := .bool (decide (firstF rs m < 0))) (by decide)
 generalize a3.put (some 24) (.bool (decide (firstF rs m < 0))) = a4 at s24 s5 s6 h4 ⊢
 clear h h2 h3 s23
 rcases outsF_cases rs m with ⟨hneg, hou⟩ | ⟨j, r', hpos, hrj, hfit, hou⟩
 ·rw [hneg] at s24
  refine hX.cond (t := true) rfl s24 (hX.seq (hX.seq ?_))
  refine it_R5 h4.sz h4.df h4.s0 s5 hbm hJ2 (by omega) hnm hW0 (by omega) hxa2 (room_of (by omega)) fun a5 V5 hz5 hd5 hs5 s33 hJ5 hk5 => ?_
  refine hX.cond (t := false) rfl s33 (hX.skip (hX.exit (k' := .code itR19 :: kk) rfl ?_))
  have h5 : It1 a5 l w.heap.size A' ms.length c' k := ⟨hz5, hd5, hs5 _ _ (by decide) h4.s0, hs5 _ _ (by decide) h4.s1, hs5 _ _ (by decide) h4.s2, hs5 _ _ (by decide) h4.s14, hs5 _ _ (by decide) h4.s15, hs5 _ _ (by decide) h4.s16⟩
  refine it_R19 hX h5 (by omega) fun a6 h6 => ke _ _ h6 ?_ (hkG.trans hk5)
  rw [hsn, hou]
  exact hJ5
 ·rw [hpos] at s24 s6
  have hnn : decide ((j : Int) < 0) = false := by simp
  rw [hnn] at s24
  have hrm : r' ∈ rs := List.mem_of_getElem? hrj
  have hco : coreR r' = true := List.all_eq_true.1 hcore r' hrm
  have har : r'.arity = (m.args.length : Int) := by
   unfold fitsF at hfit
   simp only [Bool.and_eq_true, beq_iff_eq] at hfit
   exact hfit.1.2
  have hsum : ∀ s ∈ r'.out, ∀ f ∈ s.args, SumOk f m.args := fun s hs f hf => by
   have h1 := (fineR_guards hco).2.2.2 s hs f hf
   rw [har, Int.toNat_natCast] at h1
   exact sumOk h1 hfa.1 hfa.2
  have hfs : ∀ s ∈ r'.out, fineF ⟨s.name, List.replicate s.args.length 0⟩ = true := fun s hs => List.all_eq_true.1 (checkF_iff.1 (core_out hco).1).2.1 _ (List.mem_map.2 ⟨s, hs, rfl⟩)
  have hsl4 : ∀ s ∈ r'.out, s.args.length <= 4 := fun s hs => by
   have h2 := (fine_args (hfs s hs)).2
   simpa using h2
  have hnms : ∀ s ∈ r'.out, Fits .u8 s.name := fun s hs => fits_letterL (letter_byte (m := ⟨s.name, List.replicate s.args.length 0⟩) (hfs s hs))
  have hol := ho r' hrm
  rw [hou] at hpre hlen hsn
  refine hX.cond (t := false) rfl s24 (hX.skip ?_)
  refine it_R6 hX h4 s5 s6 (hb3.same (hkG.same _ hb3.lt hn3).1) (hrs.kptL hkG) hrj fun a5 A2 c2 h5 hso => ?_
  refine it_loop2 h5 hbm hng hso hxa2 hsum hsl4 hfa.2 hnms hJ2 (by omega) (by omega) hW0 (by omega) (fun a6 V6 h6 hJ6 hk6 => ?_) fun a6 t V6 pre hd6 hp6 hx6 => kx _ _ _ _ hd6 (hp6.trans hpre) hx6
  refine hX.inBlock (it_R19 hX h6 (by omega) fun a7 h7 => ke _ _ h7 ?_ (hkG.trans hk6))
  rw [hsn]
  exact hJ6
theorem it_LS {F : Value -> Prop} {ch : Option Nat} {cs : List Frame} {w W0 : World} {x0 x1 : Value} {l r : Nat} {A A' : Option Addr} {c c' : Nat} {rs : List Rul} {ms : List Mod}
  (hrs : SlAt pRul (fun k => k < W0.heap.size /\ ¬ sFootL w.heap.size W0 k) W0 A c rs) (hms : SlAt pMod (fun k => k < W0.heap.size /\ ¬ sFootL w.heap.size W0 k) W0 A' c' ms)
  (hb3 : Blk W0 (w.heap.size + 3) 22 #[.slice A rs.length c]) (hb4 : Blk W0 (w.heap.size + 4) 23 #[.slice A' ms.length c']) (hn3 : ¬ sFootL w.heap.size W0 (w.heap.size + 3))
  (hcore : rs.all coreR = true) (hfine : ∀ m ∈ ms, fineF m = true) (ho : ∀ r ∈ rs, r.out.length <= 30) (hl : ms.length <= 2000) (hW0 : w.heap.size + 5 <= W0.heap.size) (h0 : SV w [] W0)
  (ke : ∀ a V, a.defers = [] -> SV w (succF rs ms) V -> LT F ch (some (rstQ w.heap.size x0 x1 l r)) { bIt.at a [] with mode := .returning } cs V)
  (kx : ∀ a t V pre, a.defers = [] -> pre <+: succF rs ms -> SVx w pre V -> LT F ch (some (rstQx w.heap.size x0 x1 l r)) { bIt.at a t with mode := .returning } cs V) :
  LT F ch (some (rstQ w.heap.size x0 x1 l r)) (Frame.enter Tryd.prog 88 #[yl l, .pointer (some ⟨w.heap.size + 4, 0, none⟩), .pointer (some ⟨w.heap.size + 3, 0, none⟩)] .normal) cs W0 := by
 have hX : WalkL Tryd.prog SR gR sR (LT F ch (some (rstQ w.heap.size x0 x1 l r))) := KM.walk ctxR
 rw [enter_tm [_, _, _] 78 Tryd.func88 itBody (by kernel_rfl), itB_eq]
 simp only [List.replicate, List.cons_append, List.nil_append]
 show LT F ch _ (bIt.at _ _) cs W0
 refine hX.seq (hX.wp ctxR rfl rfl bIt_fn itokR0 fun τ t => ?_)
 have hlm := hms.lenle
 have c4 : (aT2 W0 τ t).cell? ⟨w.heap.size + 4, 0, none⟩ = some (.slice A' ms.length c') := hb4.cell 0
 have hJ0 : SV w (succF rs (ms.take 0)) W0 := by simpa [succF] using h0
 have HX := HH1 hX
 have Hrs := HH1 hrs
 have Hms := HH1 hms
 have Hb3 := HH1 hb3
 have Hn3 := HH1 hn3
 have Hcore := HH1 hcore
 have Hfine := HH1 hfine
 have Ho := HH1 ho
 have HJ := HH1 hJ0
 have Hke := HH1 ke
 have Hkx := HH1 kx
 clear hX hrs hms hb3 hb4 hn3 hcore hfine ho h0 hJ0 ke kx
 dsimp only [itR0, itB, Tryd.f88]
 go_wp2
 show LT F ch _ (bIt.at ⟨_, []⟩ _) cs (aT2 W0 τ t)
 refine HX.out.at2 _ _ _ τ t ?_
 clear c4 τ t
 refine HX.out.block (HX.out.loopN (I := fun n a V => ∃ k, k <= ms.length /\ n = ms.length - k /\ It1 a l w.heap.size A' ms.length c' k /\ SV w (succF rs (ms.take k)) V /\ KptL (sFootL w.heap.size) W0 V) (fun n a V hI ih => ?_) _ _ _ ⟨0, Nat.zero_le _, rfl, ⟨rfl, rfl, rfl, rfl, rfl, rfl, rfl, rfl⟩, HJ.out, KptL.refl _⟩)
 obtain ⟨k, hk, rfl, h, hJ, hkp⟩ := hI
 have hX := HX.out
 have hlt0 : ∀ b, b = decide (k < ms.length) -> decide ((k : Int) < (ms.length : Int)) = b := fun b hb => by rw [hb]; simp
 rw [itL1_eq]
 refine hX.seq ?_
 rw [itR1_eq]
 refine hX.region ?_
 rw [itz1]
 refine hX.val (v' := V) (some 17) (.bool (decide ((k : Int) < (ms.length : Int)))) rfl (by kernel_rfl) rfl rfl (fun τ t => run_lss _ 3 _ (.tmp 16) (.tmp 15) rfl Tryd.underlying3 h.s16 h.s15) (hX.done (hX.seq ?_))
 have s17 := slot_same (a := a) (d := 17) (x := .bool (decide ((k : Int) < (ms.length : Int)))) (by rw [h.sz]; decide)
 have h1 := h.put (d := 17) (x := .bool (decide ((k : Int) < (ms.length : Int)))) (by decide)
 generalize a.put (some 17) (.bool (decide ((k : Int) < (ms.length : Int)))) = a1 at s17 h1 ⊢
 clear h
 by_cases hlt : k < ms.length
 case neg =>
  rw [hlt0 false (by simp [hlt])] at s17
  obtain rfl : k = ms.length := by omega
  refine hX.cond (t := false) rfl s17 (hX.exit (k' := []) rfl (hX.fall ?_))
  rw [List.take_length] at hJ
  exact Hke.out _ _ h1.df hJ
 case pos =>
  rw [hlt0 true (by simp [hlt])] at s17
  refine hX.cond (t := true) rfl s17 (hX.skip ?_)
  have hkz := hkp.size
  have hs3 := hkp.same _ Hb3.out.lt Hn3.out
  refine it_round h1 (List.getElem?_eq_getElem hlt) (Hrs.out.kptL hkp) (Hms.out.kptL hkp) (Hb3.out.same hs3.1) hs3.2 Hcore.out Hfine.out Ho.out hl hW0 hkz hJ (fun a2 V2 h2 hJ2 hk2 => ?_) Hkx.out
  exact ih _ _ _ (by omega) ⟨k + 1, hlt, rfl, h2, hJ2, hkp.trans hk2⟩
end
section
open Go Go.Conc Go.RowKit Go.Shelf
theorem successors_callsL (A : Option Addr) (c k : Nat) (B : Option Addr) (cb m : Nat) (w : World) : Calls Tryd.prog 73 #[.slice A k c, .slice B m cb] w fun e w' => e = .returned (.func (.func 88) #[] #[.pointer (some ⟨w.heap.size + 1, 0, none⟩), .pointer (some ⟨w.heap.size, 0, none⟩)]) /\ w' = (w.alloc (.cells #[.slice A k c] 22)).alloc (.cells #[.slice B m cb] 23) := by
 go_enter Tryd.func73, Tryd.ntmps73
 go_wp2
 go_ret
 exact ⟨rfl, rfl⟩
theorem Kp.setL {v w : World} {g j : Nat} {x : Value} (h : Kp v w) (hg : v.heap.size <= g) : Kp v (w.setCell ⟨g, j, none⟩ x) := by
 refine ⟨by have := h.size; unfold World.setCell; simpa using this, fun a ha => (World.cell?_of_block ?_).trans (h.cell a ha)⟩
 unfold World.setCell
 rw [Array.getElem?_modify, if_neg (by simp; omega)]
theorem slat_nilM {F : Nat -> Prop} {w : World} : SlAt pMod F w none 0 [] := ⟨by simp, by simp, by simp, fun i x h => by simp at h⟩
theorem setTwoL {V : World} {z : Nat} {v0 v1 : Value} {t0 t1 : TypeId} (u0 u1 : Value) (r0 : Blk V z t0 #[v0]) (r1 : Blk V (z + 1) t1 #[v1]) :
  Blk ((V.setCell ⟨z, 0, none⟩ u0).setCell ⟨z + 1, 0, none⟩ u1) z t0 #[u0] /\ Blk ((V.setCell ⟨z, 0, none⟩ u0).setCell ⟨z + 1, 0, none⟩ u1) (z + 1) t1 #[u1] /\
  ((V.setCell ⟨z, 0, none⟩ u0).setCell ⟨z + 1, 0, none⟩ u1).heap.size = V.heap.size /\ ∀ k, k ≠ z -> k ≠ z + 1 -> ((V.setCell ⟨z, 0, none⟩ u0).setCell ⟨z + 1, 0, none⟩ u1).heap[k]? = V.heap[k]? := by
 have kk : ∀ k, k ≠ z -> k ≠ z + 1 -> ((V.setCell ⟨z, 0, none⟩ u0).setCell ⟨z + 1, 0, none⟩ u1).heap[k]? = V.heap[k]? := fun k h1 h2 => (Below.heap_setCell _ _ _ _ h2).trans (Below.heap_setCell _ _ _ _ h1)
 refine ⟨?_, ?_, by simp [World.setCell], kk⟩
 ·have h1 := (r0.set 0 u0).same (Below.heap_setCell (V.setCell ⟨z, 0, none⟩ u0) ⟨z + 1, 0, none⟩ u1 z (by show z ≠ z + 1; omega))
  simpa using h1
 ·have h1 := (r1.same (Below.heap_setCell V ⟨z, 0, none⟩ u0 (z + 1) (by show z + 1 ≠ z; omega))).set 0 u1
  simpa using h1
def RstK (F : Value -> Prop) (ch : Option Nat) (cs : List Frame) (v0 : World) (r : List Mod × Int) : Prop := ∀ a' v' todo A c, a'.defers = [] -> (∀ τ d, (results Tryd.f60 a'.tmps).run Tryd.prog (aT2 v' τ d) = .ok (.tuple #[.slice A r.1.length c, .int .i64 r.2]) (aT2 v' τ d)) -> SlAt pMod (Old v') v' A c r.1 -> Kp v0 v' ->
 MS Tryd.prog SR gR sR F [] ch { bRst.at a' todo with mode := .returning } cs v'
theorem rst_ms {F : Value -> Prop} {ch : Option Nat} {cs : List Frame} {A B : Option Addr} {c cb : Nat} {rs : List Rul} {ms : List Mod} {v : World} (hcs : ∀ c ∈ cs, Strict c) (h : SlAt pRul (Old v) v A c rs) (h' : SlAt pMod (Old v) v B cb ms)
  (hcore : rs.all coreR = true) (hfine : ∀ m ∈ ms, fineF m = true) (ho : ∀ r ∈ rs, r.out.length <= 30) (hl : ms.length <= 2000) (hk : RstK F ch cs v (stepF rs ms)) :
  MS Tryd.prog SR gR sR F [] ch (Frame.enter Tryd.prog 60 #[.slice A rs.length c, .slice B ms.length cb] .normal) cs v := by
 have hX : Walk Tryd.prog SR gR sR (MS Tryd.prog SR gR sR F [] ch) := MS.walk ctxR
 rw [enter_tm [_, _] 22 Tryd.func60 rstBody (by kernel_rfl), rstB_eq]
 simp only [List.replicate, List.cons_append, List.nil_append]
 show MS Tryd.prog SR gR sR F [] ch (bRst.at _ _) cs v
 have HX := HH1 hX
 have Hcs := HH1 hcs
 have Hr := HH1 h
 have Hm := HH1 h'
 have Hcore := HH1 hcore
 have Hfine := HH1 hfine
 have Ho := HH1 ho
 have Hk := HH1 hk
 clear hX hcs h h' hcore hfine ho hk
 refine HX.out.seq (HX.out.wp ctxR rfl bRst_fn rstokR0 fun τ t => ?_)
 dsimp only [rstR0, rstB, Tryd.f60]
 go_wp2
 show MS Tryd.prog SR gR sR F [] ch (bRst.at ⟨_, []⟩ _) cs (aT2 ((v.alloc (.cells #[.slice none 0 0] 23)).alloc (.cells #[.int .i64 0] 27)) τ t)
 refine HX.out.at2 _ _ _ τ t ?_
 rw [show (aT2 v τ t).heap.size = v.heap.size from rfl]
 clear τ t
 obtain ⟨w2, hw2⟩ : ∃ w2, w2 = (v.alloc (.cells #[.slice none 0 0] 23)).alloc (.cells #[.int .i64 0] 27) := ⟨_, rfl⟩
 rw [<- hw2]
 have hz2 : w2.heap.size = v.heap.size + 2 := by rw [hw2]; simp
 refine HX.out.seq (HX.out.wp ctxR rfl bRst_fn rstokR1 fun τ t => ?_)
 have hz2T : (aT2 w2 τ t).heap.size = v.heap.size + 2 := hz2
 have Hw2 := HH1 hw2
 clear hw2
 dsimp only [rstR1, rstB, Tryd.f60]
 go_wp2
 show MS Tryd.prog SR gR sR F [] ch (bRst.at ⟨_, []⟩ _) cs (aT2 (w2.alloc (.cells #[.slice none 0 0] 23)) τ t)
 refine HX.out.at2 _ _ _ τ t ?_
 try rw [hz2T]
 clear hz2T τ t
 obtain ⟨w3, hw3⟩ : ∃ w3, w3 = w2.alloc (.cells #[.slice none 0 0] 23) := ⟨_, rfl⟩
 rw [<- hw3]
 have hz3 : w3.heap.size = v.heap.size + 3 := by rw [hw3]; simp [hz2]
 refine HX.out.seq (HX.out.seq (HX.out.wp ctxR rfl bRst_fn rstokR2 fun τ t => ?_))
 have hsc := successors_callsL A c rs.length B cb ms.length (aT2 w3 τ t)
 have Hw3 := HH1 hw3
 clear hw3
 dsimp only [rstR2, rstB, Tryd.f60]
 go_wp2_with (go_at_call 73; refine hsc.mono ?_; rintro e w5 ⟨rfl, rfl⟩)
 show MS Tryd.prog SR gR sR F [] ch (bRst.at ⟨_, []⟩ _) cs (aT2 ((w3.alloc (.cells #[.slice A rs.length c] 22)).alloc (.cells #[.slice B ms.length cb] 23)) τ t)
 refine HX.out.at2 _ _ _ τ t ?_
 rw [show (aT2 w3 τ t).heap.size = v.heap.size + 3 from hz3]
 clear hsc τ t
 obtain ⟨W0, hW0⟩ : ∃ W0, W0 = (w3.alloc (.cells #[.slice A rs.length c] 22)).alloc (.cells #[.slice B ms.length cb] 23) := ⟨_, rfl⟩
 rw [<- hW0]
 have hz5 : W0.heap.size = v.heap.size + 5 := by rw [hW0]; simp [hz3]
 refine HX.out.block ?_
 have b0 : Blk W0 v.heap.size 23 #[.slice none 0 0] := by
  rw [hW0, Hw3.out, Hw2.out]
  exact ((((Blk.new v _ _).alloc _).alloc _).alloc _).alloc _
 have b1 : Blk W0 (v.heap.size + 1) 27 #[.int .i64 0] := by
  rw [hW0, Hw3.out, Hw2.out]
  have := Blk.new (v.alloc (.cells #[.slice none 0 0] 23)) 27 #[.int .i64 0]
  rw [World.size_alloc] at this
  exact ((this.alloc _).alloc _).alloc _
 have b2 : Blk W0 (v.heap.size + 2) 23 #[.slice none 0 0] := by
  rw [hW0, Hw3.out]
  have := Blk.new w2 23 #[.slice none 0 0]
  rw [hz2] at this
  exact (this.alloc _).alloc _
 have b3 : Blk W0 (v.heap.size + 3) 22 #[.slice A rs.length c] := by
  rw [hW0]
  have := Blk.new w3 22 #[.slice A rs.length c]
  rw [hz3] at this
  exact this.alloc _
 have b4 : Blk W0 (v.heap.size + 4) 23 #[.slice B ms.length cb] := by
  rw [hW0]
  have := Blk.new (w3.alloc (.cells #[.slice A rs.length c] 22)) 23 #[.slice B ms.length cb]
  rwa [World.size_alloc, hz3] at this
 have hG : Gw v W0 := ⟨by omega, fun k hk => by
  rw [hW0, Hw3.out, Hw2.out]
  rw [Below.heap_alloc _ _ _ (by simp; omega), Below.heap_alloc _ _ _ (by simp; omega), Below.heap_alloc _ _ _ (by simp; omega), Below.heap_alloc _ _ _ (by simp; omega), Below.heap_alloc _ _ _ hk]⟩
 have hnf : ∀ k, sFootL v.heap.size W0 k -> k = v.heap.size + 2 := fun k hf => by
  rcases hf with hf | ⟨u, h1, h2⟩
  ·exact hf
  ·rw [b2.cell] at h1; simp at h1; subst h1; cases h2
 have hold : ∀ k, k < v.heap.size -> k < W0.heap.size /\ ¬ sFootL v.heap.size W0 k := fun k hk => ⟨by omega, fun hf => by have := hnf k hf; omega⟩
 have hrs : SlAt pRul (fun k => k < W0.heap.size /\ ¬ sFootL v.heap.size W0 k) W0 A c rs := (Hr.out.keep fun k hk => hG.2 k hk).wide hold
 have hms : SlAt pMod (fun k => k < W0.heap.size /\ ¬ sFootL v.heap.size W0 k) W0 B cb ms := (Hm.out.keep fun k hk => hG.2 k hk).wide hold
 have h0 : SV v [] W0 := ⟨⟨none, 0, b2, Own.nil⟩, by simp, b0, b1, hG, by omega⟩
 clear hW0 Hw3 Hw2 hz2 hz3
 refine MS.loops (LS.range rfl rfl rfl ⟨_, _, Tryd.func88, itBody, by kernel_rfl⟩ fun l r => ?_)
 show LT F ch (some (rstQ v.heap.size (.slice A rs.length c) (.slice B ms.length cb) l r)) (Frame.enter Tryd.prog 88 #[yl l, .pointer (some ⟨v.heap.size + 4, 0, none⟩), .pointer (some ⟨v.heap.size + 3, 0, none⟩)] .normal) _ W0
 refine it_LS hrs hms b3 b4 (fun hf => by have := hnf _ hf; omega) Hcore.out Hfine.out Ho.out hl (by omega) h0 (fun a V hd hJ => ?_) (fun a t V pre hd hp hx => ?_)
 ·refine LS.retL hd rfl Tryd.func88 rfl ?_
  refine LS.endl (q := rstQ v.heap.size (.slice A rs.length c) (.slice B ms.length cb) l r) (by intro e; cases e) ?_
  obtain ⟨ts, hts⟩ : ∃ ts, ts = rstTm v.heap.size (.slice A rs.length c) (.slice B ms.length cb) undef undef := ⟨_, rfl⟩
  show LT F ch (some { rstQ v.heap.size (.slice A rs.length c) (.slice B ms.length cb) l r with st := .exhausted }) (bRst.at ⟨rstTm v.heap.size (.slice A rs.length c) (.slice B ms.length cb) undef undef, col r⟩ [.inBlock 0, .code rstT]) cs V
  have hY : WalkL Tryd.prog SR gR sR (LT F ch (some { rstQ v.heap.size (.slice A rs.length c) (.slice B ms.length cb) l r with st := .exhausted })) := KM.walk ctxR
  obtain ⟨Ao, co, hbo, hown⟩ := hJ.ow
  have hall : (succF rs ms).all (·.2) = true := List.all_eq_true.2 hJ.ok
  have hsl := succF_lenL Ho.out ms
  have hsz := hJ.sz
  refine hY.inBlock ?_
  rw [rstT_eq]
  show LT F ch (some { rstQ v.heap.size (.slice A rs.length c) (.slice B ms.length cb) l r with st := .exhausted }) (bRst.atR ⟨rstTm v.heap.size (.slice A rs.length c) (.slice B ms.length cb) undef undef, col r⟩ _) cs V
  refine hY.seqR (hY.seqR (hY.reg ctxR rfl bRst_fn rstq8 fun τ t => ?_))
  have y0 : (aT2 V τ t).cell? ⟨v.heap.size + 2, 0, none⟩ = some (.slice Ao (succF rs ms).length co) := hbo.cell 0
  have hlen : (succF rs ms).length <= 9223372036854775807 := by omega
  obtain ⟨n, hn⟩ : ∃ n, (succF rs ms).length = n := ⟨_, rfl⟩
  rw [hn] at y0 hlen
  have HJ := HH1 hJ
  have Hbo := HH1 hbo
  have Hown := HH1 hown
  have HY := HH1 hY
  have hr0 := hJ.r0
  have hr1 := hJ.r1
  have hgv := hJ.gw
  clear hJ hbo hown hY hrs hms h0 hold hnf b0 b1 b2 b3 b4
  have hne : v.heap.size + 1 ≠ v.heap.size := by omega
  dsimp only [rstO8, rstT, rstB, rstTm, Tryd.f60]
  by_cases hbig : 2000 < n
  ·have hst : stepF rs ms = ([], 4) := by unfold stepF; rw [if_pos hall, if_pos (by rw [hn]; exact hbig)]
   go_wp2
   show LT F ch (some { rstQ v.heap.size (.slice A rs.length c) (.slice B ms.length cb) l r with st := .exhausted }) (bRst.atR ⟨_, col r⟩ _) cs (aT2 V τ t)
   refine HY.out.at2 _ _ _ τ t ?_
   clear y0 τ t
   refine HY.out.condR (t := true) rfl (congrArg Value.bool (decide_eq_true (by omega))) ?_
   show LT F ch (some { rstQ v.heap.size (.slice A rs.length c) (.slice B ms.length cb) l r with st := .exhausted }) (bRst.atR ⟨_, col r⟩ (.code (.seq (.region 9 rstO9 false) .ret) :: _)) cs V
   refine HY.out.seqR (HY.out.reg ctxR rfl bRst_fn rstq9 fun τ t => ?_)
   have z0 : (aT2 V τ t).cell? ⟨v.heap.size, 0, none⟩ = some (.slice none 0 0) := hr0.cell 0
   have z1 : (aT2 V τ t).cell? ⟨v.heap.size + 1, 0, none⟩ = some (.int .i64 0) := hr1.cell 0
   have g0 : (aT2 V τ t).frozen? ⟨v.heap.size, 0, none⟩ = false := hr0.free 0
   have g1 : (aT2 V τ t).frozen? ⟨v.heap.size + 1, 0, none⟩ = false := hr1.free 0
   have Hr0 := HH1 hr0
   have Hr1 := HH1 hr1
   clear hr0 hr1
   dsimp only [rstO9, rstT, rstB, Tryd.f60]
   go_wp2
   show LT F ch (some { rstQ v.heap.size (.slice A rs.length c) (.slice B ms.length cb) l r with st := .exhausted }) (bRst.atR ⟨_, col r⟩ _) cs (aT2 ((V.setCell ⟨v.heap.size, 0, none⟩ (.slice none 0 0)).setCell ⟨v.heap.size + 1, 0, none⟩ (.int .i64 4)) τ t)
   refine HY.out.at2 _ _ _ τ t ?_
   clear z0 z1 g0 g1 τ t
   obtain ⟨q0, q1, qz, qk⟩ := setTwoL (.slice none 0 0) (.int .i64 4) Hr0.out Hr1.out
   generalize (V.setCell ⟨v.heap.size, 0, none⟩ (.slice none 0 0)).setCell ⟨v.heap.size + 1, 0, none⟩ (.int .i64 4) = V2 at q0 q1 qz qk ⊢
   show LT F ch (some { rstQ v.heap.size (.slice A rs.length c) (.slice B ms.length cb) l r with st := .exhausted }) (bRst.at ⟨_, col r⟩ _) cs V2
   refine HY.out.ret (LS.take rfl (LS.out ⟨rfl, rfl⟩ Hcs.out (Hk.out _ _ _ none 0 rfl (fun τ d => ?_) (by rw [hst]; exact slat_nilM) (Kp.gw ⟨by omega, fun k hk => (qk k (by omega) (by omega)).trans (hgv.2 k hk)⟩))))
   have c0 : (aT2 V2 τ d).cell? ⟨v.heap.size, 0, none⟩ = some (.slice none 0 0) := q0.cell 0
   have c1 : (aT2 V2 τ d).cell? ⟨v.heap.size + 1, 0, none⟩ = some (.int .i64 4) := q1.cell 0
   rw [hst]
   simp [results, Tryd.f60, go_sem, c0, c1]
  ·have hst : stepF rs ms = ((succF rs ms).map (·.1), 0) := by unfold stepF; rw [if_pos hall, if_neg (by rw [hn]; exact hbig)]
   go_wp2
   show LT F ch (some { rstQ v.heap.size (.slice A rs.length c) (.slice B ms.length cb) l r with st := .exhausted }) (bRst.atR ⟨_, col r⟩ _) cs (aT2 V τ t)
   refine HY.out.at2 _ _ _ τ t ?_
   clear y0 τ t
   refine HY.out.condR (t := false) rfl (congrArg Value.bool (decide_eq_false (by omega))) ?_
   show LT F ch (some { rstQ v.heap.size (.slice A rs.length c) (.slice B ms.length cb) l r with st := .exhausted }) (bRst.atR ⟨_, col r⟩ (.code .skip :: .code (.seq (.region 10 rstO10 false) .ret) :: _)) cs V
   refine HY.out.skipR (HY.out.seqR (HY.out.reg ctxR rfl bRst_fn rstq10 fun τ t => ?_))
   have y0 : (aT2 V τ t).cell? ⟨v.heap.size + 2, 0, none⟩ = some (.slice Ao n co) := by rw [<- hn]; exact Hbo.out.cell 0
   have z0 : (aT2 V τ t).cell? ⟨v.heap.size, 0, none⟩ = some (.slice none 0 0) := hr0.cell 0
   have z1 : (aT2 V τ t).cell? ⟨v.heap.size + 1, 0, none⟩ = some (.int .i64 0) := hr1.cell 0
   have g0 : (aT2 V τ t).frozen? ⟨v.heap.size, 0, none⟩ = false := hr0.free 0
   have g1 : (aT2 V τ t).frozen? ⟨v.heap.size + 1, 0, none⟩ = false := hr1.free 0
   have Hr0 := HH1 hr0
   have Hr1 := HH1 hr1
   clear hr0 hr1
   dsimp only [rstO10, rstT, rstB, Tryd.f60]
   go_wp2
   show LT F ch (some { rstQ v.heap.size (.slice A rs.length c) (.slice B ms.length cb) l r with st := .exhausted }) (bRst.atR ⟨_, col r⟩ _) cs (aT2 ((V.setCell ⟨v.heap.size, 0, none⟩ (.slice Ao n co)).setCell ⟨v.heap.size + 1, 0, none⟩ (.int .i64 0)) τ t)
   refine HY.out.at2 _ _ _ τ t ?_
   clear y0 z0 z1 g0 g1 τ t
   obtain ⟨q0, q1, qz, qk⟩ := setTwoL (.slice Ao n co) (.int .i64 0) Hr0.out Hr1.out
   generalize (V.setCell ⟨v.heap.size, 0, none⟩ (.slice Ao n co)).setCell ⟨v.heap.size + 1, 0, none⟩ (.int .i64 0) = V2 at q0 q1 qz qk ⊢
   have hown2 : Own pMod 49 (v.heap.size + 5) (v.heap.size + 5 <= ·) V2 (.slice Ao (succF rs ms).length co) ((succF rs ms).map (·.1)) := Hown.out.keepG (fun k hk hG => qk k (by
    rcases hG with hG | hG
    ·omega
    ·have := (Hown.out.lt k hG).1; omega) (by
    rcases hG with hG | hG
    ·omega
    ·have := (Hown.out.lt k hG).1; omega)) (by omega)
   obtain ⟨A9, c9, hv9, hsl9⟩ := hown2.fresh
   injection hv9 with e1 e2 e3
   subst e1 e3
   show LT F ch (some { rstQ v.heap.size (.slice A rs.length c) (.slice B ms.length cb) l r with st := .exhausted }) (bRst.at ⟨_, col r⟩ _) cs V2
   refine HY.out.ret (LS.take rfl (LS.out ⟨rfl, rfl⟩ Hcs.out (Hk.out _ _ _ Ao co rfl (fun τ d => ?_) (by rw [hst]; exact hsl9.wide fun q hq => hq.2) (Kp.gw ⟨by omega, fun k hk => (qk k (by omega) (by omega)).trans (hgv.2 k hk)⟩))))
   have c0 : (aT2 V2 τ d).cell? ⟨v.heap.size, 0, none⟩ = some (.slice Ao n co) := q0.cell 0
   have c1 : (aT2 V2 τ d).cell? ⟨v.heap.size + 1, 0, none⟩ = some (.int .i64 0) := q1.cell 0
   rw [hst]
   simp [results, Tryd.f60, go_sem, c0, c1, hn]
 ·have hst := stepF_noL hp hx.no
  refine LS.retL (q := rstQx v.heap.size (.slice A rs.length c) (.slice B ms.length cb) l r) hd rfl Tryd.func88 rfl ?_
  refine LS.endl (q := rstQx v.heap.size (.slice A rs.length c) (.slice B ms.length cb) l r) (by intro e; cases e) ?_
  show LT F ch (some { rstQx v.heap.size (.slice A rs.length c) (.slice B ms.length cb) l r with st := .exhausted }) (bRst.at ⟨rstTm v.heap.size (.slice A rs.length c) (.slice B ms.length cb) undef undef, col r⟩ [.code .ret, .inBlock 0, .code rstT]) cs V
  have hY : WalkL Tryd.prog SR gR sR (LT F ch (some { rstQx v.heap.size (.slice A rs.length c) (.slice B ms.length cb) l r with st := .exhausted })) := KM.walk ctxR
  refine hY.ret (LS.take rfl (LS.out ⟨rfl, rfl⟩ Hcs.out (Hk.out _ _ _ none 0 rfl (fun τ d => ?_) (by rw [hst]; exact slat_nilM) (Kp.gw hx.gw))))
  have c0 : (aT2 V τ d).cell? ⟨v.heap.size, 0, none⟩ = some (.slice none 0 0) := hx.r0.cell 0
  have c1 : (aT2 V τ d).cell? ⟨v.heap.size + 1, 0, none⟩ = some (.int .i64 16) := hx.r1.cell 0
  rw [hst]
  simp [results, rstTm, Tryd.f60, go_sem, c0, c1]
end
section
open Go Go.Conc Go.RowKit
theorem rOpen_callsL (A : Option Addr) (c : Nat) (rs : List Rul) (B : Option Addr) (cb : Nat) (ms : List Mod) (w : World) (h : SlAt pRul (Old w) w A c rs) (h' : SlAt pMod (Old w) w B cb ms) (hs : Small rs) :
  Calls Tryd.prog 59 #[.slice A rs.length c, .slice B ms.length cb] w (IntPost (openR rs ms) w) := by
 have hck := rCheck_calls A c rs w h hs
 obtain ⟨H, H', Hck⟩ := HH3 h h' hck; clear h h' hck
 go_enter Tryd.func59, Tryd.ntmps59
 go_wp2_with fail
 refine Hck.out.mono ?_
 rintro e w1 ⟨rfl, hb1⟩
 have hz1 := hb1.size
 by_cases hr : checkR rs = 0
 ·have e0 : (checkR rs != 0) = false := by simp [hr]
  have hff : openR rs ms = checkF ms := by unfold openR; rw [if_pos hr]
  have hcw := wordCheck_calls B cb ms w1 (H'.out.later hb1)
  obtain ⟨Hb1, Hff, Hr, Hcw⟩ := HH4 hb1 hff hr hcw; clear hb1 hff hr hcw
  go_wp2_with fail
  refine Hcw.out.mono ?_
  rintro e w2 ⟨rfl, hb2⟩
  have hbw2 := Hb1.out.trans (hb2.mono hz1)
  have Hbw2 := HH1 hbw2; clear hbw2
  clear hb2
  go_wp2
  go_ret
  exact ⟨ret_int Hff.out.symm, Hbw2.out⟩
 ·have e0 : (checkR rs != 0) = true := by simp [hr]
  have hff : openR rs ms = checkR rs := by unfold openR; rw [if_neg hr]
  obtain ⟨Hb1, Hff, Hr⟩ := HH3 hb1 hff hr; clear hb1 hff hr
  go_wp2
  go_ret
  exact ⟨ret_int Hff.out.symm, Hb1.out⟩
theorem openR_okL {rs : List Rul} {ms : List Mod} (h : openR rs ms = 0) : checkR rs = 0 /\ checkF ms = 0 := by
 unfold openR at h
 by_cases hr : checkR rs = 0
 ·rw [if_pos hr] at h; exact ⟨hr, h⟩
 ·rw [if_neg hr] at h; exact absurd h hr
theorem iterR_stepL {rs : List Rul} {n : Nat} {ms : List Mod} : iterR rs (n + 1) ms = if (stepF rs ms).2 = 0 then iterR rs n (stepF rs ms).1 else ([], (stepF rs ms).2) := rfl
noncomputable def rrB : Code := match Tryd.f39.body with | some c => c | none => .skip
theorem rrBody : Tryd.f39.body = some rrB := by kernel_rfl
noncomputable def rrR0 : Code := match rrB with | .seq a _ => a | _ => .skip
noncomputable def rrC1 : Code := match rrB with | .seq _ (.seq a _) => a | _ => .skip
noncomputable def rrC4 : Code := match rrB with | .seq _ (.seq _ (.seq a _)) => a | _ => .skip
noncomputable def rrR6 : Code := match rrB with | .seq _ (.seq _ (.seq _ (.seq a _))) => a | _ => .skip
noncomputable def rrR7 : Code := match rrB with | .seq _ (.seq _ (.seq _ (.seq _ (.seq (.seq a _) _)))) => a | _ => .skip
noncomputable def rrL : Code := match rrB with | .seq _ (.seq _ (.seq _ (.seq _ (.seq (.seq _ (.block _ (.loop a))) _)))) => a | _ => .skip
noncomputable def rrT : Code := match rrB with | .seq _ (.seq _ (.seq _ (.seq _ (.seq _ a)))) => a | _ => .skip
theorem rrB_eq : rrB = .seq rrR0 (.seq rrC1 (.seq rrC4 (.seq rrR6 (.seq (.seq rrR7 (.block 0 (.loop rrL))) rrT)))) := by kernel_rfl
noncomputable def rro8 : Array Oper := match rrL with | .seq (.region _ o _) _ => o | _ => #[]
noncomputable def rro9 : Array Oper := match rrL with | .seq _ (.seq _ (.seq (.block _ (.seq (.region _ o _) _)) _)) => o | _ => #[]
noncomputable def rro10 : Array Oper := match rrL with | .seq _ (.seq _ (.seq (.block _ (.seq _ (.seq (.region _ o _) _))) _)) => o | _ => #[]
noncomputable def rro11 : Array Oper := match rrL with | .seq _ (.seq _ (.seq (.block _ (.seq _ (.seq _ (.seq (.region _ o _) _)))) _)) => o | _ => #[]
noncomputable def rro12 : Array Oper := match rrL with | .seq _ (.seq _ (.seq (.block _ (.seq _ (.seq _ (.seq _ (.cond _ (.seq (.region _ o _) _) _))))) _)) => o | _ => #[]
noncomputable def rro13 : Array Oper := match rrL with | .seq _ (.seq _ (.seq _ (.region _ o _))) => o | _ => #[]
noncomputable def rro14 : Array Oper := match rrT with | .seq (.region _ o _) _ => o | _ => #[]
theorem rrL_eq : rrL = .seq (.region 8 rro8 false) (.seq (.cond (.tmp 26) .skip (.exit 0)) (.seq (.block 1 (.seq (.region 9 rro9 false) (.seq (.region 10 rro10 false) (.seq (.region 11 rro11 false) (.cond (.tmp 34) (.seq (.region 12 rro12 false) .ret) .skip))))) (.region 13 rro13 false))) := by kernel_rfl
theorem rrT_eq : rrT = .seq (.region 14 rro14 false) .ret := by kernel_rfl
theorem rrz8 : List.range rro8.size = [0] := by kernel_rfl
theorem rrz9 : List.range rro9.size = [0] := by kernel_rfl
theorem rrz10 : List.range rro10.size = [0, 1, 2, 3, 4, 5, 6, 7] := by kernel_rfl
theorem rrz11 : List.range rro11.size = [0, 1] := by kernel_rfl
theorem rrz12 : List.range rro12.size = [0, 1, 2] := by kernel_rfl
theorem rrz13 : List.range rro13.size = [0, 1] := by kernel_rfl
theorem rrz14 : List.range rro14.size = [0, 1, 2] := by kernel_rfl
theorem rrokR0 : okC Tryd.prog gR sR rrR0 = true := by kernel_rfl
theorem rrokC1 : okC Tryd.prog gR sR rrC1 = true := by kernel_rfl
theorem rrokC4 : okC Tryd.prog gR sR rrC4 = true := by kernel_rfl
theorem rrokR6 : okC Tryd.prog gR sR rrR6 = true := by kernel_rfl
theorem rrokR7 : okC Tryd.prog gR sR rrR7 = true := by kernel_rfl
def bRr : Frame := { (default : Frame) with fn := 39, kind := .normal }
theorem bRr_fn : ∃ fn, Tryd.prog.funcs[bRr.fn]? = some fn := ⟨Tryd.f39, Tryd.func39⟩
theorem strict_cons {b : Frame} {a : Act} {k : List Item} {cs : List Frame} (hd : a.defers = []) (h : ∀ c ∈ cs, Strict c) : ∀ c ∈ b.at a k :: cs, Strict c := fun c hc => by
 rcases List.mem_cons.1 hc with e | e
 ·rw [e]; exact ⟨hd, rfl⟩
 ·exact h c e
section
variable {F : Value -> Prop} {ch : Option Nat} {cs : List Frame} {kk : List Item}
def RrK (F : Value -> Prop) (ch : Option Nat) (cs : List Frame) (v0 : World) (r : List Mod × Int) : Prop := ∀ a' v' todo A c, a'.defers = [] -> slot a' 6 (.slice A r.1.length c) -> slot a' 7 (.int .i64 r.2) -> SlAt pMod (Old v') v' A c r.1 -> Kp v0 v' -> MS Tryd.prog SR gR sR F [] ch { bRr.at a' todo with mode := .returning } cs v'
theorem RrK.err {v0 : World} {r : List Mod × Int} {x : Int} (h : RrK F ch cs v0 r) (hr : r = ([], x)) {a' : Act} {v' : World} {todo : List Item} (hd : a'.defers = []) (h6 : slot a' 6 (.slice none 0 0)) (h7 : slot a' 7 (.int .i64 x)) (k : Kp v0 v') : MS Tryd.prog SR gR sR F [] ch { bRr.at a' todo with mode := .returning } cs v' := by
 subst hr
 exact h a' v' todo none 0 hd h6 h7 slat_nilM k
theorem rr_round {RA A : Option Addr} {rc c N k : Nat} {rs : List Rul} {cur : List Mod} {a : Act} {v v0 : World} (hcs : ∀ c ∈ cs, Strict c) (h : Sl 38 a (lk [(0, .slice RA rs.length rc), (1, .slice A cur.length c), (24, .int .i64 (N : Nat)), (25, .int .i64 (k : Nat))])) (hkN : k < N) (hr : SlAt pRul (Old v) v RA rc rs) (hl : SlAt pMod (Old v) v A c cur)
  (hcore : rs.all coreR = true) (ho : ∀ r ∈ rs, r.out.length <= 30) (hc : checkF cur = 0) (k0 : Kp v0 v) (hN : N <= 30)
  (herr : (stepF rs cur).2 ≠ 0 -> RrK F ch cs v0 ([], (stepF rs cur).2))
  (hk : (stepF rs cur).2 = 0 -> ∀ a v' A' c', Sl 38 a (lk [(0, .slice RA rs.length rc), (1, .slice A' (stepF rs cur).1.length c'), (24, .int .i64 (N : Nat)), (25, .int .i64 ((k + 1 : Nat) : Int))]) -> SlAt pMod (Old v') v' A' c' (stepF rs cur).1 -> Kp v v' -> MS Tryd.prog SR gR sR F [] ch (bRr.at a kk) cs v') :
  MS Tryd.prog SR gR sR F [] ch (bRr.at a (.code rrL :: kk)) cs v := by
 have hX : Walk Tryd.prog SR gR sR (MS Tryd.prog SR gR sR F [] ch) := MS.walk ctxR
 have elt : decide ((k : Int) < (N : Int)) = true := by simp; omega
 rw [rrL_eq]
 refine hX.seq (hX.region ?_)
 rw [rrz8]
 refine hX.ls h rfl (by kernel_rfl) (.inl rfl) rfl rfl rfl Tryd.underlying3 rfl rfl elt fun a h => ?_
 refine hX.done (hX.seq (hX.cd (t := true) h rfl rfl (hX.skip (hX.seq (hX.block (hX.seq (hX.region ?_)))))))
 rw [rrz9]
 refine hX.mv h rfl (by kernel_rfl) (.inl rfl) rfl (.inr rfl) rfl rfl fun a h => ?_
 refine hX.done (hX.seq (hX.region ?_))
 rw [rrz10]
 refine hX.mv h rfl (by kernel_rfl) (.inl rfl) rfl (.inl rfl) rfl rfl fun a h => ?_
 refine hX.mv h rfl (by kernel_rfl) (.inl rfl) rfl (.inl rfl) rfl rfl fun a h => ?_
 refine MS.en (xs := [.slice RA rs.length rc, .slice A cur.length c]) h rfl (.inl rfl) rfl (by kernel_rfl) ⟨_, _, Tryd.func60, rstBody, by kernel_rfl⟩ rfl ?_
 refine rst_ms (strict_cons h.df hcs) hr hl hcore (checkF_fine hc) ho (checkF_le hc) ?_
 intro a' v' todo X xc hd' hres hsl kv
 obtain ⟨⟨ol, oe⟩, hoo⟩ : ∃ o, stepF rs cur = o := ⟨_, rfl⟩
 rw [hoo] at hres hsl herr hk
 simp only at hres hsl herr hk
 refine hX.bk (x := .tuple #[.slice X ol.length xc, .int .i64 oe]) h rfl rfl Tryd.func60 rfl rfl rfl (fun τ t => hres τ t) fun a h => ?_
 refine hX.mv h rfl (by kernel_rfl) (.inl rfl) rfl (.inl rfl) rfl rfl fun a h => ?_
 refine hX.ex h rfl (by kernel_rfl) (.inl rfl) rfl rfl rfl rfl rfl fun a h => ?_
 refine hX.ex h rfl (by kernel_rfl) (.inl rfl) rfl rfl rfl rfl rfl fun a h => ?_
 refine hX.mv h rfl (by kernel_rfl) (.inl rfl) rfl (.inr rfl) rfl rfl fun a h => ?_
 refine hX.mv h rfl (by kernel_rfl) (.inl rfl) rfl (.inr rfl) rfl rfl fun a h => ?_
 refine hX.done (hX.seq (hX.region ?_))
 rw [rrz11]
 by_cases h0 : oe = 0
 case neg =>
  have ene : decide (oe ≠ 0) = true := by simp [h0]
  refine hX.mv h rfl (by kernel_rfl) (.inl rfl) rfl (.inl rfl) rfl rfl fun a h => ?_
  refine hX.nq h rfl (by kernel_rfl) (.inl rfl) rfl rfl rfl Tryd.underlying27 rfl rfl ene fun a h => ?_
  refine hX.done (hX.cd (t := true) h rfl rfl (hX.seq (hX.region ?_)))
  rw [rrz12]
  refine hX.mv h rfl (by kernel_rfl) (.inl rfl) rfl (.inl rfl) rfl rfl fun a h => ?_
  refine hX.mv h rfl (by kernel_rfl) (.inl rfl) rfl (.inr rfl) rfl rfl fun a h => ?_
  refine hX.mv h rfl (by kernel_rfl) (.inl rfl) rfl (.inr rfl) rfl rfl fun a h => ?_
  exact hX.done (hX.ret ((herr h0).err rfl h.df (h.at_ 6 _ rfl) (h.at_ 7 _ rfl) (k0.trans kv)))
 case pos =>
  subst h0
  have ene : decide ((0 : Int) ≠ 0) = false := by decide
  refine hX.mv h rfl (by kernel_rfl) (.inl rfl) rfl (.inl rfl) rfl rfl fun a h => ?_
  refine hX.nq h rfl (by kernel_rfl) (.inl rfl) rfl rfl rfl Tryd.underlying27 rfl rfl ene fun a h => ?_
  refine hX.done (hX.cd (t := false) h rfl rfl (hX.skip (hX.inBlock (hX.region ?_))))
  rw [rrz13]
  refine hX.ad h rfl (by kernel_rfl) (.inl rfl) rfl rfl rfl Tryd.underlying3 rfl rfl (by omega) fun a h => ?_
  refine hX.mv h rfl (by kernel_rfl) (.inl rfl) rfl (.inl rfl) rfl rfl fun a h => ?_
  exact hX.done (hk rfl _ v' X xc (h.to ⟨rfl, rfl, rfl, rfl, trivial⟩) hsl kv)
theorem rr_loop {RA : Option Addr} {rc N : Nat} {rs : List Rul} {v0 : World} {rr : List Mod × Int} (hcs : ∀ c ∈ cs, Strict c) (hcore : rs.all coreR = true) (ho : ∀ r ∈ rs, r.out.length <= 30) (hN : N <= 30) (hK : RrK F ch cs v0 rr) :
  ∀ (d k : Nat), k + d = N -> ∀ {A : Option Addr} {c : Nat} {cur : List Mod} {a : Act} {v : World}, Sl 38 a (lk [(0, .slice RA rs.length rc), (1, .slice A cur.length c), (24, .int .i64 (N : Nat)), (25, .int .i64 (k : Nat))]) -> SlAt pRul (Old v) v RA rc rs -> SlAt pMod (Old v) v A c cur -> checkF cur = 0 -> Kp v0 v -> iterR rs d cur = rr ->
   MS Tryd.prog SR gR sR F [] ch (bRr.at a (.code rrL :: .inLoop rrL :: [.inBlock 0, .code rrT])) cs v
 | 0, k, hkd, A, c, cur, a, v, h, hr, hl, hc, k0, hrr => by
  have hX : Walk Tryd.prog SR gR sR (MS Tryd.prog SR gR sR F [] ch) := MS.walk ctxR
  have hrr : rr = (cur, 0) := hrr.symm
  have elt : decide ((k : Int) < (N : Int)) = false := by simp; omega
  rw [rrL_eq]
  refine hX.seq (hX.region ?_)
  rw [rrz8]
  refine hX.ls h rfl (by kernel_rfl) (.inl rfl) rfl rfl rfl Tryd.underlying3 rfl rfl elt fun a h => ?_
  refine hX.done (hX.seq (hX.cd (t := false) h rfl rfl (hX.exit rfl ?_)))
  rw [rrT_eq]
  refine hX.seq (hX.region ?_)
  rw [rrz14]
  refine hX.mv h rfl (by kernel_rfl) (.inl rfl) rfl (.inl rfl) rfl rfl fun a h => ?_
  refine hX.mv h rfl (by kernel_rfl) (.inl rfl) rfl (.inr rfl) rfl rfl fun a h => ?_
  refine hX.mv h rfl (by kernel_rfl) (.inl rfl) rfl (.inr rfl) rfl rfl fun a h => ?_
  subst hrr
  exact hX.done (hX.ret (hK _ v _ A c h.df (h.at_ 6 _ rfl) (h.at_ 7 _ rfl) hl k0))
 | d + 1, k, hkd, A, c, cur, a, v, h, hr, hl, hc, k0, hrr => by
  rw [iterR_stepL] at hrr
  refine rr_round hcs h (by omega) hr hl hcore ho hc k0 hN (fun h0 => ?_) fun h0 a' v' A' c' h' hl' k' => ?_
  ·rw [if_neg h0] at hrr
   rw [hrr]; exact hK
  ·rw [if_pos h0] at hrr
   have hX : Walk Tryd.prog SR gR sR (MS Tryd.prog SR gR sR F [] ch) := MS.walk ctxR
   exact hX.again (rr_loop hcs hcore ho hN hK d (k + 1) (by omega) h' (hr.kp eqv_rul k') hl' (step_valid hcore hc h0) (k0.trans k') hrr)
theorem rr_ms {RA WA : Option Addr} {rc wc : Nat} {rs : List Rul} {ms : List Mod} {n : Int} {v : World} (hcs : ∀ c ∈ cs, Strict c) (hr : SlAt pRul (Old v) v RA rc rs) (hm : SlAt pMod (Old v) v WA wc ms) (hsm : Small rs) (hn : Fits .i64 n)
  (hk : RrK F ch cs v (rRunF rs ms n)) :
  MS Tryd.prog SR gR sR F [] ch (Frame.enter Tryd.prog 39 #[.slice RA rs.length rc, .slice WA ms.length wc, .int .i64 n] .normal) cs v := by
 have hX : Walk Tryd.prog SR gR sR (MS Tryd.prog SR gR sR F [] ch) := MS.walk ctxR
 have hn64 := hn.i64
 rw [enter_tm [_, _, _] 35 Tryd.func39 rrBody (by kernel_rfl), rrB_eq]
 simp only [List.replicate, List.cons_append, List.nil_append]
 show MS Tryd.prog SR gR sR F [] ch (bRr.at _ _) cs v
 refine hX.seq (hX.wp ctxR rfl bRr_fn rrokR0 fun τ d => ?_)
 have k1 : Kp v (aT2 v τ d) := Kp.at2 _ _ _
 generalize aT2 v τ d = v1 at k1 ⊢
 have Hcs := HH1 hcs
 clear hcs
 obtain ⟨Hr, Hm, Hk, HX⟩ := HH4 hr hm hk hX; clear hr hm hk hX
 dsimp only [rrR0, rrB, Tryd.f39]
 go_wp2
 refine HX.out.seq (HX.out.wp ctxR rfl bRr_fn rrokC1 fun τ d => ?_)
 have k2 : Kp v (aT2 v1 τ d) := k1.trans (Kp.at2 _ _ _)
 generalize aT2 v1 τ d = v2 at k2 ⊢
 have hck := rOpen_callsL RA rc rs WA wc ms v2 (Hr.out.kp eqv_rul k2) (Hm.out.kp eqv_mod k2) hsm
 unfold IntPost at hck
 dsimp only [rrC1, rrB, Tryd.f39]
 by_cases hc : openR rs ms = 0
 case neg =>
  have e0 : (openR rs ms != 0) = true := by simp [hc]
  have hff : rRunF rs ms n = ([], openR rs ms) := by unfold rRunF; rw [if_neg hc]
  generalize openR rs ms = x at hck hff e0
  obtain ⟨Hck, Hff⟩ := HH2 hck hff; clear hck hff
  clear hc
  go_wp2_with (go_at_call 59; refine Hck.out.mono ?_; rintro e w1 ⟨rfl, hb1⟩)
  intro todo
  exact Hk.out.err Hff.out rfl rfl rfl (k2.trans (Kp.below hb1))
 case pos =>
 rw [hc] at hck
 obtain ⟨hc1, hc2⟩ := openR_okL hc
 have hfine := checkF_fine hc2
 have hle := checkF_le hc2
 have hcore := (checkR_ok hc1).1
 obtain ⟨Hck, Hc, Hc1, Hc2, Hcore⟩ := HH5 hck hc hc1 hc2 hcore; clear hck hc hc1 hc2 hcore
 go_wp2_with (go_at_call 59; refine Hck.out.mono ?_; rintro e w1 ⟨rfl, hb1⟩)
 have k3 := k2.trans (Kp.below hb1)
 refine HX.out.seq (HX.out.wp ctxR rfl bRr_fn rrokC4 fun τ d => ?_)
 have k4 : Kp v (aT2 w1 τ d) := k3.trans (Kp.at2 _ _ _)
 generalize aT2 w1 τ d = v4 at k4 ⊢
 clear hb1 k3
 dsimp only [rrC4, rrB, Tryd.f39]
 by_cases hbad1 : n < 0
 ·have hff : rRunF rs ms n = ([], 2) := by unfold rRunF; rw [if_pos Hc.out, if_pos (.inl hbad1)]
  have Hff := HH1 hff; clear hff
  clear hfine
  go_wp2
  intro todo
  exact Hk.out.err Hff.out rfl rfl rfl k4
 by_cases hbad2 : 30 < n
 ·have hff : rRunF rs ms n = ([], 2) := by unfold rRunF; rw [if_pos Hc.out, if_pos (.inr hbad2)]
  have Hff := HH1 hff; clear hff
  clear hfine
  go_wp2
  intro todo
  exact Hk.out.err Hff.out rfl rfl rfl k4
 obtain ⟨N, rfl⟩ := Int.eq_ofNat_of_zero_le (show 0 <= n by omega)
 have hN : N <= 30 := by omega
 have Hfine := HH1 hfine
 clear hfine
 go_wp2
 refine HX.out.seq (HX.out.wp ctxR rfl bRr_fn rrokR6 fun τ d => ?_)
 have k5 : Kp v (aT2 v4 τ d) := k4.trans (Kp.at2 _ _ _)
 generalize aT2 v4 τ d = v5 at k5 ⊢
 have htw := twin_calls WA wc ms v5 (Hm.out.kp eqv_mod k5) (by omega) (fun m hm => by have := (fine_args (Hfine.out m hm)).2; omega)
 unfold TwinPost at htw
 have Htw := HH1 htw; clear htw
 dsimp only [rrR6, rrB, Tryd.f39]
 go_wp2_with (go_at_call 43; refine Htw.out.mono ?_; rintro e w2 ⟨A2, c2, rfl, ho2, hb2⟩)
 have k6 := k5.trans (Kp.below hb2)
 obtain ⟨A9, c9, hv9, hsl9⟩ := ho2.fresh
 injection hv9 with e1 e2 e3
 subst e1 e3
 have hs2 : SlAt pMod (Old w2) w2 A2 c2 ms := (slAt_modF hsl9).wide fun q hq => hq.2
 clear hb2 ho2 hsl9
 refine HX.out.seq (HX.out.seq (HX.out.wp ctxR rfl bRr_fn rrokR7 fun τ d => ?_))
 have k8 : Kp v (aT2 w2 τ d) := k6.trans (Kp.at2 _ _ _)
 have hs3 := hs2.kp eqv_mod (Kp.at2 w2 τ d)
 generalize aT2 w2 τ d = v8 at k8 hs3 ⊢
 have Hs3 := HH1 hs3; clear hs3
 dsimp only [rrR7, rrB, Tryd.f39]
 go_wp2
 refine HX.out.block (HX.out.loop (rr_loop (rr := rRunF rs ms N) Hcs.out Hcore.out hsm.o hN Hk.out N 0 (by omega) (Sl.of rfl rfl ⟨rfl, rfl, rfl, rfl, trivial⟩) (Hr.out.kp eqv_rul k8) Hs3.out Hc2.out k8 ?_))
 unfold rRunF
 rw [if_pos Hc.out, if_neg (by omega), Int.toNat_natCast]
end
end
end Go.Proofs.YtlipmagkplbkdaaDoor
