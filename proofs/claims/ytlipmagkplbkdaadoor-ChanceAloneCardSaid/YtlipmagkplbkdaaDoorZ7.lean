/- Texts of the proof that the statement of ChanceAlone holds, several in one. -/
import Derived.Test.YtlipmagkplbkdaaDoorZ5
import Derived.Test.YtlipmagkplbkdaaDoorProg
import Derived.WalkKit
import Derived.Test.YtlipmagkplbkdaaDoorZ6
import Derived.Great.BuildSlice
set_option linter.unusedVariables false
set_option linter.unusedSimpArgs false
set_option linter.unusedSectionVars false
set_option maxRecDepth 100000
set_option maxHeartbeats 8000000
namespace Go.Proofs.YtlipmagkplbkdaaDoor
section
open Go Go.Conc Go.RowKit
def LR : List FuncId := [11, 12, 14, 15, 16, 17, 18, 19, 20, 21, 22, 23, 24, 25, 27, 28, 29, 30, 31, 32, 34, 35, 36, 37, 38, 41, 42, 43, 44, 45, 46, 47, 48, 49, 50, 51, 52, 53, 54, 55, 56, 57, 58, 59, 61, 62, 63, 64, 65, 66, 67, 68, 69, 70, 71, 72, 73, 74, 75, 76, 77, 78, 79, 80, 81, 82, 83, 84, 85, 86, 87, 88, 89, 90, 91, 92, 93, 94, 95, 96, 97, 98, 99, 100, 101, 102, 103, 104, 105, 106, 107, 108, 109, 110, 111, 112, 113, 114, 115, 116]
def gR (g : Nat) : Bool := [0, 1, 2, 3, 4, 5].contains g
def SR (f : FuncId) : Prop := LR.contains f = true
def sR (f : FuncId) : Bool := LR.contains f
theorem ctxR : Ctx Tryd.prog SR gR sR :=
 ctx_of LR [102, 116] (by kernel_rfl) (by kernel_rfl) fun f hf => by
  have : f = 102 ∨ f = 116 := by simpa using hf
  rcases this with rfl | rfl
  ·exact ⟨_, Tryd.func102, by kernel_rfl, by kernel_rfl, .inl (by kernel_rfl)⟩
  ·exact ⟨_, Tryd.func116, by kernel_rfl, by kernel_rfl, .inr ⟨by kernel_rfl, 1, by kernel_rfl, by decide⟩⟩
end
section
open Go Go.Conc Go.RowKit
section
variable {P : Program} {o : Oper} {w : World}
theorem run_one (ev : Operand -> Value) (ty : TypeId) (x : Operand) (ho : o.op = .load ty x) (d : TypeDesc) (hu : P.underlying ty = some d) (hd : (match d with | .struct _ | .array .. => false | _ => true) = true) (g k : Nat) (hx : ev x = .pointer (some ⟨g, k, none⟩)) {v : Value} (hc : w.cell? ⟨g, k, none⟩ = some v) :
  (execOp ev o).run P w = .ok (.value v) w := by
 unfold execOp
 simp only [ho, hx]
 cases d <;> first | (exact Bool.noConfusion hd) | simp [Instr.loadAt, Instr.sureAddr, loadVar, isAgg, Sem.run_bind, run_underlying hu, hc, go_sem]
theorem run_len (ev : Operand -> Value) (t e : TypeId) (x : Operand) (ho : o.op = .call { callee := .builtin .len, args := #[x], argTypes := #[t] }) (hu : P.underlying t = some (.slice e)) {A : Option Addr} {n c : Nat} (hx : ev x = .slice A n c) :
  (execOp ev o).run P w = .ok (.value (.int .i64 n)) w := by
 unfold execOp
 simp only [ho, resolve, invoke, List.map_toArray, List.map_cons, List.map_nil, hx]
 simp [builtin, Builtin.len_, Sem.run_bind, run_underlying hu, go_sem, goInt]
theorem wrap_keep {m : Int} (h : -9223372036854775808 <= m /\ m <= 9223372036854775807) : IntKind.i64.wrap m = m := by
 rw [IntKind.wrap_i64]
 omega
theorem run_mul (ev : Operand -> Value) (t u : TypeId) (x y : Operand) (ho : o.op = .binOp .mul t x y u) (hu : P.underlying t = some (.int .i64)) {m n : Int} (hx : ev x = .int .i64 m) (hy : ev y = .int .i64 n) (h : -9223372036854775808 <= m * n /\ m * n <= 9223372036854775807) :
  (execOp ev o).run P w = .ok (.value (.int .i64 (m * n))) w := by
 unfold execOp
 simp only [ho, hx, hy]
 simp [go_sem, run_underlying hu]
 exact wrap_keep h
theorem run_add (ev : Operand -> Value) (t u : TypeId) (x y : Operand) (ho : o.op = .binOp .add t x y u) (hu : P.underlying t = some (.int .i64)) {m n : Int} (hx : ev x = .int .i64 m) (hy : ev y = .int .i64 n) (h : -9223372036854775808 <= m + n /\ m + n <= 9223372036854775807) :
  (execOp ev o).run P w = .ok (.value (.int .i64 (m + n))) w := by
 unfold execOp
 simp only [ho, hx, hy]
 simp [go_sem, run_underlying hu]
 exact wrap_keep h
theorem run_quo3 (ev : Operand -> Value) (t u : TypeId) (x y : Operand) (ho : o.op = .binOp .quo t x y u) (hu : P.underlying t = some (.int .i64)) {m : Int} (hx : ev x = .int .i64 m) (hy : ev y = .int .i64 3) (h : 0 <= m /\ m <= 9223372036854775807) :
  (execOp ev o).run P w = .ok (.value (.int .i64 (m / 3))) w := by
 unfold execOp
 simp only [ho, hx, hy]
 simp [go_sem, run_underlying hu]
 rw [Int.tdiv_eq_ediv_of_nonneg h.1]
 exact wrap_keep (by omega)
def subS (A : Option Addr) (lo hi cap s : Nat) : Value := .slice (if cap = lo then A else A.map (·.add (lo * s))) (hi - lo) (cap - lo)
theorem run_slice (ev : Operand -> Value) (t e : TypeId) (x y z : Operand) (ho : o.op = .slice t x (some y) (some z) none) (hu : P.underlying t = some (.slice e)) {A : Option Addr} {n cap lo hi : Nat} (hx : ev x = .slice A n cap) (hy : ev y = .int .i64 lo) (hz : ev z = .int .i64 hi) (h : lo <= hi /\ hi <= cap) {s : Nat} (hs : ((P.info? e).map (·.size)) = some s) :
  (execOp ev o).run P w = .ok (.value (subS A lo hi cap s)) w := by
 unfold execOp
 simp only [ho, hx, Option.map_some, Option.map_none, hy, hz]
 simp [go_sem, run_underlying hu, Instr.sliceAt, Instr.slice, Instr.sliceBounds, Instr.sliceBound, asIntOf, h]
 have hz : (Go.sizeOf e).run P w = .ok s w := by
  cases hi : P.info? e with
  | none => rw [hi] at hs; cases hs
  | some i =>
   rw [hi] at hs
   simp only [Option.map_some, Option.some.injEq] at hs
   simp [Go.sizeOf, Go.typeInfo, hi, hs, go_sem, program, Sem.run]
 rw [hz]
 rfl
end
end
section
open Go Go.Conc Go.RowKit
noncomputable def wOps : List Oper := match Tryd.f61.body with | some (.region _ ops _) => ops.toList | _ => []
theorem wBody : Tryd.f61.body = some (.region 0 wOps.toArray true) := by kernel_rfl
theorem wLen : wOps.length = 19 := by kernel_rfl
theorem mixes : Tryd.prog.follows .mixedOrders = true := by kernel_rfl
section
variable {P : Program} {S : FuncId -> Prop} {G Sb : Nat -> Bool} {X : Sit} {b : Frame} {k : List Item} {cs : List Frame} {l : List Oper} {tm : Array Value} {df : List Deferred} {w0 w : World} {Φ : Nat -> Value -> World -> Prop} {a : Act} {i : Nat}
theorem AtT.val (h : AtT Φ l tm df w0 i a w) {j d : Nat} (hj : (l[j]?).bind (·.dst) = some d) : a.eval (.tmp d) = slotL l a.tmps j := by
 unfold slotL
 rw [hj]
 rfl
theorem AtT.old (h : AtT Φ l tm df w0 i a w) {d : Nat} (hd : (l.all fun o => o.dst != some d) = true) {u : Value} (hu : tm.getD d undef = u) : a.eval (.tmp d) = u := by
 have h1 := h.out d fun o ho e => by
  have := List.all_eq_true.1 hd o ho
  rw [e] at this
  simp at this
 rw [<- hu]
 show a.tmps.getD d undef = _
 rw [Array.getD_eq_getD_getElem?, Array.getD_eq_getD_getElem?, h1]
theorem arm (hX : Walk P S G Sb X) {o : Oper} {rest : List Nat} {x : Value} (ho : l[i]? = some o) (hk : okOp P (okX G Sb) Sb o.op = true) (hg : o.guard = none) (he : ∀ w, Gw w0 w -> (execOp a.eval o).run P w = .ok (.value x) w) (hw : Gw w0 w) (hΦ : Φ i x w)
  (hn : ∀ x w', Φ i x w' -> Gw w w' -> X (b.at (a.put o.dst x) (.inRegion l.toArray rest :: k)) cs w') : X (b.at a (.inRegion l.toArray (i :: rest) :: k)) cs w :=
 hX.value (v' := w) (by rw [List.getElem?_toArray]; exact ho) hk (by unfold Region.wanted; rw [hg]) (fun τ d => he _ (hw.trans (Gw.at2 w τ d))) (hn x w hΦ (Gw.refl w))
theorem cell_gw {a : Addr} (h : Gw w0 w) (ha : a.block < w0.heap.size) : w.cell? a = w0.cell? a := World.cell?_of_block (h.2 _ ha)
theorem enter_eq {P : Program} {f : FuncId} {fn : Func} {c : Code} {args : Array Value} {kind : CallKind} (hf : P.funcs[f]? = some fn) (hb : fn.body = some c) :
  Frame.enter P f args kind = ({ (default : Frame) with fn := f, kind := kind } : Frame).at { tmps := args ++ Array.replicate (fn.ntmps - args.size) undef, defers := [] } [.code c] := by
 unfold Frame.enter Frame.at
 simp only [hf, hb, Option.map_some, Option.bind_some, Option.getD_some]
theorem enter_tm {P : Program} {f : FuncId} {fn : Func} {c : Code} {kind : CallKind} (xs : List Value) (n : Nat) (hf : P.funcs[f]? = some fn) (hb : fn.body = some c) (hn : fn.ntmps = xs.length + n) :
  Frame.enter P f xs.toArray kind = ({ (default : Frame) with fn := f, kind := kind } : Frame).at { tmps := (xs ++ List.replicate n undef).toArray, defers := [] } [.code c] := by
 rw [enter_eq hf hb, hn, List.size_toArray, Nat.add_sub_cancel_left]
 refine congrArg (fun t => Frame.at _ ({ tmps := t, defers := [] } : Act) _) ?_
 rw [<- List.append_toArray, List.toArray_replicate]
theorem nat_quo (m : Nat) : (m : Int) / 3 = ((m / 3 : Nat) : Int) := by omega
end
theorem worker_leaves (tmps : Array Value) : QuitsIn Tryd.prog 4 (Go.Conc.G { fn := 61, tmps, todo := .inRegion wOps.toArray [] :: [], defers := [], mode := .run, kind := .deferred } [exitFrame Tryd.prog]) := by
 refine .inr ⟨rfl, Go.Conc.G { fn := 61, tmps, todo := [], defers := [], mode := .run, kind := .deferred } [exitFrame Tryd.prog], fun w => rfl, ?_⟩
 refine .inr ⟨rfl, Go.Conc.G { fn := 61, tmps, todo := [], defers := [], mode := .returning, kind := .deferred } [exitFrame Tryd.prog], fun w => rfl, ?_⟩
 refine .inr ⟨rfl, Go.Conc.G (exitFrame Tryd.prog) [], fun w => ?_, ?_⟩
 ·have hr : (results Tryd.f61 tmps).runT Tryd.prog w #[] = (.ok (.tuple #[]) w, #[]) := by kernel_rfl
  simp only [Go.Conc.G, stepG, unwind, Tryd.func61, hr]
  simp [doReturn, exitFrame, goexitEntry, GStep.after, seen_none]
 ·refine .inr ⟨rfl, { frame := exitFrame Tryd.prog, callers := [], status := .finished, dying := none }, fun w => ?_, rfl⟩
  simp [Go.Conc.G, stepG, unwind, exitFrame, goexitEntry, Frame.catches]
  rfl
def WΦ (C : Nat) (RA : Option Addr) (rn rc : Nat) (s : Int) (A : Option Addr) (n cap i : Nat) (Q : Post) : Nat -> Value -> World -> Prop
 | 0, x, _ => x = .chan (some C)
 | 1, x, _ => x = .slice RA rn rc
 | 2, x, _ => x = .int .i64 s
 | 3, x, _ => x = .slice A n cap
 | 4, x, _ => x = .int .i64 i
 | 5, x, _ => x = .slice A n cap
 | 6, x, _ => x = .int .i64 n
 | 7, x, _ => x = .int .i64 ((i * n : Nat) : Int)
 | 8, x, _ => x = .int .i64 ((i * n / 3 : Nat) : Int)
 | 9, x, _ => x = .int .i64 i
 | 10, x, _ => x = .int .i64 ((i + 1 : Nat) : Int)
 | 11, x, _ => x = .slice A n cap
 | 12, x, _ => x = .int .i64 n
 | 13, x, _ => x = .int .i64 (((i + 1) * n : Nat) : Int)
 | 14, x, _ => x = .int .i64 (((i + 1) * n / 3 : Nat) : Int)
 | 15, x, _ => x = subS A (i * n / 3) ((i + 1) * n / 3) cap 3
 | 16, x, _ => x = .int .i64 i
 | 17, x, w => Q x w
 | _, _, _ => True
def wArgs (b0 b1 b2 b3 b4 : Nat) : Array Value := #[.pointer (some ⟨b0, 0, none⟩), .pointer (some ⟨b1, 0, none⟩), .pointer (some ⟨b2, 0, none⟩), .pointer (some ⟨b3, 0, none⟩), .pointer (some ⟨b4, 0, none⟩)]
def wTm (b0 b1 b2 b3 b4 : Nat) : Array Value := #[.pointer (some ⟨b0, 0, none⟩), .pointer (some ⟨b1, 0, none⟩), .pointer (some ⟨b2, 0, none⟩), .pointer (some ⟨b3, 0, none⟩), .pointer (some ⟨b4, 0, none⟩), undef, undef, undef, undef, undef, undef, undef, undef, undef, undef, undef, undef, undef, undef, undef, undef, undef, undef]
theorem wTm_eq (b0 b1 b2 b3 b4 : Nat) : wArgs b0 b1 b2 b3 b4 ++ Array.replicate (Tryd.f61.ntmps - 5) undef = wTm b0 b1 b2 b3 b4 := by
 rw [Tryd.ntmps61]
 kernel_rfl
section
variable {X : Sit}
theorem worker_TS {C : Nat} {Q : Post} (hQ : InvQ SR Q) (hQg : ∀ x w w', Q x w -> Gw w w' -> Q x w') {b0 b1 b2 b3 b4 : Nat} {RA A : Option Addr} {rn rc n cap i : Nat} {s : Int} {v : World}
  (h0 : v.cell? ⟨b0, 0, none⟩ = some (.chan (some C))) (h1 : v.cell? ⟨b1, 0, none⟩ = some (.slice RA rn rc)) (h2 : v.cell? ⟨b2, 0, none⟩ = some (.int .i64 s)) (h3 : v.cell? ⟨b3, 0, none⟩ = some (.slice A n cap)) (h4 : v.cell? ⟨b4, 0, none⟩ = some (.int .i64 i))
  (hi : i <= 2) (hn : n <= 3000000000) (hc : n <= cap)
  (hmany : ∀ w, Gw v w -> Calls Tryd.prog 62 #[.slice RA rn rc, .int .i64 s, subS A (i * n / 3) ((i + 1) * n / 3) cap 3, .int .i64 i] w fun e w' => ∃ x, e = .returned x /\ Q x w' /\ Gw w w') :
  TS Tryd.prog SR gR sR C Q (Frame.enter Tryd.prog 61 #[.pointer (some ⟨b0, 0, none⟩), .pointer (some ⟨b1, 0, none⟩), .pointer (some ⟨b2, 0, none⟩), .pointer (some ⟨b3, 0, none⟩), .pointer (some ⟨b4, 0, none⟩)] .deferred) [] v := by
 have hX := TS.walk (P := Tryd.prog) (S := SR) (G := gR) (Sb := sR) ctxR (C := C) hQ
 let b : Frame := { (default : Frame) with fn := 61, kind := .deferred }
 rw [enter_eq Tryd.func61 wBody]
 show TS Tryd.prog SR gR sR C Q (b.at { tmps := wArgs b0 b1 b2 b3 b4 ++ Array.replicate (Tryd.f61.ntmps - 5) undef, defers := [] } (.code (.region 0 wOps.toArray true) :: [])) [] v
 rw [wTm_eq]
 have lt : ∀ {g : Nat} {u : Value}, v.cell? ⟨g, 0, none⟩ = some u -> g < v.heap.size := fun h => World.block_lt_of_cell? _ _ h
 have hin : i * n <= 6000000000 := Nat.le_trans (Nat.mul_le_mul hi hn) (by omega)
 have hin1 : (i + 1) * n <= 9000000000 := Nat.le_trans (Nat.mul_le_mul (Nat.succ_le_succ hi) hn) (by omega)
 have hlo : i * n / 3 <= (i + 1) * n / 3 := Nat.div_le_div_right (by rw [Nat.succ_mul]; omega)
 have hhi : (i + 1) * n / 3 <= cap := by
  have : (i + 1) * n <= 3 * n := Nat.mul_le_mul_right n (by omega)
  omega
 refine Walk.orders (Φ := WΦ C RA rn rc s A n cap i Q) hX mixes (by kernel_rfl) (by rw [wLen]; omega) (fun j x w w' h hg => ?_) ?_ ?_
 ·match j, h with
  | 17, h => exact hQg x w w' h hg
  | 0, h | 1, h | 2, h | 3, h | 4, h | 5, h | 6, h | 7, h | 8, h | 9, h | 10, h | 11, h | 12, h | 13, h | 14, h | 15, h | 16, h => exact h
  | j + 18, h => exact trivial
 ·intro j o ho hj a w rest hA hk
  match j, ho with
  | 0, ho =>
   obtain rfl := Option.some.inj ho
   exact arm hX ho (by kernel_rfl) rfl (fun w hw => run_one _ 91 (.tmp 0) rfl _ Tryd.underlying91 rfl b0 0 (hA.old (d := 0) (by kernel_rfl) rfl) ((cell_gw hw (lt h0)).trans h0)) hA.gw rfl hk
  | 1, ho =>
   obtain rfl := Option.some.inj ho
   exact arm hX ho (by kernel_rfl) rfl (fun w hw => run_one _ 22 (.tmp 1) rfl _ Tryd.underlying22 rfl b1 0 (hA.old (d := 1) (by kernel_rfl) rfl) ((cell_gw hw (lt h1)).trans h1)) hA.gw rfl hk
  | 2, ho =>
   obtain rfl := Option.some.inj ho
   exact arm hX ho (by kernel_rfl) rfl (fun w hw => run_one _ 2 (.tmp 2) rfl _ Tryd.underlying2 rfl b2 0 (hA.old (d := 2) (by kernel_rfl) rfl) ((cell_gw hw (lt h2)).trans h2)) hA.gw rfl hk
  | 3, ho =>
   obtain rfl := Option.some.inj ho
   exact arm hX ho (by kernel_rfl) rfl (fun w hw => run_one _ 26 (.tmp 3) rfl _ Tryd.underlying26 rfl b3 0 (hA.old (d := 3) (by kernel_rfl) rfl) ((cell_gw hw (lt h3)).trans h3)) hA.gw rfl hk
  | 4, ho =>
   obtain rfl := Option.some.inj ho
   exact arm hX ho (by kernel_rfl) rfl (fun w hw => run_one _ 3 (.tmp 4) rfl _ Tryd.underlying3 rfl b4 0 (hA.old (d := 4) (by kernel_rfl) rfl) ((cell_gw hw (lt h4)).trans h4)) hA.gw rfl hk
  | 5, ho =>
   obtain rfl := Option.some.inj ho
   exact arm hX ho (by kernel_rfl) rfl (fun w hw => run_one _ 26 (.tmp 3) rfl _ Tryd.underlying26 rfl b3 0 (hA.old (d := 3) (by kernel_rfl) rfl) ((cell_gw hw (lt h3)).trans h3)) hA.gw rfl hk
  | 6, ho =>
   obtain rfl := Option.some.inj ho
   exact arm hX ho (by kernel_rfl) rfl (fun w hw => run_len _ 26 _ (.tmp 10) rfl Tryd.underlying26 ((hA.val (j := 5) (d := 10) rfl).trans (hA.get 5 (by kernel_rfl)))) hA.gw rfl hk
  | 7, ho =>
   obtain rfl := Option.some.inj ho
   refine arm (x := .int .i64 ((i * n : Nat) : Int)) hX ho (by kernel_rfl) rfl (fun w hw => ?_) hA.gw rfl hk
   rw [Int.natCast_mul]
   exact run_mul _ 3 3 (.tmp 9) (.tmp 11) rfl Tryd.underlying3 ((hA.val (j := 4) (d := 9) rfl).trans (hA.get 4 (by kernel_rfl))) ((hA.val (j := 6) (d := 11) rfl).trans (hA.get 6 (by kernel_rfl))) (by rw [<- Int.natCast_mul]; omega)
  | 8, ho =>
   obtain rfl := Option.some.inj ho
   refine arm (x := .int .i64 ((i * n / 3 : Nat) : Int)) hX ho (by kernel_rfl) rfl (fun w hw => ?_) hA.gw rfl hk
   rw [<- nat_quo]
   exact run_quo3 _ 3 3 (.tmp 12) _ rfl Tryd.underlying3 ((hA.val (j := 7) (d := 12) rfl).trans (hA.get 7 (by kernel_rfl))) rfl (by omega)
  | 9, ho =>
   obtain rfl := Option.some.inj ho
   exact arm hX ho (by kernel_rfl) rfl (fun w hw => run_one _ 3 (.tmp 4) rfl _ Tryd.underlying3 rfl b4 0 (hA.old (d := 4) (by kernel_rfl) rfl) ((cell_gw hw (lt h4)).trans h4)) hA.gw rfl hk
  | 10, ho =>
   obtain rfl := Option.some.inj ho
   refine arm (x := .int .i64 ((i + 1 : Nat) : Int)) hX ho (by kernel_rfl) rfl (fun w hw => ?_) hA.gw rfl hk
   rw [Int.natCast_add]
   exact run_add _ 3 3 (.tmp 14) _ rfl Tryd.underlying3 ((hA.val (j := 9) (d := 14) rfl).trans (hA.get 9 (by kernel_rfl))) rfl (by omega)
  | 11, ho =>
   obtain rfl := Option.some.inj ho
   exact arm hX ho (by kernel_rfl) rfl (fun w hw => run_one _ 26 (.tmp 3) rfl _ Tryd.underlying26 rfl b3 0 (hA.old (d := 3) (by kernel_rfl) rfl) ((cell_gw hw (lt h3)).trans h3)) hA.gw rfl hk
  | 12, ho =>
   obtain rfl := Option.some.inj ho
   exact arm hX ho (by kernel_rfl) rfl (fun w hw => run_len _ 26 _ (.tmp 16) rfl Tryd.underlying26 ((hA.val (j := 11) (d := 16) rfl).trans (hA.get 11 (by kernel_rfl)))) hA.gw rfl hk
  | 13, ho =>
   obtain rfl := Option.some.inj ho
   refine arm (x := .int .i64 (((i + 1) * n : Nat) : Int)) hX ho (by kernel_rfl) rfl (fun w hw => ?_) hA.gw rfl hk
   rw [Int.natCast_mul]
   exact run_mul _ 3 3 (.tmp 15) (.tmp 17) rfl Tryd.underlying3 ((hA.val (j := 10) (d := 15) rfl).trans (hA.get 10 (by kernel_rfl))) ((hA.val (j := 12) (d := 17) rfl).trans (hA.get 12 (by kernel_rfl))) (by rw [<- Int.natCast_mul]; omega)
  | 14, ho =>
   obtain rfl := Option.some.inj ho
   refine arm (x := .int .i64 (((i + 1) * n / 3 : Nat) : Int)) hX ho (by kernel_rfl) rfl (fun w hw => ?_) hA.gw rfl hk
   rw [<- nat_quo]
   exact run_quo3 _ 3 3 (.tmp 18) _ rfl Tryd.underlying3 ((hA.val (j := 13) (d := 18) rfl).trans (hA.get 13 (by kernel_rfl))) rfl (by omega)
  | 15, ho =>
   obtain rfl := Option.some.inj ho
   exact arm hX ho (by kernel_rfl) rfl (fun w hw => run_slice _ 26 51 (.tmp 8) (.tmp 13) (.tmp 19) rfl Tryd.underlying26 ((hA.val (j := 3) (d := 8) rfl).trans (hA.get 3 (by kernel_rfl))) ((hA.val (j := 8) (d := 13) rfl).trans (hA.get 8 (by kernel_rfl))) ((hA.val (j := 14) (d := 19) rfl).trans (hA.get 14 (by kernel_rfl))) ⟨hlo, hhi⟩ (by kernel_rfl)) hA.gw rfl hk
  | 16, ho =>
   obtain rfl := Option.some.inj ho
   exact arm hX ho (by kernel_rfl) rfl (fun w hw => run_one _ 3 (.tmp 4) rfl _ Tryd.underlying3 rfl b4 0 (hA.old (d := 4) (by kernel_rfl) rfl) ((cell_gw hw (lt h4)).trans h4)) hA.gw rfl hk
  | 17, ho =>
   have ho' : wOps.toArray[17]? = some o := by rw [List.getElem?_toArray]; exact ho
   obtain rfl := Option.some.inj ho
   refine hX.calls ctxR (f := 62) (args := #[.slice RA rn rc, .int .i64 s, subS A (i * n / 3) ((i + 1) * n / 3) cap 3, .int .i64 i]) ho' (by kernel_rfl) rfl (show LR.contains 62 = true by kernel_rfl) (fun τ d => ?_) fun τ d => ?_
   ·refine Eq.trans (b := .ok (.enter 62 #[a.eval (.tmp 6), a.eval (.tmp 7), a.eval (.tmp 20), a.eval (.tmp 21)]) (aT2 w τ d)) (by kernel_rfl) ?_
    rw [((hA.val (j := 1) (d := 6) rfl).trans (hA.get 1 (by kernel_rfl))), ((hA.val (j := 2) (d := 7) rfl).trans (hA.get 2 (by kernel_rfl))), ((hA.val (j := 15) (d := 20) rfl).trans (hA.get 15 (by kernel_rfl))), ((hA.val (j := 16) (d := 21) rfl).trans (hA.get 16 (by kernel_rfl)))]
   ·exact (hmany _ (hA.gw.trans (Gw.at2 w τ d))).mono fun e w' ⟨x, he, hq, hg⟩ => ⟨x, he, hk x w' hq ((Gw.at2 w τ d).trans hg)⟩
  | j + 18, ho => rw [wLen] at hj; omega
 ·intro j hj a w hA
  obtain rfl : j = 18 := by rw [wLen] at hj; omega
  refine TS.send (q := 4) (i := 18) (o := wOps[18]'(by rw [wLen]; omega)) rfl (by rw [List.getElem?_toArray]; exact List.getElem?_eq_getElem _) rfl rfl rfl rfl ((hA.val (j := 0) (d := 5) rfl).trans (hA.get 0 (by kernel_rfl))) ?_ worker_leaves
  have h17 := hA.get 17 (by kernel_rfl)
  rw [<- hA.val (j := 17) (d := 22) rfl] at h17
  exact h17
end
end
section
open Go Go.Conc Go.RowKit
noncomputable def stepB : Code := match Tryd.f40.body with | some c => c | none => .skip
theorem stepBody : Tryd.f40.body = some stepB := by kernel_rfl
noncomputable def stepR0 : Code := match stepB with | .seq a _ => a | _ => .skip
noncomputable def stepR1 : Code := match stepB with | .seq _ (.seq a _) => a | _ => .skip
noncomputable def stepR2 : Code := match stepB with | .seq _ (.seq _ (.seq (.seq a _) _)) => a | _ => .skip
noncomputable def stepL1 : Code := match stepB with | .seq _ (.seq _ (.seq (.seq _ (.block _ (.loop a))) _)) => a | _ => .skip
noncomputable def stepR7 : Code := match stepB with | .seq _ (.seq _ (.seq _ (.seq a _))) => a | _ => .skip
noncomputable def stepR8 : Code := match stepB with | .seq _ (.seq _ (.seq _ (.seq _ (.seq (.seq a _) _)))) => a | _ => .skip
noncomputable def stepL2 : Code := match stepB with | .seq _ (.seq _ (.seq _ (.seq _ (.seq (.seq _ (.block _ (.loop a))) _)))) => a | _ => .skip
noncomputable def stepT : Code := match stepB with | .seq _ (.seq _ (.seq _ (.seq _ (.seq _ a)))) => a | _ => .skip
theorem stepB_eq : stepB = .seq stepR0 (.seq stepR1 (.seq (.seq stepR2 (.block 0 (.loop stepL1))) (.seq stepR7 (.seq (.seq stepR8 (.block 2 (.loop stepL2))) stepT)))) := by kernel_rfl
def slot (a : Act) (d : Nat) (u : Value) : Prop := a.tmps.getD d undef = u
theorem slot_same {a : Act} {d : Nat} {x : Value} (h : d < a.tmps.size) : slot (a.put (some d) x) d x := by
 show (a.tmps.setIfInBounds d x).getD d undef = x
 rw [Array.getD_eq_getD_getElem?, Array.getElem?_setIfInBounds_self_of_lt h]; rfl
theorem slot_ne {a : Act} {d e : Nat} {x u : Value} (h : slot a e u) (hne : d ≠ e) : slot (a.put (some d) x) e u := by
 show (a.tmps.setIfInBounds d x).getD e undef = u
 rw [Array.getD_eq_getD_getElem?, Array.getElem?_setIfInBounds_ne hne, <- Array.getD_eq_getD_getElem?]; exact h
theorem size_put {a : Act} {d : Option Nat} {x : Value} {n : Nat} (h : a.tmps.size = n) : (a.put d x).tmps.size = n := by
 cases d with
 | none => exact h
 | some d => show (a.tmps.setIfInBounds d x).size = n; rw [Array.size_setIfInBounds]; exact h
noncomputable def op3 : Array Oper := match stepL1 with | .seq (.region _ o _) _ => o | _ => #[]
noncomputable def op4 : Array Oper := match stepL1 with | .seq _ (.seq _ (.seq (.block _ (.seq (.region _ o _) _)) _)) => o | _ => #[]
noncomputable def op5 : Array Oper := match stepL1 with | .seq _ (.seq _ (.seq (.block _ (.seq _ (.region _ o _))) _)) => o | _ => #[]
noncomputable def op6 : Array Oper := match stepL1 with | .seq _ (.seq _ (.seq _ (.region _ o _))) => o | _ => #[]
theorem stepL1_eq : stepL1 = .seq (.region 3 op3 false) (.seq (.cond (.tmp 17) .skip (.exit 0)) (.seq (.block 1 (.seq (.region 4 op4 false) (.region 5 op5 false))) (.region 6 op6 false))) := by kernel_rfl
theorem sz3 : List.range op3.size = [0] := by kernel_rfl
theorem sz4 : List.range op4.size = [0, 1, 2] := by kernel_rfl
theorem sz5 : List.range op5.size = [0, 1] := by kernel_rfl
theorem sz6 : List.range op6.size = [0, 1] := by kernel_rfl
section
variable {P : Program} {o : Oper} {w : World}
theorem run_moveX (ev : Operand -> Value) (x : Operand) (ho : o.op = .move x ∨ o.op = .assign x) {u : Value} (hx : ev x = u) : (execOp ev o).run P w = .ok (.value u) w := by
 unfold execOp
 rcases ho with ho | ho <;> (simp only [ho, hx]; rfl)
theorem run_lss (ev : Operand -> Value) (t u : TypeId) (x y : Operand) (ho : o.op = .binOp .lss t x y u) (hu : P.underlying t = some (.int .i64)) {m n : Int} (hx : ev x = .int .i64 m) (hy : ev y = .int .i64 n) : (execOp ev o).run P w = .ok (.value (.bool (decide (m < n)))) w := by
 unfold execOp
 simp only [ho, hx, hy]
 simp [go_sem, run_underlying hu]
theorem run_allocI (ev : Operand -> Value) (t : TypeId) (ho : o.op = .alloc t) {z : Value} (hr : (Instr.alloc t true (.tuple #[])).run P w = .ok (.pointer (some ⟨w.heap.size, 0, none⟩)) (w.alloc (.cells #[z] t))) :
  (execOp ev o).run P w = .ok (.value (.pointer (some ⟨w.heap.size, 0, none⟩))) (w.alloc (.cells #[z] t)) := by
 unfold execOp
 simp only [ho, Sem.run_bind, hr, Result.andThen_ok, Sem.run_pure]
theorem run_storeI (ev : Operand -> Value) (ty t : TypeId) (x y : Operand) (ho : o.op = .store ty x y) {g : Nat} {u z : Value} (hx : ev x = .pointer (some ⟨g, 0, none⟩)) (hy : ev y = u) (h1 : u.oneCell' = true) (hg : w.heap[g]? = some (.cells #[z] t (0, 0))) (hi : (P.info? ty).map (·.size) = some 1) :
  (execOp ev o).run P w = .ok .skip (w.setRow g #[u]) := by
 unfold execOp
 simp only [ho, hx, hy, Instr.storeAt, Instr.sureAddr, Sem.run_bind, Sem.run_pure, Result.andThen_ok, run_storeVar_one w g t ty z _ hg hi h1]
theorem run_box1 (ev : Operand -> Value) (t : TypeId) (x : Operand) (ho : o.op = .box t x) {u : Value} (hx : ev x = u) (hr : (Instr.box t u).run P w = .ok (.pointer (some ⟨w.heap.size, 0, none⟩)) (w.alloc (.cells #[u] t))) :
  (execOp ev o).run P w = .ok (.value (.pointer (some ⟨w.heap.size, 0, none⟩))) (w.alloc (.cells #[u] t)) := by
 unfold execOp
 simp only [ho, hx, Sem.run_bind, hr, Result.andThen_ok, Sem.run_pure]
end
section
variable {P : Program} {S : FuncId -> Prop} {G Sb : Nat -> Bool} {X : Sit} {b : Frame} {k : List Item} {cs : List Frame} {a : Act} {v v' : World}
theorem Walk.val (hX : Walk P S G Sb X) {ops : Array Oper} {i : Nat} {r : List Nat} {o : Oper} (d : Option Tmp) (x : Value) (ho : ops[i]? = some o) (hk : okOp P (okX G Sb) Sb o.op = true) (hg : o.guard = none) (hd : o.dst = d)
  (he : ∀ τ d, (execOp a.eval o).run P (aT2 v τ d) = .ok (.value x) (aT2 v' τ d)) (h : X (b.at (a.put d x) (.inRegion ops r :: k)) cs v') : X (b.at a (.inRegion ops (i :: r) :: k)) cs v := by
 subst hd
 exact hX.value ho hk (by unfold Region.wanted; rw [hg]) he h
theorem Walk.nil (hX : Walk P S G Sb X) {ops : Array Oper} {i : Nat} {r : List Nat} {o : Oper} (ho : ops[i]? = some o) (hk : okOp P (okX G Sb) Sb o.op = true) (hg : o.guard = none) (hd : o.dst = none)
  (he : ∀ τ d, (execOp a.eval o).run P (aT2 v τ d) = .ok .skip (aT2 v' τ d)) (h : X (b.at a (.inRegion ops r :: k)) cs v') : X (b.at a (.inRegion ops (i :: r) :: k)) cs v := by
 refine hX.unit ho hk (by unfold Region.wanted; rw [hg]) he ?_
 rw [hd]
 exact h
end
structure FkL (C g8 g3 g4 g5 : Nat) (RA A : Option Addr) (rn rc n cap : Nat) (s : Int) (i : Nat) (a : Act) (v : World) : Prop where
 sz : a.tmps.size = 48
 df : a.defers = []
 s3 : slot a 3 (.pointer (some ⟨g3, 0, none⟩))
 s4 : slot a 4 (.pointer (some ⟨g4, 0, none⟩))
 s5 : slot a 5 (.pointer (some ⟨g5, 0, none⟩))
 s8 : slot a 8 (.pointer (some ⟨g8, 0, none⟩))
 s16 : slot a 16 (.int .i64 i)
 c8 : v.cell? ⟨g8, 0, none⟩ = some (.chan (some C))
 c3 : v.cell? ⟨g3, 0, none⟩ = some (.slice RA rn rc)
 c4 : v.cell? ⟨g4, 0, none⟩ = some (.int .i64 s)
 c5 : v.cell? ⟨g5, 0, none⟩ = some (.slice A n cap)
theorem FkL.kp {C g8 g3 g4 g5 : Nat} {RA A : Option Addr} {rn rc n cap : Nat} {s : Int} {i : Nat} {a : Act} {v v' : World} (h : FkL C g8 g3 g4 g5 RA A rn rc n cap s i a v) (k : Kp v v') : FkL C g8 g3 g4 g5 RA A rn rc n cap s i a v' :=
 { h with c8 := (k.cell _ (World.block_lt_of_cell? _ _ h.c8)).trans h.c8, c3 := (k.cell _ (World.block_lt_of_cell? _ _ h.c3)).trans h.c3, c4 := (k.cell _ (World.block_lt_of_cell? _ _ h.c4)).trans h.c4, c5 := (k.cell _ (World.block_lt_of_cell? _ _ h.c5)).trans h.c5 }
theorem FkL.put {C g8 g3 g4 g5 : Nat} {RA A : Option Addr} {rn rc n cap : Nat} {s : Int} {i : Nat} {a : Act} {v : World} (h : FkL C g8 g3 g4 g5 RA A rn rc n cap s i a v) (d : Nat) (x : Value) (hd : d ≠ 3 /\ d ≠ 4 /\ d ≠ 5 /\ d ≠ 8 /\ d ≠ 16) : FkL C g8 g3 g4 g5 RA A rn rc n cap s i (a.put (some d) x) v :=
 { h with sz := size_put h.sz, df := h.df, s3 := slot_ne h.s3 hd.1, s4 := slot_ne h.s4 hd.2.1, s5 := slot_ne h.s5 hd.2.2.1, s8 := slot_ne h.s8 hd.2.2.2.1, s16 := slot_ne h.s16 hd.2.2.2.2 }
section
variable {F : Value -> Prop} {Γ : List Post} {b : Frame} {k : List Item} {cs : List Frame}
theorem fork_round {C g8 g3 g4 g5 : Nat} {RA A : Option Addr} {rn rc n cap : Nat} {s : Int} {i : Nat} {a : Act} {v : World} {Q : Post} (h : FkL C g8 g3 g4 g5 RA A rn rc n cap s i a v) (hi : i <= 2) (hΓ : Γ.length < 3) (hQ : InvQ SR Q) (hQg : ∀ x w w', Q x w -> Gw w w' -> Q x w') (hn : n <= 3000000000) (hc : n <= cap)
  (hmany : ∀ w, Kp v w -> Calls Tryd.prog 62 #[.slice RA rn rc, .int .i64 s, subS A (i * n / 3) ((i + 1) * n / 3) cap 3, .int .i64 i] w fun e w' => ∃ x, e = .returned x /\ Q x w' /\ Gw w w')
  (hk : ∀ a' v', FkL C g8 g3 g4 g5 RA A rn rc n cap s (i + 1) a' v' -> Kp v v' -> MS Tryd.prog SR gR sR F (Γ ++ [Q]) (some C) (b.at a' k) cs v') :
  MS Tryd.prog SR gR sR F Γ (some C) (b.at a (.code stepL1 :: k)) cs v := by
 have hX := MS.walk (P := Tryd.prog) (S := SR) (G := gR) (Sb := sR) (F := F) (Γ := Γ) (ch := some C) ctxR
 rw [stepL1_eq]
 refine hX.seq (hX.region ?_)
 rw [sz3]
 refine hX.val (v' := v) (some 17) (.bool true) rfl (by kernel_rfl) rfl rfl (fun τ d => ?_) ?_
 ·have e : (decide (((i : Nat) : Int) < 3)) = true := by simp; omega
  have := run_lss (P := Tryd.prog) (o := op3[0]) (w := aT2 v τ d) a.eval 3 3 (.tmp 16) _ rfl Tryd.underlying3 h.s16 (n := 3) rfl
  exact this.trans (by rw [e])
 have h1 := h.put 17 (.bool true) (by decide)
 have s17 := slot_same (a := a) (d := 17) (x := .bool true) (by rw [h.sz]; decide)
 generalize (a.put (some 17) (.bool true)) = a1 at h1 s17
 refine hX.done (hX.seq (hX.cond (t := true) rfl s17 (hX.skip (hX.seq (hX.block (hX.seq (hX.region ?_)))))))
 rw [sz4]
 refine hX.val (v' := v) (some 18) (.int .i64 i) rfl (by kernel_rfl) rfl rfl (fun τ d => run_moveX _ (.tmp 16) (.inl rfl) h1.s16) ?_
 have h2 := h1.put 18 (.int .i64 i) (by decide)
 have s18 := slot_same (a := a1) (d := 18) (x := .int .i64 i) (by rw [h1.sz]; decide)
 generalize (a1.put (some 18) (.int .i64 i)) = a2 at h2 s18
 let v1 := v.alloc (.cells #[.int .i64 0] 3)
 refine hX.val (v' := v1) (some 9) (.pointer (some ⟨v.heap.size, 0, none⟩)) rfl (by kernel_rfl) rfl rfl (fun τ d => run_allocI _ 3 rfl (z := .int .i64 0) (by kernel_rfl)) ?_
 have k1 : Kp v v1 := Kp.alloc v _
 have h3 := (h2.put 9 (.pointer (some ⟨v.heap.size, 0, none⟩)) (by decide)).kp k1
 have s18' := slot_ne (d := 9) (x := .pointer (some ⟨v.heap.size, 0, none⟩)) s18 (by decide)
 have s9 := slot_same (a := a2) (d := 9) (x := .pointer (some ⟨v.heap.size, 0, none⟩)) (by rw [h2.sz]; decide)
 generalize (a2.put (some 9) (.pointer (some ⟨v.heap.size, 0, none⟩))) = a3 at h3 s18' s9
 have hg : v1.heap[v.heap.size]? = some (.cells #[.int .i64 0] 3 (0, 0)) := by
  show (v.heap.push _)[v.heap.size]? = _
  rw [Array.getElem?_push, if_pos rfl]
 let v2 := v1.setRow v.heap.size #[.int .i64 i]
 refine hX.nil (v' := v2) rfl (by kernel_rfl) rfl rfl (fun τ d => run_storeI _ 3 3 (.tmp 9) (.tmp 18) rfl s9 s18' rfl hg (by kernel_rfl)) ?_
 have k2 : Kp v v2 := ⟨by show v.heap.size <= (Array.modify _ _ _).size; rw [Array.size_modify]; exact k1.size, fun c hc2 => by
  rw [<- k1.cell c hc2]
  refine World.cell?_of_block ?_
  show (Array.modify _ _ _)[c.block]? = _
  rw [Array.getElem?_modify, if_neg (by omega)]⟩
 have h4 : FkL C g8 g3 g4 g5 RA A rn rc n cap s i a3 v2 := { (h2.kp k2) with sz := h3.sz, df := h3.df, s3 := h3.s3, s4 := h3.s4, s5 := h3.s5, s8 := h3.s8, s16 := h3.s16 }
 have e9 : v2.heap[v.heap.size]? = some (.cells #[.int .i64 i] 3 (0, 0)) := by
  show (Array.modify _ _ _)[v.heap.size]? = _
  rw [Array.getElem?_modify, if_pos rfl, hg]
  rfl
 have c9 : v2.cell? ⟨v.heap.size, 0, none⟩ = some (.int .i64 i) := by
  unfold World.cell?
  rw [show v2.heap[(⟨v.heap.size, 0, none⟩ : Addr).block]? = _ from e9]
  rfl
 refine hX.done (hX.region ?_)
 rw [sz5]
 let fv : Value := .func (.func 61) #[] #[.pointer (some ⟨g8, 0, none⟩), .pointer (some ⟨g3, 0, none⟩), .pointer (some ⟨g4, 0, none⟩), .pointer (some ⟨g5, 0, none⟩), .pointer (some ⟨v.heap.size, 0, none⟩)]
 refine hX.val (v' := v2) (some 19) fv rfl (by kernel_rfl) rfl rfl (fun τ d => ?_) ?_
 ·refine Eq.trans (b := .ok (.value (.func (.func 61) #[] #[a3.eval (.tmp 8), a3.eval (.tmp 3), a3.eval (.tmp 4), a3.eval (.tmp 5), a3.eval (.tmp 9)])) (aT2 v2 τ d)) (by kernel_rfl) ?_
  rw [show a3.eval (.tmp 8) = _ from h4.s8, show a3.eval (.tmp 3) = _ from h4.s3, show a3.eval (.tmp 4) = _ from h4.s4, show a3.eval (.tmp 5) = _ from h4.s5, show a3.eval (.tmp 9) = _ from s9]
 have h5 := h4.put 19 fv (by decide)
 have s19 := slot_same (a := a3) (d := 19) (x := fv) (by rw [h4.sz]; decide)
 generalize (a3.put (some 19) fv) = a5 at h5 s19
 have ks : Kp v2 (shut v2) := Kp.shut v2
 have h6 := h5.kp ks
 refine MS.fork ctxR rfl rfl rfl rfl s19 ⟨_, _, Tryd.func61, wBody, by kernel_rfl⟩ hΓ hQ (worker_TS hQ hQg h6.c8 h6.c3 h6.c4 h6.c5 ((shut_cell v2 _).trans c9) hi hn hc fun w hw => hmany w ((k2.trans ks).trans ⟨hw.1, fun c hc2 => World.cell?_of_block (hw.2 _ hc2)⟩)) ?_
 have hX' := MS.walk (P := Tryd.prog) (S := SR) (G := gR) (Sb := sR) (F := F) (Γ := Γ ++ [Q]) (ch := some C) ctxR
 show MS Tryd.prog SR gR sR F (Γ ++ [Q]) (some C) (b.at a5 _) cs (shut v2)
 refine hX'.done (hX'.inBlock (hX'.region ?_))
 rw [sz6]
 refine hX'.val (v' := shut v2) (some 20) (.int .i64 ((i + 1 : Nat) : Int)) rfl (by kernel_rfl) rfl rfl (fun τ d => ?_) ?_
 ·rw [Int.natCast_add]
  exact run_add _ 3 3 (.tmp 16) _ rfl Tryd.underlying3 h6.s16 rfl (by omega)
 have h7 := h6.put 20 (.int .i64 ((i + 1 : Nat) : Int)) (by decide)
 have s20 := slot_same (a := a5) (d := 20) (x := .int .i64 ((i + 1 : Nat) : Int)) (by rw [h6.sz]; decide)
 generalize (a5.put (some 20) (.int .i64 ((i + 1 : Nat) : Int))) = a7 at h7 s20
 refine hX'.val (v' := shut v2) (some 16) (.int .i64 ((i + 1 : Nat) : Int)) rfl (by kernel_rfl) rfl rfl (fun τ d => run_moveX _ (.tmp 20) (.inl rfl) s20) ?_
 refine hX'.done (hk _ _ ?_ (k2.trans ks))
 exact { h7 with sz := size_put h7.sz, df := h7.df, s3 := slot_ne h7.s3 (by decide), s4 := slot_ne h7.s4 (by decide), s5 := slot_ne h7.s5 (by decide), s8 := slot_ne h7.s8 (by decide), s16 := slot_same (by rw [h7.sz]; decide) }
theorem fork_exit {C g8 g3 g4 g5 : Nat} {RA A : Option Addr} {rn rc n cap : Nat} {s : Int} {a : Act} {v : World} (h : FkL C g8 g3 g4 g5 RA A rn rc n cap s 3 a v)
  (hk : ∀ a', FkL C g8 g3 g4 g5 RA A rn rc n cap s 3 a' v -> MS Tryd.prog SR gR sR F Γ (some C) (b.at a' k) cs v) :
  MS Tryd.prog SR gR sR F Γ (some C) (b.at a (.code stepL1 :: .inLoop stepL1 :: .inBlock 0 :: k)) cs v := by
 have hX := MS.walk (P := Tryd.prog) (S := SR) (G := gR) (Sb := sR) (F := F) (Γ := Γ) (ch := some C) ctxR
 rw [stepL1_eq]
 refine hX.seq (hX.region ?_)
 rw [sz3]
 refine hX.val (v' := v) (some 17) (.bool false) rfl (by kernel_rfl) rfl rfl (fun τ d => ?_) ?_
 ·exact run_lss (P := Tryd.prog) (o := op3[0]) (w := aT2 v τ d) a.eval 3 3 (.tmp 16) _ rfl Tryd.underlying3 h.s16 (n := 3) rfl
 have h1 := h.put 17 (.bool false) (by decide)
 have s17 := slot_same (a := a) (d := 17) (x := .bool false) (by rw [h.sz]; decide)
 generalize (a.put (some 17) (.bool false)) = a1 at h1 s17
 exact hX.done (hX.seq (hX.cond (t := false) rfl s17 (hX.exit rfl (hk _ h1))))
theorem fork_loop {C g8 g3 g4 g5 : Nat} {RA A : Option Addr} {rn rc n cap : Nat} {s : Int} {a : Act} {v : World} {Q : Nat -> Post} (h : FkL C g8 g3 g4 g5 RA A rn rc n cap s 0 a v) (hQ : ∀ i, InvQ SR (Q i)) (hQg : ∀ i x w w', Q i x w -> Gw w w' -> Q i x w') (hn : n <= 3000000000) (hc : n <= cap)
  (hmany : ∀ (i : Nat) w, i <= 2 -> Kp v w -> Calls Tryd.prog 62 #[.slice RA rn rc, .int .i64 s, subS A (i * n / 3) ((i + 1) * n / 3) cap 3, .int .i64 i] w fun e w' => ∃ x, e = .returned x /\ Q i x w' /\ Gw w w')
  (hk : ∀ a' v', FkL C g8 g3 g4 g5 RA A rn rc n cap s 3 a' v' -> Kp v v' -> MS Tryd.prog SR gR sR F [Q 0, Q 1, Q 2] (some C) (b.at a' k) cs v') :
  MS Tryd.prog SR gR sR F [] (some C) (b.at a (.code (.block 0 (.loop stepL1)) :: k)) cs v := by
 have hX : ∀ Γ, Walk Tryd.prog SR gR sR (MS Tryd.prog SR gR sR F Γ (some C)) := fun Γ => MS.walk ctxR
 refine (hX _).block ((hX _).loop ?_)
 refine fork_round (Q := Q 0) h (by omega) (by simp) (hQ 0) (hQg 0) hn hc (fun w hw => hmany 0 w (by omega) hw) fun a1 v1 h1 k1 => (hX _).again ?_
 refine fork_round (Q := Q 1) h1 (by omega) (by simp) (hQ 1) (hQg 1) hn hc (fun w hw => hmany 1 w (by omega) (k1.trans hw)) fun a2 v2 h2 k2 => (hX _).again ?_
 refine fork_round (Q := Q 2) h2 (by omega) (by simp) (hQ 2) (hQg 2) hn hc (fun w hw => hmany 2 w (by omega) ((k1.trans k2).trans hw)) fun a3 v3 h3 k3 => (hX _).again ?_
 exact fork_exit h3 fun a' h' => hk a' v3 h' ((k1.trans k2).trans k3)
end
end
section
open Go Go.Conc Go.RowKit
noncomputable def op0 : Array Oper := match stepR0 with | .region _ o _ => o | _ => #[]
noncomputable def op1 : Array Oper := match stepR1 with | .region _ o _ => o | _ => #[]
noncomputable def op2 : Array Oper := match stepR2 with | .region _ o _ => o | _ => #[]
noncomputable def op7 : Array Oper := match stepR7 with | .region _ o _ => o | _ => #[]
noncomputable def op8 : Array Oper := match stepR8 with | .region _ o _ => o | _ => #[]
theorem stepR0_eq : stepR0 = .region 0 op0 false := by kernel_rfl
theorem stepR1_eq : stepR1 = .region 1 op1 false := by kernel_rfl
theorem stepR2_eq : stepR2 = .region 2 op2 false := by kernel_rfl
theorem stepR7_eq : stepR7 = .region 7 op7 false := by kernel_rfl
theorem stepR8_eq : stepR8 = .region 8 op8 false := by kernel_rfl
theorem sz0 : List.range op0.size = [0, 1, 2, 3, 4] := by kernel_rfl
theorem sz1 : List.range op1.size = [0, 1, 2] := by kernel_rfl
theorem sz2 : List.range op2.size = [0] := by kernel_rfl
theorem sz7 : List.range op7.size = [0] := by kernel_rfl
theorem sz8 : List.range op8.size = [0] := by kernel_rfl
theorem alloc_get (w : World) (o : Obj) : (w.alloc o).heap[w.heap.size]? = some o := by
 show (w.heap.push o)[w.heap.size]? = _
 rw [Array.getElem?_push, if_pos rfl]
theorem alloc_cell (w : World) (x : Value) (t : TypeId) : (w.alloc (.cells #[x] t)).cell? ⟨w.heap.size, 0, none⟩ = some x := by
 unfold World.cell?
 rw [show (w.alloc (.cells #[x] t)).heap[(⟨w.heap.size, 0, none⟩ : Addr).block]? = _ from alloc_get w _]
 rfl
theorem makeChan_run (f0 : Frame) (w : World) (es : Array Event) : (execOp f0.eval (op1[0]'(by decide +kernel))).runT Tryd.prog w es = (.ok (.value (.chan (some w.heap.size))) { w with heap := w.heap.push (.chan 3 #[] false 0 0 false) }, es) := by kernel_rfl
section
variable {F : Value -> Prop} {b : Frame} {k : List Item} {cs : List Frame}
theorem step_head {RA A : Option Addr} {rn rc n cap : Nat} {s : Int} {ch : Option Nat} {v : World}
  (hk : ∀ C g8 g3 g4 g5 a' v' todo, FkL C g8 g3 g4 g5 RA A rn rc n cap s 0 a' v' -> Kp v v' -> todo = [.code (.block 0 (.loop stepL1)), .code (.seq stepR7 (.seq (.seq stepR8 (.block 2 (.loop stepL2))) stepT))] ->
   MS Tryd.prog SR gR sR F [] (some C) (({ (default : Frame) with fn := 40, kind := .normal } : Frame).at a' todo) cs v') :
  MS Tryd.prog SR gR sR F [] ch (Frame.enter Tryd.prog 40 #[.slice RA rn rc, .int .i64 s, .slice A n cap] .normal) cs v := by
 have hX : ∀ ch, Walk Tryd.prog SR gR sR (MS Tryd.prog SR gR sR F [] ch) := fun ch => MS.walk ctxR
 rw [enter_eq Tryd.func40 stepBody, stepB_eq]
 have hz : (#[.slice RA rn rc, .int .i64 s, .slice A n cap] ++ Array.replicate (Tryd.f40.ntmps - 3) undef : Array Value).size = 48 := by
  rw [Array.size_append, Array.size_replicate, Tryd.ntmps40]
  rfl
 have h0 : (#[.slice RA rn rc, .int .i64 s, .slice A n cap] ++ Array.replicate (Tryd.f40.ntmps - 3) undef : Array Value)[0]? = some (.slice RA rn rc) := by
  rw [Array.getElem?_append, if_pos (by simp)]; rfl
 have h1 : (#[.slice RA rn rc, .int .i64 s, .slice A n cap] ++ Array.replicate (Tryd.f40.ntmps - 3) undef : Array Value)[1]? = some (.int .i64 s) := by
  rw [Array.getElem?_append, if_pos (by simp)]; rfl
 have h2 : (#[.slice RA rn rc, .int .i64 s, .slice A n cap] ++ Array.replicate (Tryd.f40.ntmps - 3) undef : Array Value)[2]? = some (.slice A n cap) := by
  rw [Array.getElem?_append, if_pos (by simp)]; rfl
 have t0 : slot { tmps := #[.slice RA rn rc, .int .i64 s, .slice A n cap] ++ Array.replicate (Tryd.f40.ntmps - 3) undef, defers := [] } 0 (.slice RA rn rc) := by unfold slot; rw [Array.getD_eq_getD_getElem?, h0]; rfl
 have t1 : slot { tmps := #[.slice RA rn rc, .int .i64 s, .slice A n cap] ++ Array.replicate (Tryd.f40.ntmps - 3) undef, defers := [] } 1 (.int .i64 s) := by unfold slot; rw [Array.getD_eq_getD_getElem?, h1]; rfl
 have t2 : slot { tmps := #[.slice RA rn rc, .int .i64 s, .slice A n cap] ++ Array.replicate (Tryd.f40.ntmps - 3) undef, defers := [] } 2 (.slice A n cap) := by unfold slot; rw [Array.getD_eq_getD_getElem?, h2]; rfl
 have hdf : (({ tmps := #[.slice RA rn rc, .int .i64 s, .slice A n cap] ++ Array.replicate (Tryd.f40.ntmps - 3) undef, defers := [] } : Act)).defers = [] := rfl
 have hz' : (({ tmps := #[.slice RA rn rc, .int .i64 s, .slice A n cap] ++ Array.replicate (Tryd.f40.ntmps - 3) undef, defers := [] } : Act)).tmps.size = 48 := hz
 show MS Tryd.prog SR gR sR F [] ch (({ (default : Frame) with fn := 40, kind := .normal } : Frame).at { tmps := #[.slice RA rn rc, .int .i64 s, .slice A n cap] ++ Array.replicate (Tryd.f40.ntmps - 3) undef, defers := [] } _) cs v
 generalize ({ tmps := #[.slice RA rn rc, .int .i64 s, .slice A n cap] ++ Array.replicate (Tryd.f40.ntmps - 3) undef, defers := [] } : Act) = a at t0 t1 t2 hdf hz'
 refine (hX _).seq ?_
 rw [stepR0_eq, stepR1_eq, stepR2_eq]
 refine (hX _).region ?_
 rw [sz0]
 let v1 := v.alloc (.cells #[.slice RA rn rc] 22)
 let v2 := v1.alloc (.cells #[.int .i64 s] 2)
 let v3 := v2.alloc (.cells #[.slice A n cap] 26)
 refine (hX _).val (v' := v1) (some 3) (.pointer (some ⟨v.heap.size, 0, none⟩)) rfl (by kernel_rfl) rfl rfl (fun τ d => run_box1 _ 22 (.tmp 0) rfl t0 (by kernel_rfl)) ?_
 refine (hX _).val (v' := v2) (some 4) (.pointer (some ⟨v1.heap.size, 0, none⟩)) rfl (by kernel_rfl) rfl rfl (fun τ d => run_box1 (w := aT2 v1 τ d) _ 2 (.tmp 1) rfl (slot_ne t1 (by decide)) (by kernel_rfl)) ?_
 refine (hX _).val (v' := v3) (some 5) (.pointer (some ⟨v2.heap.size, 0, none⟩)) rfl (by kernel_rfl) rfl rfl (fun τ d => run_box1 (w := aT2 v2 τ d) _ 26 (.tmp 2) rfl (slot_ne (slot_ne t2 (by decide)) (by decide)) (by kernel_rfl)) ?_
 have sz := hz'
 have q3 : slot (((a.put (some 3) (.pointer (some ⟨v.heap.size, 0, none⟩))).put (some 4) (.pointer (some ⟨v1.heap.size, 0, none⟩))).put (some 5) (.pointer (some ⟨v2.heap.size, 0, none⟩))) 3 (.pointer (some ⟨v.heap.size, 0, none⟩)) :=
  slot_ne (slot_ne (slot_same (by rw [sz]; decide)) (by decide)) (by decide)
 have q4 : slot (((a.put (some 3) (.pointer (some ⟨v.heap.size, 0, none⟩))).put (some 4) (.pointer (some ⟨v1.heap.size, 0, none⟩))).put (some 5) (.pointer (some ⟨v2.heap.size, 0, none⟩))) 4 (.pointer (some ⟨v1.heap.size, 0, none⟩)) :=
  slot_ne (slot_same (by rw [size_put sz]; decide)) (by decide)
 have q5 : slot (((a.put (some 3) (.pointer (some ⟨v.heap.size, 0, none⟩))).put (some 4) (.pointer (some ⟨v1.heap.size, 0, none⟩))).put (some 5) (.pointer (some ⟨v2.heap.size, 0, none⟩))) 5 (.pointer (some ⟨v2.heap.size, 0, none⟩)) :=
  slot_same (by rw [size_put (size_put sz)]; decide)
 have qz : (((a.put (some 3) (.pointer (some ⟨v.heap.size, 0, none⟩))).put (some 4) (.pointer (some ⟨v1.heap.size, 0, none⟩))).put (some 5) (.pointer (some ⟨v2.heap.size, 0, none⟩))).tmps.size = 48 := size_put (size_put (size_put sz))
 have qd : (((a.put (some 3) (.pointer (some ⟨v.heap.size, 0, none⟩))).put (some 4) (.pointer (some ⟨v1.heap.size, 0, none⟩))).put (some 5) (.pointer (some ⟨v2.heap.size, 0, none⟩))).defers = [] := hdf
 generalize ((a.put (some 3) (.pointer (some ⟨v.heap.size, 0, none⟩))).put (some 4) (.pointer (some ⟨v1.heap.size, 0, none⟩))).put (some 5) (.pointer (some ⟨v2.heap.size, 0, none⟩)) = a3 at q3 q4 q5 qz qd
 refine (hX _).val (v' := v3) (some 6) (.slice none 0 0) rfl (by kernel_rfl) rfl rfl (fun τ d => run_moveX _ _ (.inr rfl) rfl) ?_
 refine (hX _).val (v' := v3) (some 7) (.int .i64 0) rfl (by kernel_rfl) rfl rfl (fun τ d => run_moveX _ _ (.inr rfl) rfl) ?_
 have p3 := slot_ne (d := 7) (x := .int .i64 0) (slot_ne (d := 6) (x := .slice none 0 0) q3 (by decide)) (by decide)
 have p4 := slot_ne (d := 7) (x := .int .i64 0) (slot_ne (d := 6) (x := .slice none 0 0) q4 (by decide)) (by decide)
 have p5 := slot_ne (d := 7) (x := .int .i64 0) (slot_ne (d := 6) (x := .slice none 0 0) q5 (by decide)) (by decide)
 have pz : ((a3.put (some 6) (.slice none 0 0)).put (some 7) (.int .i64 0)).tmps.size = 48 := size_put (size_put qz)
 have pd : ((a3.put (some 6) (.slice none 0 0)).put (some 7) (.int .i64 0)).defers = [] := qd
 generalize (a3.put (some 6) (.slice none 0 0)).put (some 7) (.int .i64 0) = a4 at p3 p4 p5 pz pd
 refine (hX _).done ((hX _).seq ((hX _).region ?_))
 rw [sz1]
 refine MS.chan rfl rfl makeChan_run fun C => ?_
 show MS Tryd.prog SR gR sR F [] (some C) (Frame.at _ (a4.put (some 15) (.chan (some C))) _) cs v3
 have r3 := slot_ne (d := 15) (x := .chan (some C)) p3 (by decide)
 have r4 := slot_ne (d := 15) (x := .chan (some C)) p4 (by decide)
 have r5 := slot_ne (d := 15) (x := .chan (some C)) p5 (by decide)
 have r15 := slot_same (a := a4) (d := 15) (x := .chan (some C)) (by rw [pz]; decide)
 have rz : (a4.put (some 15) (.chan (some C))).tmps.size = 48 := size_put pz
 have rd : (a4.put (some 15) (.chan (some C))).defers = [] := pd
 generalize a4.put (some 15) (.chan (some C)) = a5 at r3 r4 r5 r15 rz rd
 let v4 := v3.alloc (.cells #[.chan none] 91)
 let v5 := v4.setRow v3.heap.size #[.chan (some C)]
 refine (hX _).val (v' := v4) (some 8) (.pointer (some ⟨v3.heap.size, 0, none⟩)) rfl (by kernel_rfl) rfl rfl (fun τ d => run_allocI (w := aT2 v3 τ d) _ 91 rfl (z := .chan none) (by kernel_rfl)) ?_
 have u3 := slot_ne (d := 8) (x := .pointer (some ⟨v3.heap.size, 0, none⟩)) r3 (by decide)
 have u4 := slot_ne (d := 8) (x := .pointer (some ⟨v3.heap.size, 0, none⟩)) r4 (by decide)
 have u5 := slot_ne (d := 8) (x := .pointer (some ⟨v3.heap.size, 0, none⟩)) r5 (by decide)
 have u15 := slot_ne (d := 8) (x := .pointer (some ⟨v3.heap.size, 0, none⟩)) r15 (by decide)
 have u8 := slot_same (a := a5) (d := 8) (x := .pointer (some ⟨v3.heap.size, 0, none⟩)) (by rw [rz]; decide)
 have uz : (a5.put (some 8) (.pointer (some ⟨v3.heap.size, 0, none⟩))).tmps.size = 48 := size_put rz
 have ud : (a5.put (some 8) (.pointer (some ⟨v3.heap.size, 0, none⟩))).defers = [] := rd
 generalize a5.put (some 8) (.pointer (some ⟨v3.heap.size, 0, none⟩)) = a6 at u3 u4 u5 u15 u8 uz ud
 refine (hX _).nil (v' := v5) rfl (by kernel_rfl) rfl rfl (fun τ d => run_storeI (w := aT2 v4 τ d) _ 91 91 (.tmp 8) (.tmp 15) rfl u8 u15 rfl (alloc_get v3 _) (by kernel_rfl)) ?_
 refine (hX _).done ((hX _).seq ((hX _).seq ((hX _).region ?_)))
 rw [sz2]
 refine (hX _).val (v' := v5) (some 16) (.int .i64 0) rfl (by kernel_rfl) rfl rfl (fun τ d => run_moveX _ _ (.inl rfl) rfl) ?_
 have k3 : Kp v v3 := ((Kp.alloc v _).trans (Kp.alloc v1 _)).trans (Kp.alloc v2 _)
 have k5 : Kp v3 v5 := ⟨by show v3.heap.size <= (Array.modify _ _ _).size; rw [Array.size_modify]; exact (Kp.alloc v3 _).size, fun c hc2 => by
  rw [<- (Kp.alloc v3 _).cell c hc2]
  refine World.cell?_of_block ?_
  show (Array.modify _ _ _)[c.block]? = _
  rw [Array.getElem?_modify, if_neg (by omega)]⟩
 have c3 : v3.cell? ⟨v.heap.size, 0, none⟩ = some (.slice RA rn rc) := (((Kp.alloc v1 _).trans (Kp.alloc v2 _)).cell _ (World.block_lt_of_cell? _ _ (alloc_cell v _ _))).trans (alloc_cell v _ _)
 have c4 : v3.cell? ⟨v1.heap.size, 0, none⟩ = some (.int .i64 s) := ((Kp.alloc v2 _).cell _ (World.block_lt_of_cell? _ _ (alloc_cell v1 _ _))).trans (alloc_cell v1 _ _)
 have c5 : v3.cell? ⟨v2.heap.size, 0, none⟩ = some (.slice A n cap) := alloc_cell v2 _ _
 have e8 : v5.heap[v3.heap.size]? = some (.cells #[.chan (some C)] 91 (0, 0)) := by
  show (Array.modify _ _ _)[v3.heap.size]? = _
  rw [Array.getElem?_modify, if_pos rfl, show v4.heap[v3.heap.size]? = _ from alloc_get v3 _]
  rfl
 have c8 : v5.cell? ⟨v3.heap.size, 0, none⟩ = some (.chan (some C)) := by
  unfold World.cell?
  rw [show v5.heap[(⟨v3.heap.size, 0, none⟩ : Addr).block]? = _ from e8]
  rfl
 refine (hX _).done (hk C v3.heap.size v.heap.size v1.heap.size v2.heap.size _ v5 _ ⟨size_put uz, ud, slot_ne u3 (by decide), slot_ne u4 (by decide), slot_ne u5 (by decide), slot_ne u8 (by decide), slot_same (by rw [uz]; decide), c8, ?_, ?_, ?_⟩ (k3.trans k5) rfl)
 ·exact (k5.cell _ (World.block_lt_of_cell? _ _ c3)).trans c3
 ·exact (k5.cell _ (World.block_lt_of_cell? _ _ c4)).trans c4
 ·exact (k5.cell _ (World.block_lt_of_cell? _ _ c5)).trans c5
end
end
section
open Go Go.Conc Go.RowKit
theorem trn_cel : Trn pCel where
 turn h hl := fun ⟨A, c, e, hp, hf, hs⟩ => by
  subst e
  obtain ⟨u0, l, rfl, hu0, hl⟩ := lsRel_cons hl
  obtain ⟨u1, l, rfl, hu1, hl⟩ := lsRel_cons hl
  obtain ⟨u2, rfl, hu2⟩ := lsRel_one hl
  obtain ⟨A', rfl, h2⟩ := hs.turn (trn_i _) h hu2 rfl
  rw [vRel_str hu0, vRel_int hu1]
  exact ⟨A', c, rfl, hp, hf, h2⟩
theorem eqv_cel : Eqv pCel where
 same hc hz := fun ⟨A, c, e, hp, hf, hs⟩ => ⟨A, c, e, hp, hf, hs.same (eqv_i _) hc hz⟩
theorem inn_cel : Inn pCel := ⟨by decide, fun hc ⟨A, c, e, hp, hf, hs⟩ => ⟨A, c, e, hp, hf, hs.into (inn_i _) hc⟩⟩
theorem SlAt.gw {α : Type} {E : Rp α} {v v' : World} {A : Option Addr} {cap : Nat} {xs : List α} (hs : SlAt E (Old v) v A cap xs) (h : Gw v v') : SlAt E (Old v') v' A cap xs :=
 (hs.keep fun k hk => h.2 k hk).wide fun k hk => Nat.lt_of_lt_of_le hk h.1
theorem Kp.gw {v v' : World} (h : Gw v v') : Kp v v' := ⟨h.1, fun a ha => World.cell?_of_block (h.2 _ ha)⟩
def Qc (zs : Nat -> List Cel) (es : Nat -> Int) (i : Nat) : Post := fun x w => ∃ B c, x = .agg #[.int .i64 i, .slice B (zs i).length c, .int .i64 (es i)] /\ SlAt pCel (Old w) w B c (zs i)
theorem qc_inv (zs : Nat -> List Cel) (es : Nat -> Int) (i : Nat) : InvQ SR (Qc zs es i) where
 turn ρ v v' x y h hxy := fun ⟨B, c, e, hs⟩ => by
  subst e
  cases hxy with
  | agg _ bs h1 h2 =>
   obtain ⟨bs⟩ := bs
   match bs, h1, h2 with
   | [b0, b1, b2], h1, h2 =>
    have e0 : VRel SR ρ (.int .i64 i) b0 := h2 0 (by simp) (by simp)
    have e1 : VRel SR ρ (.slice B (zs i).length c) b1 := h2 1 (by simp) (by simp)
    have e2 : VRel SR ρ (.int .i64 (es i)) b2 := h2 2 (by simp) (by simp)
    obtain ⟨B', rfl, hs'⟩ := hs.turn trn_cel h e1 rfl
    rw [vRel_int e0, vRel_int e2]
    exact ⟨B', c, rfl, hs'⟩
   | [], h1, _ => exact absurd h1 (by simp)
   | [_], h1, _ => exact absurd h1 (by simp)
   | [_, _], h1, _ => exact absurd h1 (by simp)
   | _ :: _ :: _ :: _ :: _, h1, _ => exact absurd h1 (by simp)
 at2 x v τ d := fun ⟨B, c, e, hs⟩ => ⟨B, c, e, hs.at2 τ d⟩
theorem qc_gw (zs : Nat -> List Cel) (es : Nat -> Int) (i : Nat) (x : Value) (w w' : World) (h : Qc zs es i x w) (hg : Gw w w') : Qc zs es i x w' := by
 obtain ⟨B, c, e, hs⟩ := h
 exact ⟨B, c, e, hs.gw hg⟩
noncomputable def op9 : Array Oper := match stepL2 with | .seq (.region _ o _) _ => o | _ => #[]
noncomputable def op10 : Array Oper := match stepL2 with | .seq _ (.seq _ (.seq (.block _ (.seq (.region _ o _) _)) _)) => o | _ => #[]
noncomputable def op11 : Array Oper := match stepL2 with | .seq _ (.seq _ (.seq (.block _ (.seq _ (.region _ o _))) _)) => o | _ => #[]
noncomputable def op12 : Array Oper := match stepL2 with | .seq _ (.seq _ (.seq _ (.region _ o _))) => o | _ => #[]
theorem stepL2_eq : stepL2 = .seq (.region 9 op9 false) (.seq (.cond (.tmp 22) .skip (.exit 2)) (.seq (.block 3 (.seq (.region 10 op10 false) (.region 11 op11 false))) (.region 12 op12 false))) := by kernel_rfl
theorem sz9 : List.range op9.size = [0] := by kernel_rfl
theorem sz10 : List.range op10.size = [0, 1, 2, 3] := by kernel_rfl
theorem sz11 : List.range op11.size = [0, 1, 2, 3, 4] := by kernel_rfl
theorem sz12 : List.range op12.size = [0, 1] := by kernel_rfl
theorem recv_run (C : Nat) (ev : Operand -> Value) (w : World) (es : Array Event) (h : ev (.tmp 23) = .chan (some C)) : (execOp ev (op10[1]'(by decide +kernel))).runT Tryd.prog w es = (.ok (.comm #[rcase C (.agg #[.int .i64 0, .slice none 0 0, .int .i64 0])] true (.recv false)) w, es) := by
 refine Eq.trans (b := (.ok (.comm #[{ chan := ev (.tmp 23), send := none, zero := .agg #[.int .i64 0, .slice none 0 0, .int .i64 0] }] true (.recv false)) w, es)) (by kernel_rfl) ?_
 rw [h]
 rfl
def row3 (C : Array Value) (k : Nat) (a b c : Value) : Array Value := (C.toList.take (k * 3) ++ (#[a, b, c] : Array Value).toList ++ C.toList.drop (k * 3 + (#[a, b, c] : Array Value).size)).toArray
theorem row3_size {C : Array Value} {k : Nat} {a b c : Value} (h : k * 3 + 3 <= C.size) : (row3 C k a b c).size = C.size := by
 unfold row3; simp; omega
theorem row3_get {C : Array Value} {k : Nat} {a b c : Value} (h : k * 3 + 3 <= C.size) (i : Nat) : (row3 C k a b c)[i]? = if i = k * 3 then some a else if i = k * 3 + 1 then some b else if i = k * 3 + 2 then some c else C[i]? := by
 unfold row3
 rw [List.getElem?_toArray]
 have e : C[i]? = C.toList[i]? := by simp
 have hl : (C.toList.take (k * 3)).length = k * 3 := by simp; omega
 by_cases h1 : i < k * 3
 ·rw [if_neg (by omega), if_neg (by omega), if_neg (by omega), List.append_assoc, List.getElem?_append_left (by omega), List.getElem?_take_of_lt h1, e]
 ·by_cases h4 : i < k * 3 + 3
  ·rw [List.append_assoc, List.getElem?_append_right (by omega), List.getElem?_append_left (by simp; omega), hl]
   rcases (by omega : i = k * 3 ∨ i = k * 3 + 1 ∨ i = k * 3 + 2) with rfl | rfl | rfl
   ·simp
   ·rw [show k * 3 + 1 - k * 3 = 1 by omega, if_neg (by omega), if_pos rfl]; rfl
   ·rw [show k * 3 + 2 - k * 3 = 2 by omega, if_neg (by omega), if_neg (by omega), if_pos rfl]; rfl
  ·rw [if_neg (by omega), if_neg (by omega), if_neg (by omega), List.getElem?_append_right (by rw [List.length_append, hl]; simp; omega), List.getElem?_drop, e, List.length_append, hl]
   congr 1
   simp
   omega
section
variable {P : Program} {o : Oper} {w : World}
theorem run_storeRow (ev : Operand -> Value) {g : Nat} {t : TypeId} (ty : TypeId) (p x : Operand) (off : Nat) (old cells row : Array Value) (ho : o.op = .store ty p x) (hp : ev p = .pointer (some ⟨g, off, none⟩)) (hx : ev x = .agg cells)
  (hg : Blk w g t old) (hi : (P.info? ty).map (·.size) = some cells.size) (hs : off + cells.size <= old.size) (h1 : cells.all (·.oneCell') = true) (hrow : (old.toList.take off ++ cells.toList ++ old.toList.drop (off + cells.size)).toArray = row) : (execOp ev o).run P w = .ok .skip (w.setRow g row) := by
 have hr : (storeVar ty ⟨g, off, none⟩ (.agg cells)).run P w = .ok () (w.setRow g row) := by
  have := run_storeCells_at P g off t cells.toList 0 old w hg (by simpa using hs) (fun v hv => (Array.all_eq_true_iff_forall_mem.1 h1) v (by simpa using hv))
  rw [<- hrow]
  cases hq : P.info? ty with
  | none => simp [hq] at hi
  | some i =>
   have hs : cells.size = i.size := by simp [hq] at hi; omega
   simp only [Nat.add_zero, Array.length_toList] at this
   simp [storeVar, sizeOf, typeInfo, hq, Value.cells, <- hs, this]
 simp [execOp, ho, Instr.storeAt, Instr.sureAddr, hp, hx, hr]
end
def Fx (g : Nat) (v : World) (b : Nat) : Prop := b ≠ g /\ b < v.heap.size
theorem SlAt.fx {α : Type} {E : Rp α} {g : Nat} {v v' : World} {A : Option Addr} {cap : Nat} {xs : List α} (hs : SlAt E (Fx g v) v A cap xs) (h : Gw v v') : SlAt E (Fx g v') v' A cap xs :=
 (hs.keep fun k hk => h.2 k hk.2).wide fun k hk => ⟨hk.1, Nat.lt_of_lt_of_le hk.2 h.1⟩
theorem SlAt.fxRow {α : Type} {E : Rp α} {g : Nat} {v : World} {A : Option Addr} {cap : Nat} {xs : List α} (hs : SlAt E (Fx g v) v A cap xs) (row : Array Value) : SlAt E (Fx g (v.setRow g row)) (v.setRow g row) A cap xs :=
 (hs.keep fun k hk => setRow_other v g k row hk.1).wide fun k hk => ⟨hk.1, by simpa using hk.2⟩
section
variable {P : Program} {o : Oper} {w : World}
theorem run_fieldX (ev : Operand -> Value) {t : TypeId} (x : Operand) (f : Nat) (ho : o.op = .fieldAddr t x f) {u z : Value} (hx : ev x = u) (hr : (Instr.fieldAt t u f).run P w = .ok z w) : (execOp ev o).run P w = .ok (.value z) w := by
 unfold execOp
 simp only [ho, hx, Sem.run_bind, hr, Result.andThen_ok, Sem.run_pure]
theorem run_indexX (ev : Operand -> Value) {t : TypeId} (x y : Operand) (ho : o.op = .indexAddr t x y) {u q z : Value} (hx : ev x = u) (hy : ev y = q) (hr : (Instr.indexAt t u q).run P w = .ok z w) : (execOp ev o).run P w = .ok (.value z) w := by
 unfold execOp
 simp only [ho, hx, hy, Sem.run_bind, hr, Result.andThen_ok, Sem.run_pure]
end
structure RcL (C g8 g10 : Nat) (zs : Nat -> List Cel) (es : Nat -> Int) (v0 : World) (rem : List Nat) (j : Nat) (a : Act) (v : World) : Prop where
 sz : a.tmps.size = 48
 df : a.defers = []
 s8 : slot a 8 (.pointer (some ⟨g8, 0, none⟩))
 s10 : slot a 10 (.pointer (some ⟨g10, 0, none⟩))
 s21 : slot a 21 (.int .i64 j)
 lt8 : g8 < v0.heap.size
 ge10 : v0.heap.size <= g10
 c8 : v0.cell? ⟨g8, 0, none⟩ = some (.chan (some C))
 k0 : Kp v0 v
 blk : ∃ cells, Blk v g10 95 cells /\ cells.size = 9 /\ ∀ i, i < 3 -> i ∉ rem -> ∃ B c, cells[i * 3]? = some (.int .i64 i) /\ cells[i * 3 + 1]? = some (.slice B (zs i).length c) /\ cells[i * 3 + 2]? = some (.int .i64 (es i)) /\ SlAt pCel (Fx g10 v) v B c (zs i)
theorem RcL.put {C g8 g10 : Nat} {zs : Nat -> List Cel} {es : Nat -> Int} {v0 : World} {rem : List Nat} {j : Nat} {a : Act} {v : World} (h : RcL C g8 g10 zs es v0 rem j a v) (d : Nat) (x : Value) (hd : d ≠ 8 /\ d ≠ 10 /\ d ≠ 21) : RcL C g8 g10 zs es v0 rem j (a.put (some d) x) v :=
 { h with sz := size_put h.sz, df := h.df, s8 := slot_ne h.s8 hd.1, s10 := slot_ne h.s10 hd.2.1, s21 := slot_ne h.s21 hd.2.2 }
theorem RcL.gw {C g8 g10 : Nat} {zs : Nat -> List Cel} {es : Nat -> Int} {v0 : World} {rem : List Nat} {j : Nat} {a : Act} {v v' : World} (h : RcL C g8 g10 zs es v0 rem j a v) (hg : Gw v v') : RcL C g8 g10 zs es v0 rem j a v' := by
 obtain ⟨cells, h1, h2, h3⟩ := h.blk
 exact { h with k0 := h.k0.trans (Kp.gw hg), blk := ⟨cells, (hg.2 _ h1.lt).trans h1, h2, fun i hi hr => let ⟨B, c, k1, k2, k3, k4⟩ := h3 i hi hr; ⟨B, c, k1, k2, k3, k4.fx hg⟩⟩ }
section
variable {F : Value -> Prop} {b : Frame} {k : List Item} {cs : List Frame}
theorem Gw.alloc (w : World) (o : Obj) : Gw w (w.alloc o) := ⟨by show w.heap.size <= (w.heap.push o).size; rw [Array.size_push]; omega, fun k hk => Below.heap_alloc _ _ _ hk⟩
theorem Gw.grow {v v' : World} (h : Grow v v') : Gw v v' := ⟨h.size, h.keep⟩
theorem Gw.row {w0 w : World} {g : Nat} (h : Gw w0 w) (hg : w0.heap.size <= g) (row : Array Value) : Gw w0 (w.setRow g row) :=
 ⟨by simpa using h.1, fun k hk => (setRow_other w g k row (by omega)).trans (h.2 k hk)⟩
theorem recv_round {C g8 g10 : Nat} {zs : Nat -> List Cel} {es : Nat -> Int} {v0 : World} {rem : List Nat} {j : Nat} {a : Act} {v : World} (h : RcL C g8 g10 zs es v0 rem j a v) (hj : j < 3) (hne : rem ≠ []) (hrem : ∀ i ∈ rem, i < 3)
  (hk : ∀ r1 i r2 a' v', rem = r1 ++ i :: r2 -> RcL C g8 g10 zs es v0 (r1 ++ r2) (j + 1) a' v' -> MS Tryd.prog SR gR sR F ((r1 ++ r2).map (Qc zs es)) (some C) (b.at a' k) cs v') :
  MS Tryd.prog SR gR sR F (rem.map (Qc zs es)) (some C) (b.at a (.code stepL2 :: k)) cs v := by
 have hX : ∀ Γ, Walk Tryd.prog SR gR sR (MS Tryd.prog SR gR sR F Γ (some C)) := fun Γ => MS.walk ctxR
 rw [stepL2_eq]
 refine (hX _).seq ((hX _).region ?_)
 rw [sz9]
 refine (hX _).val (v' := v) (some 22) (.bool true) rfl (by kernel_rfl) rfl rfl (fun τ d => ?_) ?_
 ·have e : (decide (((j : Nat) : Int) < 3)) = true := by simp; omega
  have := run_lss (P := Tryd.prog) (o := op9[0]) (w := aT2 v τ d) a.eval 3 3 (.tmp 21) _ rfl Tryd.underlying3 h.s21 (n := 3) rfl
  exact this.trans (by rw [e])
 have h1 := h.put 22 (.bool true) (by decide)
 have s22 := slot_same (a := a) (d := 22) (x := .bool true) (by rw [h.sz]; decide)
 generalize (a.put (some 22) (.bool true)) = a1 at h1 s22
 refine (hX _).done ((hX _).seq ((hX _).cond (t := true) rfl s22 ((hX _).skip ((hX _).seq ((hX _).block ((hX _).seq ((hX _).region ?_)))))))
 rw [sz10]
 have c8 : v.cell? ⟨g8, 0, none⟩ = some (.chan (some C)) := (h.k0.cell _ h.lt8).trans h.c8
 refine (hX _).val (v' := v) (some 23) (.chan (some C)) rfl (by kernel_rfl) rfl rfl (fun τ d => run_one (w := aT2 v τ d) a1.eval 91 (.tmp 8) rfl _ Tryd.underlying91 rfl g8 0 h1.s8 c8) ?_
 have h2 := h1.put 23 (.chan (some C)) (by decide)
 have s23 := slot_same (a := a1) (d := 23) (x := .chan (some C)) (by rw [h1.sz]; decide)
 generalize (a1.put (some 23) (.chan (some C))) = a2 at h2 s23
 refine MS.recv (x := .tmp 23) rfl rfl rfl s23 (fun ev w es he => recv_run C ev w es he) (by simpa using hne) fun Γ1 Q Γ2 eΓ v1 y hg hq => ?_
 obtain ⟨r1, r2', er, e1, e2⟩ := List.map_eq_append_iff.1 eΓ
 obtain ⟨i, r2, e3, e4, e5⟩ := List.map_eq_cons_iff.1 e2
 subst e1 e3 e5
 subst e4
 have hi : i < 3 := hrem i (by rw [er]; simp)
 obtain ⟨B, c, rfl, hs⟩ := hq
 rw [<- List.map_append]
 show MS Tryd.prog SR gR sR F _ (some C) (b.at (a2.put (some 24) (.agg #[.int .i64 i, .slice B (zs i).length c, .int .i64 (es i)])) _) cs v1
 have h3 := (h2.gw (Gw.grow hg)).put 24 (.agg #[.int .i64 i, .slice B (zs i).length c, .int .i64 (es i)]) (by decide)
 have s24 := slot_same (a := a2) (d := 24) (x := .agg #[.int .i64 i, .slice B (zs i).length c, .int .i64 (es i)]) (by rw [h2.sz]; decide)
 generalize (a2.put (some 24) (.agg #[.int .i64 i, .slice B (zs i).length c, .int .i64 (es i)])) = a3 at h3 s24
 have hs1 : SlAt pCel (Fx g10 v1) v1 B c (zs i) := hs.into inn_cel fun x u hu => by
  obtain ⟨k1, k2⟩ := hide_cell hu
  refine ⟨⟨fun e => ?_, World.block_lt_of_cell? _ _ k1⟩, k1⟩
  obtain ⟨cells, b1, b2, _⟩ := h.blk
  have hlt := b1.lt
  rcases k2 with k2 | k2
  ·omega
  ·have b3 : v1.heap[g10]? = some (.cells cells 95 (0, 0)) := (hg.keep _ hlt).trans b1
   have := k2 _ (by rw [e]; exact b3)
   unfold shutO at this
   injection this with _ _ e6
   injection e6 with _ e7
   omega
 let Z : Array Value := #[.int .i64 0, .slice none 0 0, .int .i64 0]
 let Y : Array Value := #[.int .i64 i, .slice B (zs i).length c, .int .i64 (es i)]
 let v2 := v1.alloc (.cells Z 93)
 let v3 := v2.setRow v1.heap.size Y
 have hg3 : Gw v1 v3 := (Gw.alloc v1 _).row (Nat.le_refl _) Y
 refine (hX _).val (v' := v2) (some 11) (.pointer (some ⟨v1.heap.size, 0, none⟩)) rfl (by kernel_rfl) rfl rfl (fun τ d => by
  show (execOp a3.eval (op10[2]'(by decide +kernel))).run Tryd.prog (aT2 v1 τ d) = _
  kernel_rfl) ?_
 have h4 := (h3.gw (Gw.alloc v1 (.cells Z 93))).put 11 (.pointer (some ⟨v1.heap.size, 0, none⟩)) (by decide)
 have s24' := slot_ne (d := 11) (x := .pointer (some ⟨v1.heap.size, 0, none⟩)) s24 (by decide)
 have s11 := slot_same (a := a3) (d := 11) (x := .pointer (some ⟨v1.heap.size, 0, none⟩)) (by rw [h3.sz]; decide)
 generalize (a3.put (some 11) (.pointer (some ⟨v1.heap.size, 0, none⟩))) = a4 at h4 s24' s11
 refine (hX _).nil (v' := v3) rfl (by kernel_rfl) rfl rfl (fun τ d => run_storeRow (w := aT2 v2 τ d) a4.eval 93 (.tmp 11) (.tmp 24) 0 Z Y Y rfl s11 s24' (show Blk _ _ _ _ from alloc_get v1 _) (by kernel_rfl) (by simp [Z, Y]) (by simp [Y, Value.oneCell']) (by simp [Z, Y])) ?_
 have h5 : RcL C g8 g10 zs es v0 rem j a4 v3 := { h4 with k0 := (h3.gw hg3).k0, blk := (h3.gw hg3).blk }
 have hb11 : Blk v3 v1.heap.size 93 Y := blk_row (alloc_get v1 _)
 refine (hX _).done ((hX _).region ?_)
 rw [sz11]
 refine (hX _).val (v' := v3) (some 25) (.pointer (some ⟨v1.heap.size, 0, none⟩)) rfl (by kernel_rfl) rfl rfl (fun τ d => ?_) ?_
 ·have hf : (Instr.fieldAt 93 (.pointer (some ⟨v1.heap.size, 0, none⟩)) 0).run Tryd.prog (aT2 v3 τ d) = .ok (.pointer (some ⟨v1.heap.size, 0, none⟩)) (aT2 v3 τ d) := by kernel_rfl
  exact run_fieldX a4.eval (.tmp 11) 0 rfl s11 hf
 have h6 := h5.put 25 (.pointer (some ⟨v1.heap.size, 0, none⟩)) (by decide)
 have s11' := slot_ne (d := 25) (x := .pointer (some ⟨v1.heap.size, 0, none⟩)) s11 (by decide)
 have s25 := slot_same (a := a4) (d := 25) (x := .pointer (some ⟨v1.heap.size, 0, none⟩)) (by rw [h5.sz]; decide)
 generalize (a4.put (some 25) (.pointer (some ⟨v1.heap.size, 0, none⟩))) = a5 at h6 s11' s25
 refine (hX _).val (v' := v3) (some 26) (.int .i64 i) rfl (by kernel_rfl) rfl rfl (fun τ d => run_one (w := aT2 v3 τ d) a5.eval 3 (.tmp 25) rfl _ Tryd.underlying3 rfl v1.heap.size 0 s25 ((hb11.cell 0).trans rfl)) ?_
 have h7 := h6.put 26 (.int .i64 i) (by decide)
 have s11b := slot_ne (d := 26) (x := .int .i64 i) s11' (by decide)
 have s26 := slot_same (a := a5) (d := 26) (x := .int .i64 i) (by rw [h6.sz]; decide)
 generalize (a5.put (some 26) (.int .i64 i)) = a6 at h7 s11b s26
 refine (hX _).val (v' := v3) (some 27) (.agg Y) rfl (by kernel_rfl) rfl rfl (fun τ d => run_loadL (w := aT2 v3 τ d) a6.eval 93 (.tmp 11) rfl v1.heap.size 0 s11b Y.toList _ (fun m u hu => by
  show v3.cell? ⟨v1.heap.size, 0 + m, none⟩ = some u
  rw [Nat.zero_add, hb11.cell m]
  simpa using hu) Tryd.underlying93 rfl (by kernel_rfl)) ?_
 have h8 := h7.put 27 (.agg Y) (by decide)
 have s26b := slot_ne (d := 27) (x := .agg Y) s26 (by decide)
 have s27 := slot_same (a := a6) (d := 27) (x := .agg Y) (by rw [h7.sz]; decide)
 generalize (a6.put (some 27) (.agg Y)) = a7 at h8 s26b s27
 refine (hX _).val (v' := v3) (some 28) (.pointer (some ⟨g10, i * 3, none⟩)) rfl (by kernel_rfl) rfl rfl (fun τ d => ?_) ?_
 ·have hf : (Instr.indexAt 95 (.pointer (some ⟨g10, 0, none⟩)) (.int .i64 i)).run Tryd.prog (aT2 v3 τ d) = .ok (.pointer (some ⟨g10, i * 3, none⟩)) (aT2 v3 τ d) := by
   rcases (by omega : i = 0 ∨ i = 1 ∨ i = 2) with rfl | rfl | rfl <;> kernel_rfl
  exact run_indexX a7.eval (.tmp 10) (.tmp 26) rfl h8.s10 s26b hf
 have h9 := h8.put 28 (.pointer (some ⟨g10, i * 3, none⟩)) (by decide)
 have s27b := slot_ne (d := 28) (x := .pointer (some ⟨g10, i * 3, none⟩)) s27 (by decide)
 have s28 := slot_same (a := a7) (d := 28) (x := .pointer (some ⟨g10, i * 3, none⟩)) (by rw [h8.sz]; decide)
 generalize (a7.put (some 28) (.pointer (some ⟨g10, i * 3, none⟩))) = a8 at h9 s27b s28
 obtain ⟨cells, hb, hcs, hall⟩ := h9.blk
 let v4 := v3.setRow g10 (row3 cells i (.int .i64 i) (.slice B (zs i).length c) (.int .i64 (es i)))
 refine (hX _).nil (v' := v4) rfl (by kernel_rfl) rfl rfl (fun τ d => run_storeRow (w := aT2 v3 τ d) a8.eval 93 (.tmp 28) (.tmp 27) (i * 3) cells Y _ rfl s28 s27b hb (by kernel_rfl) (by simp [Y]; omega) (by simp [Y, Value.oneCell']) rfl) ?_
 have hsz : i * 3 + 3 <= cells.size := by omega
 have k4 : Kp v3 v4 ∨ True := .inr trivial
 have h10 : RcL C g8 g10 zs es v0 (r1 ++ r2) j a8 v4 := { h9 with
  k0 := ⟨by simpa [v4] using h9.k0.size, fun x hx => by
   rw [<- h9.k0.cell x hx]
   exact World.cell?_of_block (setRow_other v3 g10 x.block _ (by have := h9.ge10; omega))⟩
  blk := ⟨_, blk_row hb, (row3_size hsz).trans hcs, fun m hm hr => by
   by_cases hmi : m = i
   ·subst hmi
    exact ⟨B, c, by rw [row3_get hsz, if_pos rfl], by rw [row3_get hsz, if_neg (by omega), if_pos rfl], by rw [row3_get hsz, if_neg (by omega), if_neg (by omega), if_pos rfl], (hs1.fx hg3).fxRow _⟩
   ·obtain ⟨B', c', k1, k2, k3, k5⟩ := hall m hm (fun hin => by
     rw [er] at hin
     rcases List.mem_append.1 hin with e | e
     ·exact hr (List.mem_append_left _ e)
     ·rcases List.mem_cons.1 e with e | e
      ·exact hmi e
      ·exact hr (List.mem_append_right _ e))
    exact ⟨B', c', by rw [row3_get hsz, if_neg (by omega), if_neg (by omega), if_neg (by omega)]; exact k1, by rw [row3_get hsz, if_neg (by omega), if_neg (by omega), if_neg (by omega)]; exact k2, by rw [row3_get hsz, if_neg (by omega), if_neg (by omega), if_neg (by omega)]; exact k3, k5.fxRow _⟩⟩ }
 refine (hX _).done ((hX _).inBlock ((hX _).region ?_))
 rw [sz12]
 refine (hX _).val (v' := v4) (some 29) (.int .i64 ((j + 1 : Nat) : Int)) rfl (by kernel_rfl) rfl rfl (fun τ d => ?_) ?_
 ·rw [Int.natCast_add]
  exact run_add a8.eval 3 3 (.tmp 21) _ rfl Tryd.underlying3 h10.s21 rfl (by omega)
 have h11 := h10.put 29 (.int .i64 ((j + 1 : Nat) : Int)) (by decide)
 have s29 := slot_same (a := a8) (d := 29) (x := .int .i64 ((j + 1 : Nat) : Int)) (by rw [h10.sz]; decide)
 generalize (a8.put (some 29) (.int .i64 ((j + 1 : Nat) : Int))) = a9 at h11 s29
 refine (hX _).val (v' := v4) (some 21) (.int .i64 ((j + 1 : Nat) : Int)) rfl (by kernel_rfl) rfl rfl (fun τ d => run_moveX _ (.tmp 29) (.inl rfl) s29) ?_
 refine (hX _).done (hk r1 i r2 _ v4 er ?_)
 exact { h11 with sz := size_put h11.sz, df := h11.df, s8 := slot_ne h11.s8 (by decide), s10 := slot_ne h11.s10 (by decide), s21 := slot_same (by rw [h11.sz]; decide) }
end
end
section
open Go Go.Conc Go.RowKit
section
variable {F : Value -> Prop} {b : Frame} {k : List Item} {cs : List Frame}
theorem recv_exit {C g8 g10 : Nat} {zs : Nat -> List Cel} {es : Nat -> Int} {v0 : World} {rem : List Nat} {a : Act} {v : World} {Γ : List Post} (h : RcL C g8 g10 zs es v0 rem 3 a v)
  (hk : ∀ a', RcL C g8 g10 zs es v0 rem 3 a' v -> MS Tryd.prog SR gR sR F Γ (some C) (b.at a' k) cs v) :
  MS Tryd.prog SR gR sR F Γ (some C) (b.at a (.code stepL2 :: .inLoop stepL2 :: .inBlock 2 :: k)) cs v := by
 have hX : ∀ Γ, Walk Tryd.prog SR gR sR (MS Tryd.prog SR gR sR F Γ (some C)) := fun Γ => MS.walk ctxR
 rw [stepL2_eq]
 refine (hX _).seq ((hX _).region ?_)
 rw [sz9]
 refine (hX _).val (v' := v) (some 22) (.bool false) rfl (by kernel_rfl) rfl rfl (fun τ d => ?_) ?_
 ·exact run_lss (P := Tryd.prog) (o := op9[0]) (w := aT2 v τ d) a.eval 3 3 (.tmp 21) _ rfl Tryd.underlying3 h.s21 (n := 3) rfl
 have h1 := h.put 22 (.bool false) (by decide)
 have s22 := slot_same (a := a) (d := 22) (x := .bool false) (by rw [h.sz]; decide)
 generalize (a.put (some 22) (.bool false)) = a1 at h1 s22
 exact (hX _).done ((hX _).seq ((hX _).cond (t := false) rfl s22 ((hX _).exit rfl (hk _ h1))))
theorem recv_loop {C g8 g10 : Nat} {zs : Nat -> List Cel} {es : Nat -> Int} {v0 : World} {a : Act} {v : World} (h : RcL C g8 g10 zs es v0 [0, 1, 2] 0 a v)
  (hk : ∀ a' v', RcL C g8 g10 zs es v0 [] 3 a' v' -> MS Tryd.prog SR gR sR F [] (some C) (b.at a' k) cs v') :
  MS Tryd.prog SR gR sR F [Qc zs es 0, Qc zs es 1, Qc zs es 2] (some C) (b.at a (.code (.block 2 (.loop stepL2)) :: k)) cs v := by
 have hX : ∀ Γ, Walk Tryd.prog SR gR sR (MS Tryd.prog SR gR sR F Γ (some C)) := fun Γ => MS.walk ctxR
 have less : ∀ (n : Nat) (r1 : List Nat) (i : Nat) (r2 : List Nat) (rem : List Nat), rem.length = n + 1 -> (∀ i ∈ rem, i < 3) -> rem = r1 ++ i :: r2 -> (r1 ++ r2).length = n /\ ∀ i ∈ r1 ++ r2, i < 3 := fun n r1 i r2 rem hl hm e => by
  subst e
  refine ⟨by simp at hl ⊢; omega, fun j hj => hm j ?_⟩
  rcases List.mem_append.1 hj with hj | hj
  ·exact List.mem_append_left _ hj
  ·exact List.mem_append_right _ (List.mem_cons_of_mem _ hj)
 have ne : ∀ (n : Nat) (rem : List Nat), rem.length = n + 1 -> rem ≠ [] := fun n rem hl e => by subst e; cases hl
 refine (hX _).block ((hX _).loop ?_)
 refine recv_round (rem := [0, 1, 2]) h (by omega) (by simp) (by simp) fun r1 i r2 a1 v1 e1 h1 => (hX _).again ?_
 obtain ⟨l1, m1⟩ := less 2 r1 i r2 [0, 1, 2] rfl (by simp) e1
 refine recv_round h1 (by omega) (ne 1 _ l1) m1 fun s1 i2 s2 a2 v2 e2 h2 => (hX _).again ?_
 obtain ⟨l2, m2⟩ := less 1 s1 i2 s2 _ l1 m1 e2
 refine recv_round h2 (by omega) (ne 0 _ l2) m2 fun t1 i3 t2 a3 v3 e3 h3 => (hX _).again ?_
 obtain ⟨l3, m3⟩ := less 0 t1 i3 t2 _ l2 m2 e3
 rw [List.eq_nil_of_length_eq_zero l3] at h3 ⊢
 exact recv_exit h3 fun a' h' => hk a' v3 h'
end
end
section
open Go Go.Conc Go.RowKit
section
variable {P : Program} {o : Oper} {w : World}
theorem run_allocN (ev : Operand -> Value) (t : TypeId) (ho : o.op = .alloc t) {cells : Array Value} (hr : (Instr.alloc t true (.tuple #[])).run P w = .ok (.pointer (some ⟨w.heap.size, 0, none⟩)) (w.alloc (.cells cells t))) :
  (execOp ev o).run P w = .ok (.value (.pointer (some ⟨w.heap.size, 0, none⟩))) (w.alloc (.cells cells t)) := by
 unfold execOp
 simp only [ho, Sem.run_bind, hr, Result.andThen_ok, Sem.run_pure]
end
def nine : Array Value := #[.int .i64 0, .slice none 0 0, .int .i64 0, .int .i64 0, .slice none 0 0, .int .i64 0, .int .i64 0, .slice none 0 0, .int .i64 0]
section
variable {F : Value -> Prop}
theorem step_company {RA A : Option Addr} {rn rc n cap : Nat} {s : Int} {ch : Option Nat} {v : World} {cs : List Frame} {zs : Nat -> List Cel} {es : Nat -> Int} (hn : n <= 3000000000) (hc : n <= cap)
  (hmany : ∀ (i : Nat) w, i <= 2 -> Kp v w -> Calls Tryd.prog 62 #[.slice RA rn rc, .int .i64 s, subS A (i * n / 3) ((i + 1) * n / 3) cap 3, .int .i64 i] w fun e w' => ∃ x, e = .returned x /\ Qc zs es i x w' /\ Gw w w')
  (hk : ∀ C g8 g10 v0 a' v', Kp v v0 -> RcL C g8 g10 zs es v0 [] 3 a' v' -> MS Tryd.prog SR gR sR F [] (some C) (({ (default : Frame) with fn := 40, kind := .normal } : Frame).at a' [.code stepT]) cs v') :
  MS Tryd.prog SR gR sR F [] ch (Frame.enter Tryd.prog 40 #[.slice RA rn rc, .int .i64 s, .slice A n cap] .normal) cs v := by
 have hX : ∀ Γ C, Walk Tryd.prog SR gR sR (MS Tryd.prog SR gR sR F Γ (some C)) := fun Γ C => MS.walk ctxR
 refine step_head fun C g8 g3 g4 g5 a1 v1 todo h1 k1 et => ?_
 subst et
 refine fork_loop h1 (fun i => qc_inv zs es i) (fun i x w w' => qc_gw zs es i x w w') hn hc (fun i w hi hw => hmany i w hi (k1.trans hw)) fun a2 v2 h2 k2 => ?_
 refine (hX _ _).seq ?_
 rw [stepR7_eq]
 refine (hX _ _).region ?_
 rw [sz7]
 let v3 := v2.alloc (.cells nine 95)
 refine (hX _ _).val (v' := v3) (some 10) (.pointer (some ⟨v2.heap.size, 0, none⟩)) rfl (by kernel_rfl) rfl rfl (fun τ d => run_allocN (w := aT2 v2 τ d) _ 95 rfl (by kernel_rfl)) ?_
 have s10 := slot_same (a := a2) (d := 10) (x := .pointer (some ⟨v2.heap.size, 0, none⟩)) (by rw [h2.sz]; decide)
 have s8 := slot_ne (d := 10) (x := .pointer (some ⟨v2.heap.size, 0, none⟩)) h2.s8 (by decide)
 have sz : (a2.put (some 10) (.pointer (some ⟨v2.heap.size, 0, none⟩))).tmps.size = 48 := size_put h2.sz
 have sd : (a2.put (some 10) (.pointer (some ⟨v2.heap.size, 0, none⟩))).defers = [] := h2.df
 generalize (a2.put (some 10) (.pointer (some ⟨v2.heap.size, 0, none⟩))) = a3 at s10 s8 sz sd
 refine (hX _ _).done ((hX _ _).seq ((hX _ _).seq ?_))
 rw [stepR8_eq]
 refine (hX _ _).region ?_
 rw [sz8]
 refine (hX _ _).val (v' := v3) (some 21) (.int .i64 0) rfl (by kernel_rfl) rfl rfl (fun τ d => run_moveX _ _ (.inl rfl) rfl) ?_
 refine (hX _ _).done (recv_loop (g8 := g8) (g10 := v2.heap.size) (v0 := v2) ?_ fun a' v' h => hk C g8 v2.heap.size v2 a' v' (k1.trans k2) h)
 have hb : Blk v3 v2.heap.size 95 nine := alloc_get v2 _
 exact {
     sz := size_put sz, df := sd, s8 := slot_ne s8 (by decide), s10 := slot_ne s10 (by decide), s21 := slot_same (by rw [sz]; decide)
     lt8 := World.block_lt_of_cell? _ _ h2.c8, ge10 := Nat.le_refl _, c8 := h2.c8, k0 := Kp.alloc v2 _
     blk := ⟨nine, hb, rfl, fun i hi hr => absurd (by rcases (by omega : i = 0 ∨ i = 1 ∨ i = 2) with rfl | rfl | rfl <;> simp) hr⟩ }
end
end
section
open Go Go.Conc Go.RowKit
noncomputable def stepL3 : Code := match stepT with | .seq _ (.seq (.seq _ (.block _ (.loop c))) _) => c | _ => .skip
noncomputable def stepR13 : Code := match stepT with | .seq a _ => a | _ => .skip
noncomputable def stepR14 : Code := match stepT with | .seq _ (.seq (.seq a _) _) => a | _ => .skip
noncomputable def stepR18 : Code := match stepL3 with | .seq _ (.seq _ (.seq (.block _ (.seq _ (.seq (.seq _ (.cond _ (.seq a _) _)) _))) _)) => a | _ => .skip
noncomputable def op13 : Array Oper := match stepR13 with | .region _ o _ => o | _ => #[]
noncomputable def op14 : Array Oper := match stepR14 with | .region _ o _ => o | _ => #[]
noncomputable def op15 : Array Oper := match stepL3 with | .seq (.region _ o _) _ => o | _ => #[]
noncomputable def op16 : Array Oper := match stepL3 with | .seq _ (.seq _ (.seq (.block _ (.seq (.region _ o _) _)) _)) => o | _ => #[]
noncomputable def op17 : Array Oper := match stepL3 with | .seq _ (.seq _ (.seq (.block _ (.seq _ (.seq (.seq (.region _ o _) _) _))) _)) => o | _ => #[]
noncomputable def op18 : Array Oper := match stepR18 with | .region _ o _ => o | _ => #[]
noncomputable def op19 : Array Oper := match stepL3 with | .seq _ (.seq _ (.seq (.block _ (.seq _ (.seq _ (.region _ o _)))) _)) => o | _ => #[]
noncomputable def op20 : Array Oper := match stepL3 with | .seq _ (.seq _ (.seq _ (.region _ o _))) => o | _ => #[]
noncomputable def op21 : Array Oper := match stepT with | .seq _ (.seq _ (.seq (.seq (.region _ o _) _) _)) => o | _ => #[]
noncomputable def op22 : Array Oper := match stepT with | .seq _ (.seq _ (.seq (.seq _ (.cond _ (.seq (.region _ o _) _) _)) _)) => o | _ => #[]
noncomputable def op23 : Array Oper := match stepT with | .seq _ (.seq _ (.seq _ (.seq (.region _ o _) _))) => o | _ => #[]
theorem stepT_eq : stepT = .seq (.region 13 op13 false) (.seq (.seq (.region 14 op14 false) (.block 4 (.loop stepL3))) (.seq (.seq (.region 21 op21 false) (.cond (.tmp 46) (.seq (.region 22 op22 false) .ret) .skip)) (.seq (.region 23 op23 false) .ret))) := by kernel_rfl
theorem stepL3_eq : stepL3 = .seq (.region 15 op15 false) (.seq (.cond (.tmp 32) .skip (.exit 4)) (.seq (.block 5 (.seq (.region 16 op16 false) (.seq (.seq (.region 17 op17 false) (.cond (.tmp 36) (.seq (.region 18 op18 true) .ret) .skip)) (.region 19 op19 false)))) (.region 20 op20 false))) := by kernel_rfl
theorem sz13 : List.range op13.size = [0] := by kernel_rfl
theorem sz14 : List.range op14.size = [0, 1] := by kernel_rfl
theorem sz15 : List.range op15.size = [0] := by kernel_rfl
theorem sz16 : List.range op16.size = [0, 1, 2] := by kernel_rfl
theorem sz17 : List.range op17.size = [0, 1, 2] := by kernel_rfl
theorem sz19 : List.range op19.size = [0, 1, 2, 3, 4] := by kernel_rfl
theorem sz20 : List.range op20.size = [0, 1] := by kernel_rfl
theorem sz21 : List.range op21.size = [0, 1, 2] := by kernel_rfl
theorem sz22 : List.range op22.size = [0, 1] := by kernel_rfl
theorem sz23 : List.range op23.size = [0, 1, 2] := by kernel_rfl
def gather (zs : Nat -> List Cel) (k : Nat) : List Cel := (List.range k).flatMap zs
theorem gather_next (zs : Nat -> List Cel) (k : Nat) : gather zs (k + 1) = gather zs k ++ zs k := by
 unfold gather
 rw [List.range_succ, List.flatMap_append]
 simp
structure TlL (w0 : World) (zs : Nat -> List Cel) (es : Nat -> Int) (cells : Array Value) (k : Nat) (a : Act) (v : World) : Prop where
 sz : a.tmps.size = 48
 df : a.defers = []
 s30 : slot a 30 (.agg cells)
 s31 : slot a 31 (.int .i64 k)
 own : ∃ A c, slot a 12 (.slice A (gather zs k).length c) /\ Own pCel 51 w0.heap.size (fun _ => True) v (.slice A (gather zs k).length c) (gather zs k)
 g : Gw w0 v
 no : ∀ i, i < k -> es i = 0
 csz : cells.size = 9
 cs : ∀ i, i < 3 -> ∃ B c, cells[i * 3]? = some (.int .i64 i) /\ cells[i * 3 + 1]? = some (.slice B (zs i).length c) /\ cells[i * 3 + 2]? = some (.int .i64 (es i)) /\ SlAt pCel (Old w0) w0 B c (zs i)
section
variable {F : Value -> Prop} {b : Frame} {k : List Item} {cs : List Frame}
theorem tail_head {C g8 g10 : Nat} {zs : Nat -> List Cel} {es : Nat -> Int} {v0 : World} {a : Act} {v : World} {Γ : List Post} (h : RcL C g8 g10 zs es v0 [] 3 a v)
  (hk : ∀ a' cells, TlL v zs es cells 0 a' v -> MS Tryd.prog SR gR sR F Γ (some C) (b.at a' (.code (.block 4 (.loop stepL3)) :: .code (.seq (.seq (.region 21 op21 false) (.cond (.tmp 46) (.seq (.region 22 op22 false) .ret) .skip)) (.seq (.region 23 op23 false) .ret)) :: k)) cs v) :
  MS Tryd.prog SR gR sR F Γ (some C) (b.at a (.code stepT :: k)) cs v := by
 have hX : ∀ Γ, Walk Tryd.prog SR gR sR (MS Tryd.prog SR gR sR F Γ (some C)) := fun Γ => MS.walk ctxR
 obtain ⟨cells, hb, hsz, hall⟩ := h.blk
 rw [stepT_eq]
 refine (hX _).seq ((hX _).region ?_)
 rw [sz13]
 refine (hX _).val (v' := v) (some 12) (.slice none 0 0) rfl (by kernel_rfl) rfl rfl (fun τ d => run_moveX _ _ (.inr rfl) rfl) ?_
 have s10 := slot_ne (d := 12) (x := .slice none 0 0) h.s10 (by decide)
 have s12 := slot_same (a := a) (d := 12) (x := .slice none 0 0) (by rw [h.sz]; decide)
 have sz : (a.put (some 12) (.slice none 0 0)).tmps.size = 48 := size_put h.sz
 have sd : (a.put (some 12) (.slice none 0 0)).defers = [] := h.df
 generalize (a.put (some 12) (.slice none 0 0)) = a1 at s10 s12 sz sd
 refine (hX _).done ((hX _).seq ((hX _).seq ((hX _).region ?_)))
 rw [sz14]
 refine (hX _).val (v' := v) (some 30) (.agg cells) rfl (by kernel_rfl) rfl rfl (fun τ d => run_loadL (w := aT2 v τ d) a1.eval 95 (.tmp 10) rfl g10 0 s10 cells.toList _ (fun m u hu => by
  show v.cell? ⟨g10, 0 + m, none⟩ = some u
  rw [Nat.zero_add, hb.cell m]
  simpa using hu) Tryd.underlying95 rfl (by rw [Array.length_toList, hsz]; kernel_rfl)) ?_
 refine (hX _).val (v' := v) (some 31) (.int .i64 0) rfl (by kernel_rfl) rfl rfl (fun τ d => run_moveX _ _ (.inl rfl) rfl) ?_
 refine (hX _).done (hk _ cells {
                  sz := size_put (size_put sz), df := sd, s30 := slot_ne (slot_same (by rw [sz]; decide)) (by decide), s31 := slot_same (by rw [size_put sz]; decide)
                  own := ⟨none, 0, slot_ne (slot_ne s12 (by decide)) (by decide), Own.nil⟩, g := ⟨Nat.le_refl _, fun _ _ => rfl⟩, no := fun i hi => absurd hi (Nat.not_lt_zero _), csz := hsz, cs := fun i hi => ?_ })
 obtain ⟨B, c, k1, k2, k3, k4⟩ := hall i hi (by simp)
 exact ⟨B, c, k1, k2, k3, k4.wide fun q hq => hq.2⟩
end
end
section
open Go Go.Conc Go.RowKit
section
variable {P : Program} {o : Oper} {w : World}
theorem run_gtr (ev : Operand -> Value) (t u : TypeId) (x y : Operand) (ho : o.op = .binOp .gtr t x y u) (hu : P.underlying t = some (.int .i64)) {m n : Int} (hx : ev x = .int .i64 m) (hy : ev y = .int .i64 n) : (execOp ev o).run P w = .ok (.value (.bool (decide (n < m)))) w := by
 unfold execOp
 simp only [ho, hx, hy]
 simp [go_sem, run_underlying hu]
end
section
variable {F : Value -> Prop} {b : Frame} {k : List Item} {cs : List Frame}
theorem tail_end {C n c : Nat} {A : Option Addr} {a : Act} {v : World} {Γ : List Post} (sz : a.tmps.size = 48) (df : a.defers = []) (s12 : slot a 12 (.slice A n c))
  (hk : ∀ a' todo, a'.defers = [] -> a'.tmps.size = 48 -> slot a' 6 (if 2000 < n then .slice none 0 0 else .slice A n c) -> slot a' 7 (.int .i64 (if 2000 < n then 4 else 0)) -> MS Tryd.prog SR gR sR F Γ (some C) { b.at a' todo with mode := .returning } cs v) :
  MS Tryd.prog SR gR sR F Γ (some C) (b.at a (.code (.seq (.seq (.region 21 op21 false) (.cond (.tmp 46) (.seq (.region 22 op22 false) .ret) .skip)) (.seq (.region 23 op23 false) .ret)) :: k)) cs v := by
 have hX : ∀ Γ, Walk Tryd.prog SR gR sR (MS Tryd.prog SR gR sR F Γ (some C)) := fun Γ => MS.walk ctxR
 refine (hX _).seq ((hX _).seq ((hX _).region ?_))
 rw [sz21]
 refine (hX _).val (v' := v) (some 44) (.slice A n c) rfl (by kernel_rfl) rfl rfl (fun τ d => run_moveX _ (.tmp 12) (.inl rfl) s12) ?_
 have q12 := slot_ne (d := 44) (x := .slice A n c) s12 (by decide)
 have q44 := slot_same (a := a) (d := 44) (x := .slice A n c) (by rw [sz]; decide)
 have qz : (a.put (some 44) (.slice A n c)).tmps.size = 48 := size_put sz
 have qd : (a.put (some 44) (.slice A n c)).defers = [] := df
 generalize (a.put (some 44) (.slice A n c)) = a1 at q12 q44 qz qd
 refine (hX _).val (v' := v) (some 45) (.int .i64 n) rfl (by kernel_rfl) rfl rfl (fun τ d => run_len (w := aT2 v τ d) a1.eval 26 _ (.tmp 44) rfl Tryd.underlying26 q44) ?_
 have r12 := slot_ne (d := 45) (x := .int .i64 n) q12 (by decide)
 have r45 := slot_same (a := a1) (d := 45) (x := .int .i64 n) (by rw [qz]; decide)
 have rz : (a1.put (some 45) (.int .i64 n)).tmps.size = 48 := size_put qz
 have rd : (a1.put (some 45) (.int .i64 n)).defers = [] := qd
 generalize (a1.put (some 45) (.int .i64 n)) = a2 at r12 r45 rz rd
 refine (hX _).val (v' := v) (some 46) (.bool (decide ((2000 : Int) < n))) rfl (by kernel_rfl) rfl rfl (fun τ d => run_gtr (P := Tryd.prog) (o := op21[2]) (w := aT2 v τ d) a2.eval 3 3 (.tmp 45) _ rfl Tryd.underlying3 r45 (n := 2000) rfl) ?_
 have u12 := slot_ne (d := 46) (x := .bool (decide ((2000 : Int) < n))) r12 (by decide)
 have u46 := slot_same (a := a2) (d := 46) (x := .bool (decide ((2000 : Int) < n))) (by rw [rz]; decide)
 have uz : (a2.put (some 46) (.bool (decide ((2000 : Int) < n)))).tmps.size = 48 := size_put rz
 have ud : (a2.put (some 46) (.bool (decide ((2000 : Int) < n)))).defers = [] := rd
 generalize (a2.put (some 46) (.bool (decide ((2000 : Int) < n)))) = a3 at u12 u46 uz ud
 refine (hX _).done ((hX _).cond (t := decide ((2000 : Int) < n)) rfl u46 ?_)
 by_cases hn : 2000 < n
 ·have e : decide ((2000 : Int) < n) = true := by simp; omega
  rw [e]
  simp only [if_pos hn] at hk
  refine (hX _).seq ((hX _).region ?_)
  rw [sz22]
  refine (hX _).val (v' := v) (some 6) (.slice none 0 0) rfl (by kernel_rfl) rfl rfl (fun τ d => run_moveX _ _ (.inr rfl) rfl) ?_
  refine (hX _).val (v' := v) (some 7) (.int .i64 4) rfl (by kernel_rfl) rfl rfl (fun τ d => run_moveX _ _ (.inr rfl) rfl) ?_
  exact (hX _).done ((hX _).ret (hk _ _ ud (size_put (size_put uz)) (slot_ne (slot_same (by rw [uz]; decide)) (by decide)) (slot_same (by rw [size_put uz]; decide))))
 ·have e : decide ((2000 : Int) < n) = false := by simp; omega
  rw [e]
  simp only [if_neg hn] at hk
  refine (hX _).skip ((hX _).seq ((hX _).region ?_))
  rw [sz23]
  refine (hX _).val (v' := v) (some 47) (.slice A n c) rfl (by kernel_rfl) rfl rfl (fun τ d => run_moveX _ (.tmp 12) (.inl rfl) u12) ?_
  have w47 := slot_same (a := a3) (d := 47) (x := .slice A n c) (by rw [uz]; decide)
  have wz : (a3.put (some 47) (.slice A n c)).tmps.size = 48 := size_put uz
  have wd : (a3.put (some 47) (.slice A n c)).defers = [] := ud
  generalize (a3.put (some 47) (.slice A n c)) = a4 at w47 wz wd
  refine (hX _).val (v' := v) (some 6) (.slice A n c) rfl (by kernel_rfl) rfl rfl (fun τ d => run_moveX _ (.tmp 47) (.inr rfl) w47) ?_
  refine (hX _).val (v' := v) (some 7) (.int .i64 0) rfl (by kernel_rfl) rfl rfl (fun τ d => run_moveX _ _ (.inr rfl) rfl) ?_
  exact (hX _).done ((hX _).ret (hk _ _ wd (size_put (size_put wz)) (slot_ne (slot_same (by rw [wz]; decide)) (by decide)) (slot_same (by rw [size_put wz]; decide))))
end
end
section
open Go Go.Conc Go.RowKit
section
variable {P : Program} {o : Oper} {w : World}
theorem run_readX (ev : Operand -> Value) {t : TypeId} (x y : Operand) (ho : o.op = .index t x y) {u q z : Value} (hx : ev x = u) (hy : ev y = q) (hr : (Instr.index t u q).run P w = .ok z w) : (execOp ev o).run P w = .ok (.value z) w := by
 unfold execOp
 simp only [ho, hx, hy, Sem.run_bind, hr, Result.andThen_ok, Sem.run_pure]
theorem run_neq (ev : Operand -> Value) (t u : TypeId) (x y : Operand) (ho : o.op = .binOp .neq t x y u) (hu : P.underlying t = some (.int .i64)) {m n : Int} (hx : ev x = .int .i64 m) (hy : ev y = .int .i64 n) : (execOp ev o).run P w = .ok (.value (.bool (decide (m ≠ n)))) w := by
 unfold execOp
 simp only [ho, hx, hy]
 simp [go_sem, run_underlying hu]
 rfl
end
theorem read3_0 {x0 x1 x2 x3 x4 x5 x6 x7 x8 : Value} {w : World} : (Instr.index 95 (.agg #[x0, x1, x2, x3, x4, x5, x6, x7, x8]) (.int .i64 ((0 : Nat) : Int))).run Tryd.prog w = .ok (.agg #[x0, x1, x2]) w := by kernel_rfl
theorem read3_1 {x0 x1 x2 x3 x4 x5 x6 x7 x8 : Value} {w : World} : (Instr.index 95 (.agg #[x0, x1, x2, x3, x4, x5, x6, x7, x8]) (.int .i64 ((1 : Nat) : Int))).run Tryd.prog w = .ok (.agg #[x3, x4, x5]) w := by kernel_rfl
theorem read3_2 {x0 x1 x2 x3 x4 x5 x6 x7 x8 : Value} {w : World} : (Instr.index 95 (.agg #[x0, x1, x2, x3, x4, x5, x6, x7, x8]) (.int .i64 ((2 : Nat) : Int))).run Tryd.prog w = .ok (.agg #[x6, x7, x8]) w := by kernel_rfl
theorem read3 {cells : Array Value} {j : Nat} {x y z : Value} {w : World} (hj : j < 3) (hcz : cells.size = 9) (k1 : cells[j * 3]? = some x) (k2 : cells[j * 3 + 1]? = some y) (k3 : cells[j * 3 + 2]? = some z) :
  (Instr.index 95 (.agg cells) (.int .i64 j)).run Tryd.prog w = .ok (.agg #[x, y, z]) w := by
 obtain ⟨l⟩ := cells
 match l, hcz with
 | [x0, x1, x2, x3, x4, x5, x6, x7, x8], _ =>
  rcases (by omega : j = 0 ∨ j = 1 ∨ j = 2) with rfl | rfl | rfl
  ·have e1 : x0 = x := Option.some.inj k1
   have e2 : x1 = y := Option.some.inj k2
   have e3 : x2 = z := Option.some.inj k3
   subst e1 e2 e3
   exact read3_0
  ·have e1 : x3 = x := Option.some.inj k1
   have e2 : x4 = y := Option.some.inj k2
   have e3 : x5 = z := Option.some.inj k3
   subst e1 e2 e3
   exact read3_1
  ·have e1 : x6 = x := Option.some.inj k1
   have e2 : x7 = y := Option.some.inj k2
   have e3 : x8 = z := Option.some.inj k3
   subst e1 e2 e3
   exact read3_2
section
variable {F : Value -> Prop} {b : Frame} {k : List Item} {cs : List Frame}
theorem TlL.put {w0 : World} {zs : Nat -> List Cel} {es : Nat -> Int} {cells : Array Value} {j : Nat} {a : Act} {v : World} (h : TlL w0 zs es cells j a v) (d : Nat) (x : Value) (hd : d ≠ 12 /\ d ≠ 30 /\ d ≠ 31) : TlL w0 zs es cells j (a.put (some d) x) v :=
 { h with sz := size_put h.sz, df := h.df, s30 := slot_ne h.s30 hd.2.1, s31 := slot_ne h.s31 hd.2.2, own := let ⟨A, c, h1, h2⟩ := h.own; ⟨A, c, slot_ne h1 hd.1, h2⟩ }
theorem tail_exit {C : Nat} {w0 : World} {zs : Nat -> List Cel} {es : Nat -> Int} {cells : Array Value} {a : Act} {v : World} {Γ : List Post} (h : TlL w0 zs es cells 3 a v)
  (hk : ∀ a', TlL w0 zs es cells 3 a' v -> MS Tryd.prog SR gR sR F Γ (some C) (b.at a' k) cs v) :
  MS Tryd.prog SR gR sR F Γ (some C) (b.at a (.code stepL3 :: .inLoop stepL3 :: .inBlock 4 :: k)) cs v := by
 have hX : ∀ Γ, Walk Tryd.prog SR gR sR (MS Tryd.prog SR gR sR F Γ (some C)) := fun Γ => MS.walk ctxR
 rw [stepL3_eq]
 refine (hX _).seq ((hX _).region ?_)
 rw [sz15]
 refine (hX _).val (v' := v) (some 32) (.bool false) rfl (by kernel_rfl) rfl rfl (fun τ d => ?_) ?_
 ·exact run_lss (P := Tryd.prog) (o := op15[0]) (w := aT2 v τ d) a.eval 3 3 (.tmp 31) _ rfl Tryd.underlying3 h.s31 (n := 3) rfl
 have h1 := h.put 32 (.bool false) (by decide)
 have s32 := slot_same (a := a) (d := 32) (x := .bool false) (by rw [h.sz]; decide)
 generalize (a.put (some 32) (.bool false)) = a1 at h1 s32
 exact (hX _).done ((hX _).seq ((hX _).cond (t := false) rfl s32 ((hX _).exit rfl (hk _ h1))))
theorem tail_look {C : Nat} {w0 : World} {zs : Nat -> List Cel} {es : Nat -> Int} {cells : Array Value} {j : Nat} {a : Act} {v : World} {Γ : List Post} (h : TlL w0 zs es cells j a v) (hj : j < 3)
  (hk : ∀ a' v' g B c, TlL w0 zs es cells j a' v' -> slot a' 14 (.pointer (some ⟨g, 0, none⟩)) -> w0.heap.size <= g -> Blk v' g 93 #[.int .i64 j, .slice B (zs j).length c, .int .i64 (es j)] -> SlAt pCel (Old w0) w0 B c (zs j) -> slot a' 36 (.bool (decide (es j ≠ 0))) ->
   MS Tryd.prog SR gR sR F Γ (some C) (b.at a' (.code (.cond (.tmp 36) (.seq (.region 18 op18 true) .ret) .skip) :: .code (.region 19 op19 false) :: .inBlock 5 :: .code (.region 20 op20 false) :: k)) cs v') :
  MS Tryd.prog SR gR sR F Γ (some C) (b.at a (.code stepL3 :: k)) cs v := by
 have hX : ∀ Γ, Walk Tryd.prog SR gR sR (MS Tryd.prog SR gR sR F Γ (some C)) := fun Γ => MS.walk ctxR
 rw [stepL3_eq]
 refine (hX _).seq ((hX _).region ?_)
 rw [sz15]
 refine (hX _).val (v' := v) (some 32) (.bool true) rfl (by kernel_rfl) rfl rfl (fun τ d => ?_) ?_
 ·have e : (decide (((j : Nat) : Int) < 3)) = true := by simp; omega
  have := run_lss (P := Tryd.prog) (o := op15[0]) (w := aT2 v τ d) a.eval 3 3 (.tmp 31) _ rfl Tryd.underlying3 h.s31 (n := 3) rfl
  exact this.trans (by rw [e])
 have h1 := h.put 32 (.bool true) (by decide)
 have s32 := slot_same (a := a) (d := 32) (x := .bool true) (by rw [h.sz]; decide)
 generalize (a.put (some 32) (.bool true)) = a1 at h1 s32
 refine (hX _).done ((hX _).seq ((hX _).cond (t := true) rfl s32 ((hX _).skip ((hX _).seq ((hX _).block ((hX _).seq ((hX _).region ?_)))))))
 rw [sz16]
 obtain ⟨B, c, k1, k2, k3, k4⟩ := h1.cs j hj
 have hcz := h1.csz
 let Y : Array Value := #[.int .i64 j, .slice B (zs j).length c, .int .i64 (es j)]
 let v2 := v.alloc (.cells #[.int .i64 0, .slice none 0 0, .int .i64 0] 93)
 let v3 := v2.setRow v.heap.size Y
 refine (hX _).val (v' := v) (some 33) (.agg Y) rfl (by kernel_rfl) rfl rfl (fun τ d => run_readX a1.eval (.tmp 30) (.tmp 31) rfl h1.s30 h1.s31 ?_) ?_
 ·exact read3 hj hcz k1 k2 k3
 have h2 := h1.put 33 (.agg Y) (by decide)
 have s33 := slot_same (a := a1) (d := 33) (x := .agg Y) (by rw [h1.sz]; decide)
 generalize (a1.put (some 33) (.agg Y)) = a2 at h2 s33
 refine (hX _).val (v' := v2) (some 14) (.pointer (some ⟨v.heap.size, 0, none⟩)) rfl (by kernel_rfl) rfl rfl (fun τ d => run_allocN (w := aT2 v τ d) _ 93 rfl (by kernel_rfl)) ?_
 have h3 := h2.put 14 (.pointer (some ⟨v.heap.size, 0, none⟩)) (by decide)
 have s33b := slot_ne (d := 14) (x := .pointer (some ⟨v.heap.size, 0, none⟩)) s33 (by decide)
 have s14 := slot_same (a := a2) (d := 14) (x := .pointer (some ⟨v.heap.size, 0, none⟩)) (by rw [h2.sz]; decide)
 generalize (a2.put (some 14) (.pointer (some ⟨v.heap.size, 0, none⟩))) = a3 at h3 s33b s14
 refine (hX _).nil (v' := v3) rfl (by kernel_rfl) rfl rfl (fun τ d => run_storeRow (w := aT2 v2 τ d) a3.eval (t := 93) 93 (.tmp 14) (.tmp 33) 0 #[.int .i64 0, .slice none 0 0, .int .i64 0] Y Y rfl s14 s33b (alloc_get v _) (by kernel_rfl) (by simp [Y]) (by simp [Y, Value.oneCell']) (by simp [Y])) ?_
 have hb : Blk v3 v.heap.size 93 Y := blk_row (alloc_get v _)
 have g3 : Gw v v3 := (Gw.alloc v _).row (Nat.le_refl _) Y
 have h4 : TlL w0 zs es cells j a3 v3 := { h3 with g := h3.g.trans g3, own := let ⟨A, c, h1, h2⟩ := h3.own; ⟨A, c, h1, h2.keep (fun k hk => g3.2 k hk) g3.1⟩ }
 refine (hX _).done ((hX _).seq ((hX _).seq ((hX _).region ?_)))
 rw [sz17]
 refine (hX _).val (v' := v3) (some 34) (.pointer (some ⟨v.heap.size, 2, none⟩)) rfl (by kernel_rfl) rfl rfl (fun τ d => ?_) ?_
 ·have hf : (Instr.fieldAt 93 (.pointer (some ⟨v.heap.size, 0, none⟩)) 2).run Tryd.prog (aT2 v3 τ d) = .ok (.pointer (some ⟨v.heap.size, 2, none⟩)) (aT2 v3 τ d) := by kernel_rfl
  exact run_fieldX a3.eval (.tmp 14) 2 rfl s14 hf
 have h5 := h4.put 34 (.pointer (some ⟨v.heap.size, 2, none⟩)) (by decide)
 have s14b := slot_ne (d := 34) (x := .pointer (some ⟨v.heap.size, 2, none⟩)) s14 (by decide)
 have s34 := slot_same (a := a3) (d := 34) (x := .pointer (some ⟨v.heap.size, 2, none⟩)) (by rw [h4.sz]; decide)
 generalize (a3.put (some 34) (.pointer (some ⟨v.heap.size, 2, none⟩))) = a4 at h5 s14b s34
 refine (hX _).val (v' := v3) (some 35) (.int .i64 (es j)) rfl (by kernel_rfl) rfl rfl (fun τ d => run_one (w := aT2 v3 τ d) a4.eval 27 (.tmp 34) rfl _ Tryd.underlying27 rfl v.heap.size 2 s34 ((hb.cell 2).trans rfl)) ?_
 have h6 := h5.put 35 (.int .i64 (es j)) (by decide)
 have s14c := slot_ne (d := 35) (x := .int .i64 (es j)) s14b (by decide)
 have s35 := slot_same (a := a4) (d := 35) (x := .int .i64 (es j)) (by rw [h5.sz]; decide)
 generalize (a4.put (some 35) (.int .i64 (es j))) = a5 at h6 s14c s35
 refine (hX _).val (v' := v3) (some 36) (.bool (decide (es j ≠ 0))) rfl (by kernel_rfl) rfl rfl (fun τ d => run_neq (P := Tryd.prog) (o := op17[2]) (w := aT2 v3 τ d) a5.eval 27 27 (.tmp 35) _ rfl Tryd.underlying27 s35 (n := 0) rfl) ?_
 refine (hX _).done (hk _ v3 v.heap.size B c (h6.put 36 _ (by decide)) (slot_ne s14c (by decide)) h.g.1 hb k4 (slot_same (by rw [h6.sz]; decide)))
end
end
section
open Go Go.Conc Go.RowKit
theorem wpOps_next {P : Program} {ops : Array Oper} {Q : Exit -> Act -> World -> Prop} {i : Nat} {rest : List Nat} {a : Act} {w : World} {o : Oper} (ho : ops[i]? = some o) (hg : o.guard = none) (h : o.wp P a w (Go.wpOps P ops Q rest) Q) : Go.wpOps P ops Q (i :: rest) a w := by
 unfold Go.wpOps
 rw [ho]
 show (if _ then _ else _)
 rw [if_pos (by simp [Region.wanted, hg])]
 exact .inl h
section
variable {F : Value -> Prop} {b : Frame} {k : List Item} {cs : List Frame}
theorem tail_join (hbk : b.kind = .normal) (hbf : ∃ fn, Tryd.prog.funcs[b.fn]? = some fn) {C g : Nat} {B : Option Addr} {c : Nat} {w0 : World} {zs : Nat -> List Cel} {es : Nat -> Int} {cells : Array Value} {j : Nat} {a : Act} {v : World} {Γ : List Post} (h : TlL w0 zs es cells j a v) (hj : j < 3) (h0 : es j = 0) (hlen : ∀ i, i <= 3 -> (gather zs i).length <= 1000000)
  (s14 : slot a 14 (.pointer (some ⟨g, 0, none⟩))) (hg : w0.heap.size <= g) (hb : Blk v g 93 #[.int .i64 j, .slice B (zs j).length c, .int .i64 (es j)]) (hs : SlAt pCel (Old w0) w0 B c (zs j))
  (hk : ∀ a' v', TlL w0 zs es cells (j + 1) a' v' -> MS Tryd.prog SR gR sR F Γ (some C) (b.at a' k) cs v') :
  MS Tryd.prog SR gR sR F Γ (some C) (b.at a (.code (.region 19 op19 false) :: .inBlock 5 :: .code (.region 20 op20 false) :: k)) cs v := by
 have hX : ∀ Γ, Walk Tryd.prog SR gR sR (MS Tryd.prog SR gR sR F Γ (some C)) := fun Γ => MS.walk ctxR
 obtain ⟨Ao, co, q12, hown⟩ := h.own
 refine (hX _).region ?_
 rw [sz19]
 refine (hX _).val (v' := v) (some 39) (.slice Ao (gather zs j).length co) rfl (by kernel_rfl) rfl rfl (fun τ d => run_moveX _ (.tmp 12) (.inl rfl) q12) ?_
 have h1 := h.put 39 (.slice Ao (gather zs j).length co) (by decide)
 have s39 := slot_same (a := a) (d := 39) (x := .slice Ao (gather zs j).length co) (by rw [h.sz]; decide)
 have s14a := slot_ne (d := 39) (x := .slice Ao (gather zs j).length co) s14 (by decide)
 generalize (a.put (some 39) (.slice Ao (gather zs j).length co)) = a1 at h1 s39 s14a
 refine (hX _).val (v' := v) (some 40) (.pointer (some ⟨g, 1, none⟩)) rfl (by kernel_rfl) rfl rfl (fun τ d => ?_) ?_
 ·have hf : (Instr.fieldAt 93 (.pointer (some ⟨g, 0, none⟩)) 1).run Tryd.prog (aT2 v τ d) = .ok (.pointer (some ⟨g, 1, none⟩)) (aT2 v τ d) := by kernel_rfl
  exact run_fieldX a1.eval (.tmp 14) 1 rfl s14a hf
 have h2 := h1.put 40 (.pointer (some ⟨g, 1, none⟩)) (by decide)
 have s39b := slot_ne (d := 40) (x := .pointer (some ⟨g, 1, none⟩)) s39 (by decide)
 have s40 := slot_same (a := a1) (d := 40) (x := .pointer (some ⟨g, 1, none⟩)) (by rw [h1.sz]; decide)
 generalize (a1.put (some 40) (.pointer (some ⟨g, 1, none⟩))) = a2 at h2 s39b s40
 refine (hX _).val (v' := v) (some 41) (.slice B (zs j).length c) rfl (by kernel_rfl) rfl rfl (fun τ d => run_one (w := aT2 v τ d) a2.eval 26 (.tmp 40) rfl _ Tryd.underlying26 rfl g 1 s40 ((hb.cell 1).trans rfl)) ?_
 have h3 := h2.put 41 (.slice B (zs j).length c) (by decide)
 have s39c := slot_ne (d := 41) (x := .slice B (zs j).length c) s39b (by decide)
 have s41 := slot_same (a := a2) (d := 41) (x := .slice B (zs j).length c) (by rw [h2.sz]; decide)
 generalize (a2.put (some 41) (.slice B (zs j).length c)) = a3 at h3 s39c s41
 have hl := hlen (j + 1) (by omega)
 refine (hX _).wpOps ctxR hbk hbf (by kernel_rfl) fun τ d => ?_
 have hO : Own pCel 51 w0.heap.size (fun _ => True) (aT2 v τ d) (.slice Ao (gather zs j).length co) (gather zs j) := hown.keep (fun _ _ => rfl) (Nat.le_refl _)
 refine wpOps_next rfl rfl ?_
 refine wp_catG (E := pCel) (xs := gather zs j) (base := w0.heap.size) (G := fun _ => True) 26 51 (.agg #[.string ByteArray.empty, .int .u8 0, .slice none 0 0]) 48 (.tmp 39) (.tmp 41) rfl Tryd.underlying26 info_cel rfl (by decide) s39c hO B c (zs j) s41 (Old w0) (hs.keep fun q hq => h.g.2 q hq) (fun q hq => ⟨trivial, Nat.lt_of_lt_of_le hq h.g.1, fun he => ?_⟩) (gather zs (j + 1)).length (by rw [gather_next]) (room_of (by omega)) (by decide) h.g.1 ?_
 ·have h8 := (hown.lt q he.symm).1
  have h9 : q < w0.heap.size := hq
  omega
 intro A' c' w' ho hgr
 have h4 := h3.put 42 (.slice A' (gather zs (j + 1)).length c') (by decide)
 have s42 := slot_same (a := a3) (d := 42) (x := .slice A' (gather zs (j + 1)).length c') (by rw [h3.sz]; decide)
 show wpOps _ _ _ _ (a3.put (some 42) (.slice A' (gather zs (j + 1)).length c')) w'
 generalize (a3.put (some 42) (.slice A' (gather zs (j + 1)).length c')) = a4 at h4 s42
 refine wpOps_next rfl rfl ?_
 unfold Oper.wp
 rw [run_moveX (o := op19[4]) a4.eval (.tmp 42) (.inr rfl) s42, Oper.upon_value]
 show MS Tryd.prog SR gR sR F Γ (some C) (b.at (a4.put (some 12) (.slice A' (gather zs (j + 1)).length c')) (.inBlock 5 :: .code (.region 20 op20 false) :: k)) cs w'
 have p12 := slot_same (a := a4) (d := 12) (x := .slice A' (gather zs (j + 1)).length c') (by rw [h4.sz]; decide)
 have p30 := slot_ne (d := 12) (x := .slice A' (gather zs (j + 1)).length c') h4.s30 (by decide)
 have p31 := slot_ne (d := 12) (x := .slice A' (gather zs (j + 1)).length c') h4.s31 (by decide)
 have pz : (a4.put (some 12) (.slice A' (gather zs (j + 1)).length c')).tmps.size = 48 := size_put h4.sz
 have pd : (a4.put (some 12) (.slice A' (gather zs (j + 1)).length c')).defers = [] := h4.df
 generalize (a4.put (some 12) (.slice A' (gather zs (j + 1)).length c')) = a5 at p12 p30 p31 pz pd
 refine (hX _).inBlock ((hX _).region ?_)
 rw [sz20]
 refine (hX _).val (v' := w') (some 43) (.int .i64 ((j : Int) + 1)) rfl (by kernel_rfl) rfl rfl (fun τ d => run_add (P := Tryd.prog) (o := op20[0]) (w := aT2 w' τ d) a5.eval 3 3 (.tmp 31) _ rfl Tryd.underlying3 p31 (n := 1) rfl (by omega)) ?_
 have r12 := slot_ne (d := 43) (x := .int .i64 ((j : Int) + 1)) p12 (by decide)
 have r30 := slot_ne (d := 43) (x := .int .i64 ((j : Int) + 1)) p30 (by decide)
 have r43 := slot_same (a := a5) (d := 43) (x := .int .i64 ((j : Int) + 1)) (by rw [pz]; decide)
 have rz : (a5.put (some 43) (.int .i64 ((j : Int) + 1))).tmps.size = 48 := size_put pz
 have rd : (a5.put (some 43) (.int .i64 ((j : Int) + 1))).defers = [] := pd
 generalize (a5.put (some 43) (.int .i64 ((j : Int) + 1))) = a6 at r12 r30 r43 rz rd
 refine (hX _).val (v' := w') (some 31) (.int .i64 ((j + 1 : Nat) : Int)) rfl (by kernel_rfl) rfl rfl (fun τ d => run_moveX _ (.tmp 43) (.inl rfl) r43) ?_
 refine (hX _).done (hk _ w' {
                sz := size_put rz, df := rd, s30 := slot_ne r30 (by decide), s31 := slot_same (by rw [rz]; decide), own := ⟨A', c', slot_ne r12 (by decide), by rw [gather_next]; rw [gather_next] at ho; exact ho.out⟩
                g := ⟨Nat.le_trans h.g.1 hgr.out.bel.size, fun q hq => (hgr.out.bel.block q hq).trans (h.g.2 q hq)⟩, no := fun i hi => ?_, csz := h.csz, cs := h.cs })
 rcases (by omega : i < j ∨ i = j) with hi | rfl
 ·exact h.no i hi
 ·exact h0
end
end
section
open Go Go.Conc Go.RowKit
noncomputable def eOps : List Oper := op18.toList
theorem op18_eq : op18 = eOps.toArray := by kernel_rfl
theorem eLen : eOps.length = 4 := by kernel_rfl
def EΦ (g : Nat) (e : Int) : Nat -> Value -> World -> Prop
 | 0, x, _ => x = .pointer (some ⟨g, 2, none⟩)
 | 1, x, _ => x = .int .i64 e
 | 2, x, _ => x = .slice none 0 0
 | _, _, _ => True
section
variable {F : Value -> Prop} {b : Frame} {k : List Item} {cs : List Frame}
theorem tail_err {C g : Nat} {x y : Value} {e : Int} {a : Act} {v : World} {Γ : List Post} (sz : a.tmps.size = 48) (df : a.defers = []) (s14 : slot a 14 (.pointer (some ⟨g, 0, none⟩))) (hb : Blk v g 93 #[x, y, .int .i64 e])
  (hk : ∀ a' v' todo, a'.defers = [] -> a'.tmps.size = 48 -> slot a' 6 (.slice none 0 0) -> slot a' 7 (.int .i64 e) -> Gw v v' -> MS Tryd.prog SR gR sR F Γ (some C) { b.at a' todo with mode := .returning } cs v') :
  MS Tryd.prog SR gR sR F Γ (some C) (b.at a (.code (.seq (.region 18 op18 true) .ret) :: k)) cs v := by
 have hX : Walk Tryd.prog SR gR sR (MS Tryd.prog SR gR sR F Γ (some C)) := MS.walk ctxR
 obtain ⟨tm, df'⟩ := a
 obtain rfl : df' = [] := df
 have sz : tm.size = 48 := sz
 refine hX.seq ?_
 rw [op18_eq]
 refine Walk.orders (Φ := EΦ g e) hX mixes (by rw [sz]; kernel_rfl) (by rw [eLen]; omega) (fun j x w w' h hg => ?_) ?_ ?_
 ·match j, h with
  | 0, h | 1, h | 2, h => exact h
  | j + 3, h => exact trivial
 ·intro j o ho hj a w rest hA hk
  have hbw : Blk w g 93 #[x, y, .int .i64 e] := (hA.gw.2 g hb.lt).trans hb
  match j, ho with
  | 0, ho =>
   obtain rfl := Option.some.inj ho
   refine arm hX ho (by kernel_rfl) rfl (fun w hw => ?_) hA.gw rfl hk
   have hf : (Instr.fieldAt 93 (.pointer (some ⟨g, 0, none⟩)) 2).run Tryd.prog w = .ok (.pointer (some ⟨g, 2, none⟩)) w := by kernel_rfl
   exact run_fieldX a.eval (.tmp 14) 2 rfl (hA.old (d := 14) (by kernel_rfl) s14) hf
  | 1, ho =>
   obtain rfl := Option.some.inj ho
   exact arm hX ho (by kernel_rfl) rfl (fun w hw => run_one _ 27 (.tmp 37) rfl _ Tryd.underlying27 rfl g 2 ((hA.val (j := 0) (d := 37) rfl).trans (hA.get 0 (by kernel_rfl))) ((Blk.cell ((hw.2 g hb.lt).trans hb) 2).trans rfl)) hA.gw rfl hk
  | 2, ho =>
   obtain rfl := Option.some.inj ho
   exact arm hX ho (by kernel_rfl) rfl (fun w hw => run_moveX _ _ (.inr rfl) rfl) hA.gw rfl hk
  | j + 3, ho => rw [eLen] at hj; omega
 ·intro i hi a w hA
  rw [eLen] at hi
  obtain rfl : i = 3 := by omega
  have q6 : slot a 6 (.slice none 0 0) := (hA.val (j := 2) (d := 6) rfl).trans (hA.get 2 (by kernel_rfl))
  have q38 : a.eval (.tmp 38) = .int .i64 e := (hA.val (j := 1) (d := 38) rfl).trans (hA.get 1 (by kernel_rfl))
  have qz : a.tmps.size = 48 := hA.sz.trans sz
  refine hX.val (v' := w) (some 7) (.int .i64 e) (show eOps.toArray[3]? = some _ from rfl) (by kernel_rfl) rfl rfl (fun τ d => run_moveX _ (.tmp 38) (.inr rfl) q38) ?_
  exact hX.done (hX.ret (hk _ _ _ hA.df (size_put qz) (slot_ne q6 (by decide)) (slot_same (by rw [qz]; decide)) hA.gw))
end
end
section
open Go Go.Conc Go.RowKit
def stepOut (zs : Nat -> List Cel) (es : Nat -> Int) : List Cel × Int := if es 0 ≠ 0 then ([], es 0) else if es 1 ≠ 0 then ([], es 1) else if es 2 ≠ 0 then ([], es 2) else if 2000 < (gather zs 3).length then ([], 4) else (gather zs 3, 0)
theorem stepOut_err {zs : Nat -> List Cel} {es : Nat -> Int} {j : Nat} (hj : j < 3) (h : ∀ i, i < j -> es i = 0) (h0 : es j ≠ 0) : stepOut zs es = ([], es j) := by
 unfold stepOut
 rcases (by omega : j = 0 ∨ j = 1 ∨ j = 2) with rfl | rfl | rfl
 ·rw [if_pos h0]
 ·rw [if_neg (by simp [h 0 (by omega)]), if_pos h0]
 ·rw [if_neg (by simp [h 0 (by omega)]), if_neg (by simp [h 1 (by omega)]), if_pos h0]
theorem stepOut_ok {zs : Nat -> List Cel} {es : Nat -> Int} (h : ∀ i, i < 3 -> es i = 0) : stepOut zs es = if 2000 < (gather zs 3).length then ([], 4) else (gather zs 3, 0) := by
 unfold stepOut
 rw [if_neg (by simp [h 0 (by omega)]), if_neg (by simp [h 1 (by omega)]), if_neg (by simp [h 2 (by omega)])]
theorem slat_nil {w : World} {F : Nat -> Prop} : SlAt pCel F w none 0 [] := ⟨Nat.le_refl _, Nat.zero_le _, (fun _ => rfl), fun i x hx => by simp at hx⟩
section
variable {F : Value -> Prop} {b : Frame} {k : List Item} {cs : List Frame}
def StepK (F : Value -> Prop) (b : Frame) (cs : List Frame) (C : Nat) (Γ : List Post) (w0 : World) (r : List Cel × Int) : Prop := ∀ a' v' todo A c, a'.defers = [] -> a'.tmps.size = 48 -> slot a' 6 (.slice A r.1.length c) -> slot a' 7 (.int .i64 r.2) -> SlAt pCel (Old v') v' A c r.1 -> Gw w0 v' -> MS Tryd.prog SR gR sR F Γ (some C) { b.at a' todo with mode := .returning } cs v'
theorem tail_round (hbk : b.kind = .normal) (hbf : ∃ fn, Tryd.prog.funcs[b.fn]? = some fn) {C : Nat} {w0 : World} {zs : Nat -> List Cel} {es : Nat -> Int} {cells : Array Value} {j : Nat} {a : Act} {v : World} {Γ : List Post} (h : TlL w0 zs es cells j a v) (hj : j < 3) (hlen : ∀ i, i <= 3 -> (gather zs i).length <= 1000000)
  (he : StepK F b cs C Γ w0 (stepOut zs es)) (hk : ∀ a' v', TlL w0 zs es cells (j + 1) a' v' -> MS Tryd.prog SR gR sR F Γ (some C) (b.at a' k) cs v') :
  MS Tryd.prog SR gR sR F Γ (some C) (b.at a (.code stepL3 :: k)) cs v := by
 have hX : Walk Tryd.prog SR gR sR (MS Tryd.prog SR gR sR F Γ (some C)) := MS.walk ctxR
 refine tail_look h hj fun a1 v1 g B c h1 s14 hg hb hs s36 => ?_
 by_cases h0 : es j = 0
 ·refine hX.cond (t := false) rfl (s36.trans (by rw [decide_eq_false (not_not_intro h0)])) (hX.skip ?_)
  exact tail_join hbk hbf h1 hj h0 hlen s14 hg hb hs hk
 ·refine hX.cond (t := true) rfl (s36.trans (by rw [decide_eq_true h0])) ?_
  refine tail_err h1.sz h1.df s14 hb fun a2 v2 todo d2 z2 q6 q7 g2 => he a2 v2 todo none 0 d2 z2 ?_ ?_ ?_ (h1.g.trans g2)
  ·rw [stepOut_err hj h1.no h0]; exact q6
  ·rw [stepOut_err hj h1.no h0]; exact q7
  ·rw [stepOut_err hj h1.no h0]; exact slat_nil
theorem step_tail (hbk : b.kind = .normal) (hbf : ∃ fn, Tryd.prog.funcs[b.fn]? = some fn) {C g8 g10 : Nat} {zs : Nat -> List Cel} {es : Nat -> Int} {v0 : World} {a : Act} {v : World} {Γ : List Post} (h : RcL C g8 g10 zs es v0 [] 3 a v) (hlen : ∀ i, i <= 3 -> (gather zs i).length <= 1000000)
  (he : StepK F b cs C Γ v (stepOut zs es)) : MS Tryd.prog SR gR sR F Γ (some C) (b.at a (.code stepT :: k)) cs v := by
 have hX : Walk Tryd.prog SR gR sR (MS Tryd.prog SR gR sR F Γ (some C)) := MS.walk ctxR
 refine tail_head h fun a0 cells h0 => hX.block (hX.loop ?_)
 refine tail_round hbk hbf h0 (by omega) hlen he fun a1 v1 h1 => hX.again ?_
 refine tail_round hbk hbf h1 (by omega) hlen he fun a2 v2 h2 => hX.again ?_
 refine tail_round hbk hbf h2 (by omega) hlen he fun a3 v3 h3 => hX.again ?_
 refine tail_exit h3 fun a4 h4 => ?_
 obtain ⟨A, c, s12, ho⟩ := h4.own
 refine tail_end h4.sz h4.df s12 fun a5 todo d5 z5 q6 q7 => ?_
 have e := stepOut_ok (zs := zs) h4.no
 by_cases hn : 2000 < (gather zs 3).length
 ·rw [if_pos hn] at e q6 q7
  rw [e] at he
  exact he a5 v3 todo none 0 d5 z5 q6 q7 slat_nil h4.g
 ·rw [if_neg hn] at e q6 q7
  rw [e] at he
  exact he a5 v3 todo A c d5 z5 q6 q7 (ho.sl'.2.wide fun q hq => hq.2) h4.g
theorem step_ms {RA A : Option Addr} {rn rc n cap : Nat} {s : Int} {ch : Option Nat} {v : World} {zs : Nat -> List Cel} {es : Nat -> Int} (hn : n <= 3000000000) (hc : n <= cap) (hlen : ∀ i, i <= 3 -> (gather zs i).length <= 1000000)
  (hmany : ∀ (i : Nat) w, i <= 2 -> Kp v w -> Calls Tryd.prog 62 #[.slice RA rn rc, .int .i64 s, subS A (i * n / 3) ((i + 1) * n / 3) cap 3, .int .i64 i] w fun e w' => ∃ x, e = .returned x /\ Qc zs es i x w' /\ Gw w w')
  (hk : ∀ C v', Kp v v' -> StepK F { (default : Frame) with fn := 40, kind := .normal } cs C [] v' (stepOut zs es)) :
  MS Tryd.prog SR gR sR F [] ch (Frame.enter Tryd.prog 40 #[.slice RA rn rc, .int .i64 s, .slice A n cap] .normal) cs v :=
 step_company hn hc hmany fun C g8 g10 v0 a' v' k0 h => step_tail (b := { (default : Frame) with fn := 40, kind := .normal }) rfl ⟨Tryd.f40, Tryd.func40⟩ h hlen (hk C v' (k0.trans h.k0))
end
end
end Go.Proofs.YtlipmagkplbkdaaDoor
