import Derived.Test.YtlipmagkplbkdaaDoorZ15
namespace Go.Proofs.YtlipmagkplbkdaaDoor
open Go Go.Conc Go.RowKit
set_option linter.unusedVariables false
set_option linter.unusedSimpArgs false
noncomputable def paB : Code := match Tryd.f9.body with | some c => c | none => .skip
theorem paBody : Tryd.f9.body = some paB := by kernel_rfl
noncomputable def paR0 : Code := match paB with | .seq a _ => a | _ => .skip
noncomputable def paR1 : Code := match paB with | .seq _ (.seq (.seq a _) _) => a | _ => .skip
noncomputable def paO2 : Array Oper := match paB with | .seq _ (.seq (.seq _ (.cond _ (.seq (.region _ o _) _) _)) _) => o | _ => #[]
noncomputable def paO3 : Array Oper := match paB with | .seq _ (.seq _ (.seq (.region _ o _) _)) => o | _ => #[]
noncomputable def paO4 : Array Oper := match paB with | .seq _ (.seq _ (.seq _ (.seq (.region _ o _) _))) => o | _ => #[]
theorem paB_eq : paB = .seq paR0 (.seq (.seq paR1 (.cond (.tmp 22) (.seq (.region 2 paO2 false) .ret) .skip)) (.seq (.region 3 paO3 false) (.seq (.region 4 paO4 false) .ret))) := by kernel_rfl
theorem paz2 : List.range paO2.size = [0, 1] := by kernel_rfl
theorem paz3 : List.range paO3.size = [0, 1, 2, 3, 4, 5, 6, 7, 8] := by kernel_rfl
theorem paz4 : List.range paO4.size = [0, 1, 2, 3, 4, 5, 6, 7, 8, 9, 10, 11, 12, 13, 14] := by kernel_rfl
theorem paTm (RA LA : Option Addr) (rc lc m1 m2 : Nat) (s : Int) : (#[.slice RA m1 rc, .int .i64 s, .slice LA m2 lc] ++ Array.replicate (Tryd.f9.ntmps - (#[.slice RA m1 rc, .int .i64 s, .slice LA m2 lc] : Array Value).size) undef : Array Value) = #[.slice RA m1 rc, .int .i64 s, .slice LA m2 lc, undef, undef, undef, undef, undef, undef, undef, undef, undef, undef, undef, undef, undef, undef, undef, undef, undef, undef, undef, undef, undef, undef, undef, undef, undef, undef, undef, undef, undef, undef, undef, undef, undef, undef, undef, undef, undef, undef, undef, undef, undef, undef] := by kernel_rfl
theorem pokR0 : okC Tryd.prog gR sR paR0 = true := by kernel_rfl
theorem pokR1 : okC Tryd.prog gR sR paR1 = true := by kernel_rfl
def bPa : Frame := { (default : Frame) with fn := 9, kind := .normal }
theorem bPa_fn : ∃ fn, Tryd.prog.funcs[bPa.fn]? = some fn := ⟨Tryd.f9, Tryd.func9⟩
theorem pa_fin {ch : Option Nat} {a : Act} {v : World} {todo : List Item} (hd : a.defers = []) (h6 : slot a 6 (.bool true)) : MS Tryd.prog SR gR sR (· = .bool true) [] ch { bPa.at a todo with mode := .returning } [] v := by
  refine MS.fin (x := .bool true) rfl hd rfl Tryd.func9 (fun τ d => ?_) (by kernel_rfl) rfl
  refine (results_one (p := 6) rfl _).trans ?_
  show Result.ok (a.tmps.getD 6 undef) _ = _
  rw [show (a.tmps.getD 6 undef) = _ from h6]
theorem cells_short {l : List Cel} (h : cellsR l = 0) : ∀ x ∈ l, x.path.size ≤ 1000 := fun x hx => by
  have := (cells_each h x hx).2
  omega
set_option maxRecDepth 100000 in
set_option maxHeartbeats 4000000 in
theorem pa_two {ch : Option Nat} {v v0 : World} {a : Act} {k : List Item} (hz : a.tmps.size = 45) (hd : a.defers = []) (ht : TabAt v0) (hg : GAt v0) (k0 : Kp v0 v) :
    MS Tryd.prog SR gR sR (· = .bool true) [] ch (bPa.at a (.code (.seq (.region 2 paO2 false) .ret) :: k)) [] v := by
  have hXX : ∀ ch, Walk Tryd.prog SR gR sR (MS Tryd.prog SR gR sR (· = .bool true) [] ch) := fun ch => MS.walk ctxR
  have hX := hXX ch
  refine hX.seq (hX.region ?_)
  rw [paz2]
  refine MS.enter ctxR (show paO2[0]? = some _ from rfl) rfl rfl (by kernel_rfl) ⟨_, _, Tryd.func33, alBody, by kernel_rfl⟩ ?_
  show MS Tryd.prog SR gR sR (· = .bool true) [] _ (Frame.enter Tryd.prog 33 ((#[] : Array Operand).map a.eval) .normal) _ v
  rw [map_none]
  refine alive_ms (ht.kp k0 hg) (hg.kp k0) ?_
  intro ch a' va1 todo hd' q0 kk
  have hX := hXX ch
  refine hX.back' (x := .bool true) rfl rfl Tryd.func33 (show paO2[0]? = some _ from rfl) (fun τ d => (results_one (p := 0) rfl _).trans (congrArg (fun z => Result.ok z _) (show (a'.tmps.getD 0 undef) = _ from q0))) ?_
  show MS Tryd.prog SR gR sR (· = .bool true) [] ch (bPa.at (a.put (some 23) (.bool true)) _) [] va1
  have k0 := k0.trans kk
  clear kk
  have hd : (a.put (some 23) (.bool true)).defers = [] := hd
  have s23 := slot_same (a := a) (d := 23) (x := .bool true) (by rw [hz]; decide)
  have hz : (a.put (some 23) (.bool true)).tmps.size = 45 := size_put hz
  generalize (a.put (some 23) (.bool true)) = y2 at hz hd s23 ⊢
  refine hX.val (v' := va1) (some 6) (.bool true) (show paO2[1]? = some _ from rfl) (by kernel_rfl) rfl rfl (fun τ d => run_moveX y2.eval (.tmp 23) (.inr rfl) s23) ?_
  have hd : (y2.put (some 6) (.bool true)).defers = [] := hd
  clear s23
  have s6 := slot_same (a := y2) (d := 6) (x := .bool true) (by rw [hz]; decide)
  have hz : (y2.put (some 6) (.bool true)).tmps.size = 45 := size_put hz
  generalize (y2.put (some 6) (.bool true)) = y3 at hz hd s6 ⊢
  exact hX.done (hX.ret (pa_fin hd s6))
set_option maxRecDepth 100000 in
set_option maxHeartbeats 4000000 in
theorem pa_three {RA LA : Option Addr} {rc lc : Nat} {rs : List Rul} {l : List Cel} {s : Int} {ch : Option Nat} {v v0 : World} {a : Act} (hz : a.tmps.size = 45) (hd : a.defers = []) (s0 : slot a 0 (.slice RA rs.length rc)) (s1 : slot a 1 (.int .i64 s)) (s2 : slot a 2 (.slice LA l.length lc))
    (hr : SlAt pRul (Old v) v RA rc rs) (hl : SlAt pCel (Old v) v LA lc l) (hsm : Small rs) (hs : Fits .i64 s) (ht : TabAt v0) (hg : GAt v0) (k0 : Kp v0 v)
    (hk : ∀ ch a v' X xc, a.tmps.size = 45 → a.defers = [] → slot a 7 (.slice X (rStep9 rs s l).1.length xc) → slot a 8 (.int .i64 (rStep9 rs s l).2) → SlAt pCel (Old v') v' X xc (rStep9 rs s l).1 → Kp v0 v' → MS Tryd.prog SR gR sR (· = .bool true) [] ch (bPa.at a [.code (.seq (.region 4 paO4 false) .ret)]) [] v') :
    MS Tryd.prog SR gR sR (· = .bool true) [] ch (bPa.at a [.code (.seq (.region 3 paO3 false) (.seq (.region 4 paO4 false) .ret))]) [] v := by
  have hXX : ∀ ch, Walk Tryd.prog SR gR sR (MS Tryd.prog SR gR sR (· = .bool true) [] ch) := fun ch => MS.walk ctxR
  have hX := hXX ch
  refine hX.seq (hX.region ?_)
  rw [paz3]
  refine hX.val (v' := v) (some 25) (.slice RA rs.length rc) (show paO3[0]? = some _ from rfl) (by kernel_rfl) rfl rfl (fun τ d => run_moveX a.eval (.tmp 0) (.inl rfl) s0) ?_
  have hd : (a.put (some 25) (.slice RA rs.length rc)).defers = [] := hd
  clear s0
  have s1 := slot_ne (d := 25) (x := .slice RA rs.length rc) s1 (by decide)
  have s2 := slot_ne (d := 25) (x := .slice RA rs.length rc) s2 (by decide)
  have s25 := slot_same (a := a) (d := 25) (x := .slice RA rs.length rc) (by rw [hz]; decide)
  have hz : (a.put (some 25) (.slice RA rs.length rc)).tmps.size = 45 := size_put hz
  generalize (a.put (some 25) (.slice RA rs.length rc)) = y1 at hz hd s1 s2 s25 ⊢
  refine hX.val (v' := v) (some 26) (.int .i64 s) (show paO3[1]? = some _ from rfl) (by kernel_rfl) rfl rfl (fun τ d => run_moveX y1.eval (.tmp 1) (.inl rfl) s1) ?_
  have hd : (y1.put (some 26) (.int .i64 s)).defers = [] := hd
  clear s1
  have s2 := slot_ne (d := 26) (x := .int .i64 s) s2 (by decide)
  have s25 := slot_ne (d := 26) (x := .int .i64 s) s25 (by decide)
  have s26 := slot_same (a := y1) (d := 26) (x := .int .i64 s) (by rw [hz]; decide)
  have hz : (y1.put (some 26) (.int .i64 s)).tmps.size = 45 := size_put hz
  generalize (y1.put (some 26) (.int .i64 s)) = y2 at hz hd s2 s25 s26 ⊢
  refine hX.val (v' := v) (some 27) (.slice LA l.length lc) (show paO3[2]? = some _ from rfl) (by kernel_rfl) rfl rfl (fun τ d => run_moveX y2.eval (.tmp 2) (.inl rfl) s2) ?_
  have hd : (y2.put (some 27) (.slice LA l.length lc)).defers = [] := hd
  clear s2
  have s25 := slot_ne (d := 27) (x := .slice LA l.length lc) s25 (by decide)
  have s26 := slot_ne (d := 27) (x := .slice LA l.length lc) s26 (by decide)
  have s27 := slot_same (a := y2) (d := 27) (x := .slice LA l.length lc) (by rw [hz]; decide)
  have hz : (y2.put (some 27) (.slice LA l.length lc)).tmps.size = 45 := size_put hz
  generalize (y2.put (some 27) (.slice LA l.length lc)) = y3 at hz hd s25 s26 s27 ⊢
  refine MS.enter ctxR (show paO3[3]? = some _ from rfl) rfl rfl (by kernel_rfl) ⟨_, _, Tryd.func26, stBody, by kernel_rfl⟩ ?_
  have hargs : (#[.tmp 25, .tmp 26, .tmp 27] : Array Operand).map y3.eval = #[.slice RA rs.length rc, .int .i64 s, .slice LA l.length lc] := by
    simp only [List.map_toArray, List.map_cons, List.map_nil]
    rw [show y3.eval (.tmp 25) = _ from s25, show y3.eval (.tmp 26) = _ from s26, show y3.eval (.tmp 27) = _ from s27]
  show MS Tryd.prog SR gR sR (· = .bool true) [] _ (Frame.enter Tryd.prog 26 ((#[.tmp 25, .tmp 26, .tmp 27] : Array Operand).map y3.eval) .normal) _ v
  rw [hargs]
  refine lst_ms hr hl hsm hs (ht.kp k0 hg) (hg.kp k0) ?_
  intro ch a' v' todo X xc hd' q6 q7 hsl kk
  have hX := hXX ch
  refine hX.back' (x := .tuple #[.slice X (rStep9 rs s l).1.length xc, .int .i64 (rStep9 rs s l).2]) rfl rfl Tryd.func26 (show paO3[3]? = some _ from rfl) (fun τ d => ?_) ?_
  · refine (results_two (p := 6) (q := 7) rfl _).trans ?_
    show Result.ok (Value.tuple #[a'.tmps.getD 6 undef, a'.tmps.getD 7 undef]) _ = _
    rw [show (a'.tmps.getD 6 undef) = _ from q6, show (a'.tmps.getD 7 undef) = _ from q7]
  show MS Tryd.prog SR gR sR (· = .bool true) [] ch (bPa.at (y3.put (some 28) (.tuple #[.slice X (rStep9 rs s l).1.length xc, .int .i64 (rStep9 rs s l).2])) _) [] v'
  have hd : (y3.put (some 28) (.tuple #[.slice X (rStep9 rs s l).1.length xc, .int .i64 (rStep9 rs s l).2])).defers = [] := hd
  clear s25
  clear s26
  clear s27
  have s28 := slot_same (a := y3) (d := 28) (x := .tuple #[.slice X (rStep9 rs s l).1.length xc, .int .i64 (rStep9 rs s l).2]) (by rw [hz]; decide)
  have hz : (y3.put (some 28) (.tuple #[.slice X (rStep9 rs s l).1.length xc, .int .i64 (rStep9 rs s l).2])).tmps.size = 45 := size_put hz
  generalize (y3.put (some 28) (.tuple #[.slice X (rStep9 rs s l).1.length xc, .int .i64 (rStep9 rs s l).2])) = y4 at hz hd s28 ⊢
  refine hX.val (v' := v') (some 24) (.tuple #[.slice X (rStep9 rs s l).1.length xc, .int .i64 (rStep9 rs s l).2]) (show paO3[4]? = some _ from rfl) (by kernel_rfl) rfl rfl (fun τ d => run_moveX y4.eval (.tmp 28) (.inl rfl) s28) ?_
  have hd : (y4.put (some 24) (.tuple #[.slice X (rStep9 rs s l).1.length xc, .int .i64 (rStep9 rs s l).2])).defers = [] := hd
  clear s28
  have s24 := slot_same (a := y4) (d := 24) (x := .tuple #[.slice X (rStep9 rs s l).1.length xc, .int .i64 (rStep9 rs s l).2]) (by rw [hz]; decide)
  have hz : (y4.put (some 24) (.tuple #[.slice X (rStep9 rs s l).1.length xc, .int .i64 (rStep9 rs s l).2])).tmps.size = 45 := size_put hz
  generalize (y4.put (some 24) (.tuple #[.slice X (rStep9 rs s l).1.length xc, .int .i64 (rStep9 rs s l).2])) = y5 at hz hd s24 ⊢
  refine hX.val (v' := v') (some 29) (.slice X (rStep9 rs s l).1.length xc) (show paO3[5]? = some _ from rfl) (by kernel_rfl) rfl rfl (fun τ d => run_extractX y5.eval (.tmp 24) 0 rfl s24 rfl) ?_
  have hd : (y5.put (some 29) (.slice X (rStep9 rs s l).1.length xc)).defers = [] := hd
  have s24 := slot_ne (d := 29) (x := .slice X (rStep9 rs s l).1.length xc) s24 (by decide)
  have s29 := slot_same (a := y5) (d := 29) (x := .slice X (rStep9 rs s l).1.length xc) (by rw [hz]; decide)
  have hz : (y5.put (some 29) (.slice X (rStep9 rs s l).1.length xc)).tmps.size = 45 := size_put hz
  generalize (y5.put (some 29) (.slice X (rStep9 rs s l).1.length xc)) = y6 at hz hd s24 s29 ⊢
  refine hX.val (v' := v') (some 30) (.int .i64 (rStep9 rs s l).2) (show paO3[6]? = some _ from rfl) (by kernel_rfl) rfl rfl (fun τ d => run_extractX y6.eval (.tmp 24) 1 rfl s24 rfl) ?_
  have hd : (y6.put (some 30) (.int .i64 (rStep9 rs s l).2)).defers = [] := hd
  clear s24
  have s29 := slot_ne (d := 30) (x := .int .i64 (rStep9 rs s l).2) s29 (by decide)
  have s30 := slot_same (a := y6) (d := 30) (x := .int .i64 (rStep9 rs s l).2) (by rw [hz]; decide)
  have hz : (y6.put (some 30) (.int .i64 (rStep9 rs s l).2)).tmps.size = 45 := size_put hz
  generalize (y6.put (some 30) (.int .i64 (rStep9 rs s l).2)) = y7 at hz hd s29 s30 ⊢
  refine hX.val (v' := v') (some 7) (.slice X (rStep9 rs s l).1.length xc) (show paO3[7]? = some _ from rfl) (by kernel_rfl) rfl rfl (fun τ d => run_moveX y7.eval (.tmp 29) (.inr rfl) s29) ?_
  have hd : (y7.put (some 7) (.slice X (rStep9 rs s l).1.length xc)).defers = [] := hd
  clear s29
  have s30 := slot_ne (d := 7) (x := .slice X (rStep9 rs s l).1.length xc) s30 (by decide)
  have s7 := slot_same (a := y7) (d := 7) (x := .slice X (rStep9 rs s l).1.length xc) (by rw [hz]; decide)
  have hz : (y7.put (some 7) (.slice X (rStep9 rs s l).1.length xc)).tmps.size = 45 := size_put hz
  generalize (y7.put (some 7) (.slice X (rStep9 rs s l).1.length xc)) = y8 at hz hd s7 s30 ⊢
  refine hX.val (v' := v') (some 8) (.int .i64 (rStep9 rs s l).2) (show paO3[8]? = some _ from rfl) (by kernel_rfl) rfl rfl (fun τ d => run_moveX y8.eval (.tmp 30) (.inr rfl) s30) ?_
  have hd : (y8.put (some 8) (.int .i64 (rStep9 rs s l).2)).defers = [] := hd
  have s7 := slot_ne (d := 8) (x := .int .i64 (rStep9 rs s l).2) s7 (by decide)
  clear s30
  have s8 := slot_same (a := y8) (d := 8) (x := .int .i64 (rStep9 rs s l).2) (by rw [hz]; decide)
  have hz : (y8.put (some 8) (.int .i64 (rStep9 rs s l).2)).tmps.size = 45 := size_put hz
  generalize (y8.put (some 8) (.int .i64 (rStep9 rs s l).2)) = y9 at hz hd s7 s8 ⊢
  exact hX.done (hk _ _ _ X xc hz hd s7 s8 hsl (k0.trans kk))
set_option maxRecDepth 100000 in
set_option maxHeartbeats 4000000 in
theorem pa_err {ch : Option Nat} {v v0 : World} {a : Act} {X : Option Addr} {xc : Nat} {x : List Cel} {e : Int} (hz : a.tmps.size = 45) (hd : a.defers = []) (s7 : slot a 7 (.slice X x.length xc)) (s8 : slot a 8 (.int .i64 e)) (hx : SlAt pCel (Old v) v X xc x) (ht : TabAt v0) (hg : GAt v0) (k0 : Kp v0 v) (h1 : decide (e ≠ 0) = true) :
    MS Tryd.prog SR gR sR (· = .bool true) [] ch (bPa.at a [.code (.seq (.region 4 paO4 false) .ret)]) [] v := by
  have hXX : ∀ ch, Walk Tryd.prog SR gR sR (MS Tryd.prog SR gR sR (· = .bool true) [] ch) := fun ch => MS.walk ctxR
  have hX := hXX ch
  refine hX.seq (hX.region ?_)
  rw [paz4]
  refine hX.val (v' := v) (some 31) (.int .i64 e) (show paO4[0]? = some _ from rfl) (by kernel_rfl) rfl rfl (fun τ d => run_moveX a.eval (.tmp 8) (.inl rfl) s8) ?_
  have hd : (a.put (some 31) (.int .i64 e)).defers = [] := hd
  have s7 := slot_ne (d := 31) (x := .int .i64 e) s7 (by decide)
  clear s8
  have s31 := slot_same (a := a) (d := 31) (x := .int .i64 e) (by rw [hz]; decide)
  have hz : (a.put (some 31) (.int .i64 e)).tmps.size = 45 := size_put hz
  generalize (a.put (some 31) (.int .i64 e)) = y1 at hz hd s7 s31 ⊢
  refine hX.val (v' := v) (some 32) (.bool true) (show paO4[1]? = some _ from rfl) (by kernel_rfl) rfl rfl (fun τ d => (run_neq y1.eval 27 27 (.tmp 31) _ rfl Tryd.underlying27 (m := e) s31 (n := 0) rfl).trans (by rw [h1])) ?_
  have hd : (y1.put (some 32) (.bool true)).defers = [] := hd
  have s7 := slot_ne (d := 32) (x := .bool true) s7 (by decide)
  clear s31
  have s32 := slot_same (a := y1) (d := 32) (x := .bool true) (by rw [hz]; decide)
  have hz : (y1.put (some 32) (.bool true)).tmps.size = 45 := size_put hz
  generalize (y1.put (some 32) (.bool true)) = y2 at hz hd s7 s32 ⊢
  refine hX.val (v' := v) (some 33) (.bool true) (show paO4[2]? = some _ from rfl) (by kernel_rfl) rfl rfl (fun τ d => run_moveX y2.eval (.tmp 32) (.inl rfl) s32) ?_
  have hd : (y2.put (some 33) (.bool true)).defers = [] := hd
  have s7 := slot_ne (d := 33) (x := .bool true) s7 (by decide)
  clear s32
  have s33 := slot_same (a := y2) (d := 33) (x := .bool true) (by rw [hz]; decide)
  have hz : (y2.put (some 33) (.bool true)).tmps.size = 45 := size_put hz
  generalize (y2.put (some 33) (.bool true)) = y3 at hz hd s7 s33 ⊢
  refine hX.passG (some 34) (show paO4[3]? = some _ from rfl) (by kernel_rfl) (wanted_no rfl (show paO4[2]? = some _ from rfl) rfl s33 rfl) rfl ?_
  have hd : (y3.put (some 34) (undef)).defers = [] := hd
  have s7 := slot_ne (d := 34) (x := undef) s7 (by decide)
  have s33 := slot_ne (d := 34) (x := undef) s33 (by decide)
  have s34 := slot_same (a := y3) (d := 34) (x := undef) (by rw [hz]; decide)
  have hz : (y3.put (some 34) (undef)).tmps.size = 45 := size_put hz
  generalize (y3.put (some 34) (undef)) = y4 at hz hd s7 s33 s34 ⊢
  refine hX.passG (some 35) (show paO4[4]? = some _ from rfl) (by kernel_rfl) (wanted_no rfl (show paO4[2]? = some _ from rfl) rfl s33 rfl) rfl ?_
  have hd : (y4.put (some 35) (undef)).defers = [] := hd
  have s7 := slot_ne (d := 35) (x := undef) s7 (by decide)
  have s33 := slot_ne (d := 35) (x := undef) s33 (by decide)
  clear s34
  have s35 := slot_same (a := y4) (d := 35) (x := undef) (by rw [hz]; decide)
  have hz : (y4.put (some 35) (undef)).tmps.size = 45 := size_put hz
  generalize (y4.put (some 35) (undef)) = y5 at hz hd s7 s33 s35 ⊢
  refine hX.passG (some 36) (show paO4[5]? = some _ from rfl) (by kernel_rfl) (wanted_no rfl (show paO4[2]? = some _ from rfl) rfl s33 rfl) rfl ?_
  have hd : (y5.put (some 36) (undef)).defers = [] := hd
  have s7 := slot_ne (d := 36) (x := undef) s7 (by decide)
  have s33 := slot_ne (d := 36) (x := undef) s33 (by decide)
  clear s35
  have s36 := slot_same (a := y5) (d := 36) (x := undef) (by rw [hz]; decide)
  have hz : (y5.put (some 36) (undef)).tmps.size = 45 := size_put hz
  generalize (y5.put (some 36) (undef)) = y6 at hz hd s7 s33 s36 ⊢
  refine hX.val (v' := v) (some 37) (.bool true) (show paO4[6]? = some _ from rfl) (by kernel_rfl) rfl rfl (fun τ d => run_pickT y6.eval (.tmp 33) _ _ rfl s33 rfl) ?_
  have hd : (y6.put (some 37) (.bool true)).defers = [] := hd
  have s7 := slot_ne (d := 37) (x := .bool true) s7 (by decide)
  clear s33
  clear s36
  have s37 := slot_same (a := y6) (d := 37) (x := .bool true) (by rw [hz]; decide)
  have hz : (y6.put (some 37) (.bool true)).tmps.size = 45 := size_put hz
  generalize (y6.put (some 37) (.bool true)) = y7 at hz hd s7 s37 ⊢
  refine hX.val (v' := v) (some 38) (.bool true) (show paO4[7]? = some _ from rfl) (by kernel_rfl) rfl rfl (fun τ d => run_moveX y7.eval (.tmp 37) (.inl rfl) s37) ?_
  have hd : (y7.put (some 38) (.bool true)).defers = [] := hd
  have s7 := slot_ne (d := 38) (x := .bool true) s7 (by decide)
  clear s37
  have s38 := slot_same (a := y7) (d := 38) (x := .bool true) (by rw [hz]; decide)
  have hz : (y7.put (some 38) (.bool true)).tmps.size = 45 := size_put hz
  generalize (y7.put (some 38) (.bool true)) = y8 at hz hd s7 s38 ⊢
  refine hX.passG (some 39) (show paO4[8]? = some _ from rfl) (by kernel_rfl) (wanted_no rfl (show paO4[7]? = some _ from rfl) rfl s38 rfl) rfl ?_
  have hd : (y8.put (some 39) (undef)).defers = [] := hd
  clear s7
  have s38 := slot_ne (d := 39) (x := undef) s38 (by decide)
  have s39 := slot_same (a := y8) (d := 39) (x := undef) (by rw [hz]; decide)
  have hz : (y8.put (some 39) (undef)).tmps.size = 45 := size_put hz
  generalize (y8.put (some 39) (undef)) = y9 at hz hd s38 s39 ⊢
  refine hX.passG (some 40) (show paO4[9]? = some _ from rfl) (by kernel_rfl) (wanted_no rfl (show paO4[7]? = some _ from rfl) rfl s38 rfl) rfl ?_
  have hd : (y9.put (some 40) (undef)).defers = [] := hd
  have s38 := slot_ne (d := 40) (x := undef) s38 (by decide)
  clear s39
  have s40 := slot_same (a := y9) (d := 40) (x := undef) (by rw [hz]; decide)
  have hz : (y9.put (some 40) (undef)).tmps.size = 45 := size_put hz
  generalize (y9.put (some 40) (undef)) = y10 at hz hd s38 s40 ⊢
  refine hX.val (v' := v) (some 41) (.bool true) (show paO4[10]? = some _ from rfl) (by kernel_rfl) rfl rfl (fun τ d => run_pickT y10.eval (.tmp 38) _ _ rfl s38 rfl) ?_
  have hd : (y10.put (some 41) (.bool true)).defers = [] := hd
  clear s38
  clear s40
  have s41 := slot_same (a := y10) (d := 41) (x := .bool true) (by rw [hz]; decide)
  have hz : (y10.put (some 41) (.bool true)).tmps.size = 45 := size_put hz
  generalize (y10.put (some 41) (.bool true)) = y11 at hz hd s41 ⊢
  refine hX.val (v' := v) (some 42) (.bool true) (show paO4[11]? = some _ from rfl) (by kernel_rfl) rfl rfl (fun τ d => run_moveX y11.eval (.tmp 41) (.inl rfl) s41) ?_
  have hd : (y11.put (some 42) (.bool true)).defers = [] := hd
  clear s41
  have s42 := slot_same (a := y11) (d := 42) (x := .bool true) (by rw [hz]; decide)
  have hz : (y11.put (some 42) (.bool true)).tmps.size = 45 := size_put hz
  generalize (y11.put (some 42) (.bool true)) = y12 at hz hd s42 ⊢
  refine MS.enter ctxR (show paO4[12]? = some _ from rfl) (wanted_yes rfl (show paO4[11]? = some _ from rfl) rfl s42) rfl (by kernel_rfl) ⟨_, _, Tryd.func33, alBody, by kernel_rfl⟩ ?_
  show MS Tryd.prog SR gR sR (· = .bool true) [] _ (Frame.enter Tryd.prog 33 ((#[] : Array Operand).map y12.eval) .normal) _ v
  rw [map_none]
  refine alive_ms (ht.kp k0 hg) (hg.kp k0) ?_
  intro ch a' va13 todo hd' q0 kk
  have hX := hXX ch
  refine hX.back' (x := .bool true) rfl rfl Tryd.func33 (show paO4[12]? = some _ from rfl) (fun τ d => (results_one (p := 0) rfl _).trans (congrArg (fun z => Result.ok z _) (show (a'.tmps.getD 0 undef) = _ from q0))) ?_
  show MS Tryd.prog SR gR sR (· = .bool true) [] ch (bPa.at (y12.put (some 43) (.bool true)) _) [] va13
  have k0 := k0.trans kk
  clear kk
  have hd : (y12.put (some 43) (.bool true)).defers = [] := hd
  have s42 := slot_ne (d := 43) (x := .bool true) s42 (by decide)
  have s43 := slot_same (a := y12) (d := 43) (x := .bool true) (by rw [hz]; decide)
  have hz : (y12.put (some 43) (.bool true)).tmps.size = 45 := size_put hz
  generalize (y12.put (some 43) (.bool true)) = y14 at hz hd s42 s43 ⊢
  refine hX.val (v' := va13) (some 44) (.bool true) (show paO4[13]? = some _ from rfl) (by kernel_rfl) rfl rfl (fun τ d => run_pickT y14.eval (.tmp 42) (.tmp 43) _ rfl s42 s43) ?_
  have hd : (y14.put (some 44) (.bool true)).defers = [] := hd
  clear s42
  clear s43
  have s44 := slot_same (a := y14) (d := 44) (x := .bool true) (by rw [hz]; decide)
  have hz : (y14.put (some 44) (.bool true)).tmps.size = 45 := size_put hz
  generalize (y14.put (some 44) (.bool true)) = y15 at hz hd s44 ⊢
  refine hX.val (v' := va13) (some 6) (.bool true) (show paO4[14]? = some _ from rfl) (by kernel_rfl) rfl rfl (fun τ d => run_moveX y15.eval (.tmp 44) (.inr rfl) s44) ?_
  have hd : (y15.put (some 6) (.bool true)).defers = [] := hd
  clear s44
  have s6 := slot_same (a := y15) (d := 6) (x := .bool true) (by rw [hz]; decide)
  have hz : (y15.put (some 6) (.bool true)).tmps.size = 45 := size_put hz
  generalize (y15.put (some 6) (.bool true)) = y16 at hz hd s6 ⊢
  exact hX.done (hX.ret (pa_fin hd s6))
set_option maxRecDepth 100000 in
set_option maxHeartbeats 4000000 in
theorem pa_long {ch : Option Nat} {v v0 : World} {a : Act} {X : Option Addr} {xc : Nat} {x : List Cel} {e : Int} (hz : a.tmps.size = 45) (hd : a.defers = []) (s7 : slot a 7 (.slice X x.length xc)) (s8 : slot a 8 (.int .i64 e)) (hx : SlAt pCel (Old v) v X xc x) (ht : TabAt v0) (hg : GAt v0) (k0 : Kp v0 v) (h1 : decide (e ≠ 0) = false) (h2 : decide ((800 : Int) < ((x.length : Nat) : Int)) = true) :
    MS Tryd.prog SR gR sR (· = .bool true) [] ch (bPa.at a [.code (.seq (.region 4 paO4 false) .ret)]) [] v := by
  have hXX : ∀ ch, Walk Tryd.prog SR gR sR (MS Tryd.prog SR gR sR (· = .bool true) [] ch) := fun ch => MS.walk ctxR
  have hX := hXX ch
  refine hX.seq (hX.region ?_)
  rw [paz4]
  refine hX.val (v' := v) (some 31) (.int .i64 e) (show paO4[0]? = some _ from rfl) (by kernel_rfl) rfl rfl (fun τ d => run_moveX a.eval (.tmp 8) (.inl rfl) s8) ?_
  have hd : (a.put (some 31) (.int .i64 e)).defers = [] := hd
  have s7 := slot_ne (d := 31) (x := .int .i64 e) s7 (by decide)
  clear s8
  have s31 := slot_same (a := a) (d := 31) (x := .int .i64 e) (by rw [hz]; decide)
  have hz : (a.put (some 31) (.int .i64 e)).tmps.size = 45 := size_put hz
  generalize (a.put (some 31) (.int .i64 e)) = y1 at hz hd s7 s31 ⊢
  refine hX.val (v' := v) (some 32) (.bool false) (show paO4[1]? = some _ from rfl) (by kernel_rfl) rfl rfl (fun τ d => (run_neq y1.eval 27 27 (.tmp 31) _ rfl Tryd.underlying27 (m := e) s31 (n := 0) rfl).trans (by rw [h1])) ?_
  have hd : (y1.put (some 32) (.bool false)).defers = [] := hd
  have s7 := slot_ne (d := 32) (x := .bool false) s7 (by decide)
  clear s31
  have s32 := slot_same (a := y1) (d := 32) (x := .bool false) (by rw [hz]; decide)
  have hz : (y1.put (some 32) (.bool false)).tmps.size = 45 := size_put hz
  generalize (y1.put (some 32) (.bool false)) = y2 at hz hd s7 s32 ⊢
  refine hX.val (v' := v) (some 33) (.bool false) (show paO4[2]? = some _ from rfl) (by kernel_rfl) rfl rfl (fun τ d => run_moveX y2.eval (.tmp 32) (.inl rfl) s32) ?_
  have hd : (y2.put (some 33) (.bool false)).defers = [] := hd
  have s7 := slot_ne (d := 33) (x := .bool false) s7 (by decide)
  clear s32
  have s33 := slot_same (a := y2) (d := 33) (x := .bool false) (by rw [hz]; decide)
  have hz : (y2.put (some 33) (.bool false)).tmps.size = 45 := size_put hz
  generalize (y2.put (some 33) (.bool false)) = y3 at hz hd s7 s33 ⊢
  refine hX.valG (v' := v) (some 34) (.slice X x.length xc) (show paO4[3]? = some _ from rfl) (by kernel_rfl) (wanted_yes rfl (show paO4[2]? = some _ from rfl) rfl s33) rfl (fun τ d => run_moveX y3.eval (.tmp 7) (.inl rfl) s7) ?_
  have hd : (y3.put (some 34) (.slice X x.length xc)).defers = [] := hd
  have s7 := slot_ne (d := 34) (x := .slice X x.length xc) s7 (by decide)
  have s33 := slot_ne (d := 34) (x := .slice X x.length xc) s33 (by decide)
  have s34 := slot_same (a := y3) (d := 34) (x := .slice X x.length xc) (by rw [hz]; decide)
  have hz : (y3.put (some 34) (.slice X x.length xc)).tmps.size = 45 := size_put hz
  generalize (y3.put (some 34) (.slice X x.length xc)) = y4 at hz hd s7 s33 s34 ⊢
  refine hX.valG (v' := v) (some 35) (.int .i64 ((x.length : Nat) : Int)) (show paO4[4]? = some _ from rfl) (by kernel_rfl) (wanted_yes rfl (show paO4[2]? = some _ from rfl) rfl s33) rfl (fun τ d => run_len y4.eval 26 51 (.tmp 34) rfl Tryd.underlying26 s34) ?_
  have hd : (y4.put (some 35) (.int .i64 ((x.length : Nat) : Int))).defers = [] := hd
  have s7 := slot_ne (d := 35) (x := .int .i64 ((x.length : Nat) : Int)) s7 (by decide)
  have s33 := slot_ne (d := 35) (x := .int .i64 ((x.length : Nat) : Int)) s33 (by decide)
  clear s34
  have s35 := slot_same (a := y4) (d := 35) (x := .int .i64 ((x.length : Nat) : Int)) (by rw [hz]; decide)
  have hz : (y4.put (some 35) (.int .i64 ((x.length : Nat) : Int))).tmps.size = 45 := size_put hz
  generalize (y4.put (some 35) (.int .i64 ((x.length : Nat) : Int))) = y5 at hz hd s7 s33 s35 ⊢
  refine hX.valG (v' := v) (some 36) (.bool true) (show paO4[5]? = some _ from rfl) (by kernel_rfl) (wanted_yes rfl (show paO4[2]? = some _ from rfl) rfl s33) rfl (fun τ d => (run_gtr y5.eval 3 3 (.tmp 35) _ rfl Tryd.underlying3 (m := ((x.length : Nat) : Int)) s35 (n := 800) rfl).trans (by rw [h2])) ?_
  have hd : (y5.put (some 36) (.bool true)).defers = [] := hd
  have s7 := slot_ne (d := 36) (x := .bool true) s7 (by decide)
  have s33 := slot_ne (d := 36) (x := .bool true) s33 (by decide)
  clear s35
  have s36 := slot_same (a := y5) (d := 36) (x := .bool true) (by rw [hz]; decide)
  have hz : (y5.put (some 36) (.bool true)).tmps.size = 45 := size_put hz
  generalize (y5.put (some 36) (.bool true)) = y6 at hz hd s7 s33 s36 ⊢
  refine hX.val (v' := v) (some 37) (.bool true) (show paO4[6]? = some _ from rfl) (by kernel_rfl) rfl rfl (fun τ d => run_pickF y6.eval (.tmp 33) _ (.tmp 36) rfl s33 s36) ?_
  have hd : (y6.put (some 37) (.bool true)).defers = [] := hd
  have s7 := slot_ne (d := 37) (x := .bool true) s7 (by decide)
  clear s33
  clear s36
  have s37 := slot_same (a := y6) (d := 37) (x := .bool true) (by rw [hz]; decide)
  have hz : (y6.put (some 37) (.bool true)).tmps.size = 45 := size_put hz
  generalize (y6.put (some 37) (.bool true)) = y7 at hz hd s7 s37 ⊢
  refine hX.val (v' := v) (some 38) (.bool true) (show paO4[7]? = some _ from rfl) (by kernel_rfl) rfl rfl (fun τ d => run_moveX y7.eval (.tmp 37) (.inl rfl) s37) ?_
  have hd : (y7.put (some 38) (.bool true)).defers = [] := hd
  have s7 := slot_ne (d := 38) (x := .bool true) s7 (by decide)
  clear s37
  have s38 := slot_same (a := y7) (d := 38) (x := .bool true) (by rw [hz]; decide)
  have hz : (y7.put (some 38) (.bool true)).tmps.size = 45 := size_put hz
  generalize (y7.put (some 38) (.bool true)) = y8 at hz hd s7 s38 ⊢
  refine hX.passG (some 39) (show paO4[8]? = some _ from rfl) (by kernel_rfl) (wanted_no rfl (show paO4[7]? = some _ from rfl) rfl s38 rfl) rfl ?_
  have hd : (y8.put (some 39) (undef)).defers = [] := hd
  clear s7
  have s38 := slot_ne (d := 39) (x := undef) s38 (by decide)
  have s39 := slot_same (a := y8) (d := 39) (x := undef) (by rw [hz]; decide)
  have hz : (y8.put (some 39) (undef)).tmps.size = 45 := size_put hz
  generalize (y8.put (some 39) (undef)) = y9 at hz hd s38 s39 ⊢
  refine hX.passG (some 40) (show paO4[9]? = some _ from rfl) (by kernel_rfl) (wanted_no rfl (show paO4[7]? = some _ from rfl) rfl s38 rfl) rfl ?_
  have hd : (y9.put (some 40) (undef)).defers = [] := hd
  have s38 := slot_ne (d := 40) (x := undef) s38 (by decide)
  clear s39
  have s40 := slot_same (a := y9) (d := 40) (x := undef) (by rw [hz]; decide)
  have hz : (y9.put (some 40) (undef)).tmps.size = 45 := size_put hz
  generalize (y9.put (some 40) (undef)) = y10 at hz hd s38 s40 ⊢
  refine hX.val (v' := v) (some 41) (.bool true) (show paO4[10]? = some _ from rfl) (by kernel_rfl) rfl rfl (fun τ d => run_pickT y10.eval (.tmp 38) _ _ rfl s38 rfl) ?_
  have hd : (y10.put (some 41) (.bool true)).defers = [] := hd
  clear s38
  clear s40
  have s41 := slot_same (a := y10) (d := 41) (x := .bool true) (by rw [hz]; decide)
  have hz : (y10.put (some 41) (.bool true)).tmps.size = 45 := size_put hz
  generalize (y10.put (some 41) (.bool true)) = y11 at hz hd s41 ⊢
  refine hX.val (v' := v) (some 42) (.bool true) (show paO4[11]? = some _ from rfl) (by kernel_rfl) rfl rfl (fun τ d => run_moveX y11.eval (.tmp 41) (.inl rfl) s41) ?_
  have hd : (y11.put (some 42) (.bool true)).defers = [] := hd
  clear s41
  have s42 := slot_same (a := y11) (d := 42) (x := .bool true) (by rw [hz]; decide)
  have hz : (y11.put (some 42) (.bool true)).tmps.size = 45 := size_put hz
  generalize (y11.put (some 42) (.bool true)) = y12 at hz hd s42 ⊢
  refine MS.enter ctxR (show paO4[12]? = some _ from rfl) (wanted_yes rfl (show paO4[11]? = some _ from rfl) rfl s42) rfl (by kernel_rfl) ⟨_, _, Tryd.func33, alBody, by kernel_rfl⟩ ?_
  show MS Tryd.prog SR gR sR (· = .bool true) [] _ (Frame.enter Tryd.prog 33 ((#[] : Array Operand).map y12.eval) .normal) _ v
  rw [map_none]
  refine alive_ms (ht.kp k0 hg) (hg.kp k0) ?_
  intro ch a' va13 todo hd' q0 kk
  have hX := hXX ch
  refine hX.back' (x := .bool true) rfl rfl Tryd.func33 (show paO4[12]? = some _ from rfl) (fun τ d => (results_one (p := 0) rfl _).trans (congrArg (fun z => Result.ok z _) (show (a'.tmps.getD 0 undef) = _ from q0))) ?_
  show MS Tryd.prog SR gR sR (· = .bool true) [] ch (bPa.at (y12.put (some 43) (.bool true)) _) [] va13
  have k0 := k0.trans kk
  clear kk
  have hd : (y12.put (some 43) (.bool true)).defers = [] := hd
  have s42 := slot_ne (d := 43) (x := .bool true) s42 (by decide)
  have s43 := slot_same (a := y12) (d := 43) (x := .bool true) (by rw [hz]; decide)
  have hz : (y12.put (some 43) (.bool true)).tmps.size = 45 := size_put hz
  generalize (y12.put (some 43) (.bool true)) = y14 at hz hd s42 s43 ⊢
  refine hX.val (v' := va13) (some 44) (.bool true) (show paO4[13]? = some _ from rfl) (by kernel_rfl) rfl rfl (fun τ d => run_pickT y14.eval (.tmp 42) (.tmp 43) _ rfl s42 s43) ?_
  have hd : (y14.put (some 44) (.bool true)).defers = [] := hd
  clear s42
  clear s43
  have s44 := slot_same (a := y14) (d := 44) (x := .bool true) (by rw [hz]; decide)
  have hz : (y14.put (some 44) (.bool true)).tmps.size = 45 := size_put hz
  generalize (y14.put (some 44) (.bool true)) = y15 at hz hd s44 ⊢
  refine hX.val (v' := va13) (some 6) (.bool true) (show paO4[14]? = some _ from rfl) (by kernel_rfl) rfl rfl (fun τ d => run_moveX y15.eval (.tmp 44) (.inr rfl) s44) ?_
  have hd : (y15.put (some 6) (.bool true)).defers = [] := hd
  clear s44
  have s6 := slot_same (a := y15) (d := 6) (x := .bool true) (by rw [hz]; decide)
  have hz : (y15.put (some 6) (.bool true)).tmps.size = 45 := size_put hz
  generalize (y15.put (some 6) (.bool true)) = y16 at hz hd s6 ⊢
  exact hX.done (hX.ret (pa_fin hd s6))
set_option maxRecDepth 100000 in
set_option maxHeartbeats 4000000 in
theorem pa_apart {ch : Option Nat} {v v0 : World} {a : Act} {X : Option Addr} {xc : Nat} {x : List Cel} {e : Int} (hz : a.tmps.size = 45) (hd : a.defers = []) (s7 : slot a 7 (.slice X x.length xc)) (s8 : slot a 8 (.int .i64 e)) (hx : SlAt pCel (Old v) v X xc x) (ht : TabAt v0) (hg : GAt v0) (k0 : Kp v0 v) (h1 : decide (e ≠ 0) = false) (h2 : decide ((800 : Int) < ((x.length : Nat) : Int)) = false) (h3 : apartB x = true) (hp : ∀ y ∈ x, y.path.size ≤ 1000) :
    MS Tryd.prog SR gR sR (· = .bool true) [] ch (bPa.at a [.code (.seq (.region 4 paO4 false) .ret)]) [] v := by
  have hXX : ∀ ch, Walk Tryd.prog SR gR sR (MS Tryd.prog SR gR sR (· = .bool true) [] ch) := fun ch => MS.walk ctxR
  have hX := hXX ch
  refine hX.seq (hX.region ?_)
  rw [paz4]
  refine hX.val (v' := v) (some 31) (.int .i64 e) (show paO4[0]? = some _ from rfl) (by kernel_rfl) rfl rfl (fun τ d => run_moveX a.eval (.tmp 8) (.inl rfl) s8) ?_
  have hd : (a.put (some 31) (.int .i64 e)).defers = [] := hd
  have s7 := slot_ne (d := 31) (x := .int .i64 e) s7 (by decide)
  clear s8
  have s31 := slot_same (a := a) (d := 31) (x := .int .i64 e) (by rw [hz]; decide)
  have hz : (a.put (some 31) (.int .i64 e)).tmps.size = 45 := size_put hz
  generalize (a.put (some 31) (.int .i64 e)) = y1 at hz hd s7 s31 ⊢
  refine hX.val (v' := v) (some 32) (.bool false) (show paO4[1]? = some _ from rfl) (by kernel_rfl) rfl rfl (fun τ d => (run_neq y1.eval 27 27 (.tmp 31) _ rfl Tryd.underlying27 (m := e) s31 (n := 0) rfl).trans (by rw [h1])) ?_
  have hd : (y1.put (some 32) (.bool false)).defers = [] := hd
  have s7 := slot_ne (d := 32) (x := .bool false) s7 (by decide)
  clear s31
  have s32 := slot_same (a := y1) (d := 32) (x := .bool false) (by rw [hz]; decide)
  have hz : (y1.put (some 32) (.bool false)).tmps.size = 45 := size_put hz
  generalize (y1.put (some 32) (.bool false)) = y2 at hz hd s7 s32 ⊢
  refine hX.val (v' := v) (some 33) (.bool false) (show paO4[2]? = some _ from rfl) (by kernel_rfl) rfl rfl (fun τ d => run_moveX y2.eval (.tmp 32) (.inl rfl) s32) ?_
  have hd : (y2.put (some 33) (.bool false)).defers = [] := hd
  have s7 := slot_ne (d := 33) (x := .bool false) s7 (by decide)
  clear s32
  have s33 := slot_same (a := y2) (d := 33) (x := .bool false) (by rw [hz]; decide)
  have hz : (y2.put (some 33) (.bool false)).tmps.size = 45 := size_put hz
  generalize (y2.put (some 33) (.bool false)) = y3 at hz hd s7 s33 ⊢
  refine hX.valG (v' := v) (some 34) (.slice X x.length xc) (show paO4[3]? = some _ from rfl) (by kernel_rfl) (wanted_yes rfl (show paO4[2]? = some _ from rfl) rfl s33) rfl (fun τ d => run_moveX y3.eval (.tmp 7) (.inl rfl) s7) ?_
  have hd : (y3.put (some 34) (.slice X x.length xc)).defers = [] := hd
  have s7 := slot_ne (d := 34) (x := .slice X x.length xc) s7 (by decide)
  have s33 := slot_ne (d := 34) (x := .slice X x.length xc) s33 (by decide)
  have s34 := slot_same (a := y3) (d := 34) (x := .slice X x.length xc) (by rw [hz]; decide)
  have hz : (y3.put (some 34) (.slice X x.length xc)).tmps.size = 45 := size_put hz
  generalize (y3.put (some 34) (.slice X x.length xc)) = y4 at hz hd s7 s33 s34 ⊢
  refine hX.valG (v' := v) (some 35) (.int .i64 ((x.length : Nat) : Int)) (show paO4[4]? = some _ from rfl) (by kernel_rfl) (wanted_yes rfl (show paO4[2]? = some _ from rfl) rfl s33) rfl (fun τ d => run_len y4.eval 26 51 (.tmp 34) rfl Tryd.underlying26 s34) ?_
  have hd : (y4.put (some 35) (.int .i64 ((x.length : Nat) : Int))).defers = [] := hd
  have s7 := slot_ne (d := 35) (x := .int .i64 ((x.length : Nat) : Int)) s7 (by decide)
  have s33 := slot_ne (d := 35) (x := .int .i64 ((x.length : Nat) : Int)) s33 (by decide)
  clear s34
  have s35 := slot_same (a := y4) (d := 35) (x := .int .i64 ((x.length : Nat) : Int)) (by rw [hz]; decide)
  have hz : (y4.put (some 35) (.int .i64 ((x.length : Nat) : Int))).tmps.size = 45 := size_put hz
  generalize (y4.put (some 35) (.int .i64 ((x.length : Nat) : Int))) = y5 at hz hd s7 s33 s35 ⊢
  refine hX.valG (v' := v) (some 36) (.bool false) (show paO4[5]? = some _ from rfl) (by kernel_rfl) (wanted_yes rfl (show paO4[2]? = some _ from rfl) rfl s33) rfl (fun τ d => (run_gtr y5.eval 3 3 (.tmp 35) _ rfl Tryd.underlying3 (m := ((x.length : Nat) : Int)) s35 (n := 800) rfl).trans (by rw [h2])) ?_
  have hd : (y5.put (some 36) (.bool false)).defers = [] := hd
  have s7 := slot_ne (d := 36) (x := .bool false) s7 (by decide)
  have s33 := slot_ne (d := 36) (x := .bool false) s33 (by decide)
  clear s35
  have s36 := slot_same (a := y5) (d := 36) (x := .bool false) (by rw [hz]; decide)
  have hz : (y5.put (some 36) (.bool false)).tmps.size = 45 := size_put hz
  generalize (y5.put (some 36) (.bool false)) = y6 at hz hd s7 s33 s36 ⊢
  refine hX.val (v' := v) (some 37) (.bool false) (show paO4[6]? = some _ from rfl) (by kernel_rfl) rfl rfl (fun τ d => run_pickF y6.eval (.tmp 33) _ (.tmp 36) rfl s33 s36) ?_
  have hd : (y6.put (some 37) (.bool false)).defers = [] := hd
  have s7 := slot_ne (d := 37) (x := .bool false) s7 (by decide)
  clear s33
  clear s36
  have s37 := slot_same (a := y6) (d := 37) (x := .bool false) (by rw [hz]; decide)
  have hz : (y6.put (some 37) (.bool false)).tmps.size = 45 := size_put hz
  generalize (y6.put (some 37) (.bool false)) = y7 at hz hd s7 s37 ⊢
  refine hX.val (v' := v) (some 38) (.bool false) (show paO4[7]? = some _ from rfl) (by kernel_rfl) rfl rfl (fun τ d => run_moveX y7.eval (.tmp 37) (.inl rfl) s37) ?_
  have hd : (y7.put (some 38) (.bool false)).defers = [] := hd
  have s7 := slot_ne (d := 38) (x := .bool false) s7 (by decide)
  clear s37
  have s38 := slot_same (a := y7) (d := 38) (x := .bool false) (by rw [hz]; decide)
  have hz : (y7.put (some 38) (.bool false)).tmps.size = 45 := size_put hz
  generalize (y7.put (some 38) (.bool false)) = y8 at hz hd s7 s38 ⊢
  refine hX.valG (v' := v) (some 39) (.slice X x.length xc) (show paO4[8]? = some _ from rfl) (by kernel_rfl) (wanted_yes rfl (show paO4[7]? = some _ from rfl) rfl s38) rfl (fun τ d => run_moveX y8.eval (.tmp 7) (.inl rfl) s7) ?_
  have hd : (y8.put (some 39) (.slice X x.length xc)).defers = [] := hd
  clear s7
  have s38 := slot_ne (d := 39) (x := .slice X x.length xc) s38 (by decide)
  have s39 := slot_same (a := y8) (d := 39) (x := .slice X x.length xc) (by rw [hz]; decide)
  have hz : (y8.put (some 39) (.slice X x.length xc)).tmps.size = 45 := size_put hz
  generalize (y8.put (some 39) (.slice X x.length xc)) = y9 at hz hd s38 s39 ⊢
  refine hX.calls ctxR (f := 37) (args := #[.slice X x.length xc]) (show paO4[9]? = some _ from rfl) (by kernel_rfl) (wanted_yes rfl (show paO4[7]? = some _ from rfl) rfl s38) (show LR.contains 37 = true by kernel_rfl) (fun τ d => Eq.trans (b := .ok (.enter 37 #[y9.eval (.tmp 39)]) (Go.Proofs.YtlipmagkplbkdaaDoor.at2 v τ d)) (by kernel_rfl) (by rw [show y9.eval (.tmp 39) = _ from s39])) (fun τ d => ?_)
  refine (apart_calls X xc x (Go.Proofs.YtlipmagkplbkdaaDoor.at2 v τ d) (hx.kp eqv_cel (Kp.at2 v τ d)) hp).mono ?_
  rw [h3]
  rintro e' w' ⟨rfl, hb⟩
  have k0 := (k0.trans (Kp.at2 v τ d)).trans (Kp.below hb)
  refine ⟨_, rfl, ?_⟩
  show MS Tryd.prog SR gR sR (· = .bool true) [] ch (bPa.at (y9.put (some 40) (.bool true)) _) [] w'
  have hd : (y9.put (some 40) (.bool true)).defers = [] := hd
  have s38 := slot_ne (d := 40) (x := .bool true) s38 (by decide)
  clear s39
  have s40 := slot_same (a := y9) (d := 40) (x := .bool true) (by rw [hz]; decide)
  have hz : (y9.put (some 40) (.bool true)).tmps.size = 45 := size_put hz
  generalize (y9.put (some 40) (.bool true)) = y10 at hz hd s38 s40 ⊢
  refine hX.val (v' := w') (some 41) (.bool true) (show paO4[10]? = some _ from rfl) (by kernel_rfl) rfl rfl (fun τ d => run_pickF y10.eval (.tmp 38) _ (.tmp 40) rfl s38 s40) ?_
  have hd : (y10.put (some 41) (.bool true)).defers = [] := hd
  clear s38
  clear s40
  have s41 := slot_same (a := y10) (d := 41) (x := .bool true) (by rw [hz]; decide)
  have hz : (y10.put (some 41) (.bool true)).tmps.size = 45 := size_put hz
  generalize (y10.put (some 41) (.bool true)) = y11 at hz hd s41 ⊢
  refine hX.val (v' := w') (some 42) (.bool true) (show paO4[11]? = some _ from rfl) (by kernel_rfl) rfl rfl (fun τ d => run_moveX y11.eval (.tmp 41) (.inl rfl) s41) ?_
  have hd : (y11.put (some 42) (.bool true)).defers = [] := hd
  clear s41
  have s42 := slot_same (a := y11) (d := 42) (x := .bool true) (by rw [hz]; decide)
  have hz : (y11.put (some 42) (.bool true)).tmps.size = 45 := size_put hz
  generalize (y11.put (some 42) (.bool true)) = y12 at hz hd s42 ⊢
  refine MS.enter ctxR (show paO4[12]? = some _ from rfl) (wanted_yes rfl (show paO4[11]? = some _ from rfl) rfl s42) rfl (by kernel_rfl) ⟨_, _, Tryd.func33, alBody, by kernel_rfl⟩ ?_
  show MS Tryd.prog SR gR sR (· = .bool true) [] _ (Frame.enter Tryd.prog 33 ((#[] : Array Operand).map y12.eval) .normal) _ w'
  rw [map_none]
  refine alive_ms (ht.kp k0 hg) (hg.kp k0) ?_
  intro ch a' va13 todo hd' q0 kk
  have hX := hXX ch
  refine hX.back' (x := .bool true) rfl rfl Tryd.func33 (show paO4[12]? = some _ from rfl) (fun τ d => (results_one (p := 0) rfl _).trans (congrArg (fun z => Result.ok z _) (show (a'.tmps.getD 0 undef) = _ from q0))) ?_
  show MS Tryd.prog SR gR sR (· = .bool true) [] ch (bPa.at (y12.put (some 43) (.bool true)) _) [] va13
  have k0 := k0.trans kk
  clear kk
  have hd : (y12.put (some 43) (.bool true)).defers = [] := hd
  have s42 := slot_ne (d := 43) (x := .bool true) s42 (by decide)
  have s43 := slot_same (a := y12) (d := 43) (x := .bool true) (by rw [hz]; decide)
  have hz : (y12.put (some 43) (.bool true)).tmps.size = 45 := size_put hz
  generalize (y12.put (some 43) (.bool true)) = y14 at hz hd s42 s43 ⊢
  refine hX.val (v' := va13) (some 44) (.bool true) (show paO4[13]? = some _ from rfl) (by kernel_rfl) rfl rfl (fun τ d => run_pickT y14.eval (.tmp 42) (.tmp 43) _ rfl s42 s43) ?_
  have hd : (y14.put (some 44) (.bool true)).defers = [] := hd
  clear s42
  clear s43
  have s44 := slot_same (a := y14) (d := 44) (x := .bool true) (by rw [hz]; decide)
  have hz : (y14.put (some 44) (.bool true)).tmps.size = 45 := size_put hz
  generalize (y14.put (some 44) (.bool true)) = y15 at hz hd s44 ⊢
  refine hX.val (v' := va13) (some 6) (.bool true) (show paO4[14]? = some _ from rfl) (by kernel_rfl) rfl rfl (fun τ d => run_moveX y15.eval (.tmp 44) (.inr rfl) s44) ?_
  have hd : (y15.put (some 6) (.bool true)).defers = [] := hd
  clear s44
  have s6 := slot_same (a := y15) (d := 6) (x := .bool true) (by rw [hz]; decide)
  have hz : (y15.put (some 6) (.bool true)).tmps.size = 45 := size_put hz
  generalize (y15.put (some 6) (.bool true)) = y16 at hz hd s6 ⊢
  exact hX.done (hX.ret (pa_fin hd s6))
set_option maxRecDepth 100000 in
set_option maxHeartbeats 4000000 in
theorem pa_ms {RA LA : Option Addr} {rc lc : Nat} {rs : List Rul} {l : List Cel} {s : Int} {v : World} (hr : SlAt pRul (Old v) v RA rc rs) (hl : SlAt pCel (Old v) v LA lc l) (hs : Fits .i64 s) (ht : TabAt v) (hg : GAt v) :
    MS Tryd.prog SR gR sR (· = .bool true) [] none (Frame.enter Tryd.prog 9 #[.slice RA rs.length rc, .int .i64 s, .slice LA l.length lc] .normal) [] v := by
  have hX : Walk Tryd.prog SR gR sR (MS Tryd.prog SR gR sR (· = .bool true) [] none) := MS.walk ctxR
  rw [enter_eq Tryd.func9 paBody, paB_eq, paTm]
  show MS Tryd.prog SR gR sR (· = .bool true) [] none (bPa.at _ _) [] v
  refine hX.seq (hX.wp ctxR rfl bPa_fn pokR0 fun τ d => ?_)
  have k1 : Kp v (Go.Proofs.YtlipmagkplbkdaaDoor.at2 v τ d) := Kp.at2 _ _ _
  generalize Go.Proofs.YtlipmagkplbkdaaDoor.at2 v τ d = v1 at k1 ⊢
  have Hr := Lib.hid hr; clear hr
  have Hl := Lib.hid hl; clear hl
  have HX := Lib.hid hX; clear hX
  have Ht := Lib.hid ht; clear ht
  have Hg := Lib.hid hg; clear hg
  dsimp only [paR0, paB, Tryd.f9]
  go_wp2
  refine HX.out.seq (HX.out.seq (HX.out.wp ctxR rfl bPa_fn pokR1 fun τ d => ?_))
  have k2 : Kp v (Go.Proofs.YtlipmagkplbkdaaDoor.at2 v1 τ d) := k1.trans (Kp.at2 _ _ _)
  generalize Go.Proofs.YtlipmagkplbkdaaDoor.at2 v1 τ d = v2 at k2 ⊢
  clear k1
  have hva := valid_calls RA LA rc lc rs l v2 (Hr.out.kp eqv_rul k2) (Hl.out.kp eqv_cel k2)
  unfold BoolPost at hva
  dsimp only [paR1, paB, Tryd.f9]
  cases hv : validB rs l
  case false =>
    rw [hv] at hva
    have Hva := Lib.hid hva; clear hva
    have Hv := Lib.hid hv; clear hv
    go_wp2_with (go_at_call 30; refine Hva.out.mono ?_; rintro e w3 ⟨rfl, hb3⟩)
    refine HX.out.cond (t := true) rfl rfl ?_
    exact pa_two rfl rfl Ht.out Hg.out (k2.trans (Kp.below hb3))
  rw [hv] at hva
  obtain ⟨g1, c1, g2, c2⟩ := validB_true hv
  have hsm := small_of g1
  have Hv := Lib.hid hv; clear hv
  have G1 := Lib.hid g1; clear g1
  have G2 := Lib.hid g2; clear g2
  have C1 := Lib.hid c1; clear c1
  have C2 := Lib.hid c2; clear c2
  have Hsm := Lib.hid hsm; clear hsm
  by_cases h80 : 80 < l.length
  · have e1 : (80 : Int) < (l.length : Int) := by omega
    have Hva := Lib.hid hva; clear hva
    go_wp2_with (go_at_call 30; refine Hva.out.mono ?_; rintro e w3 ⟨rfl, hb3⟩)
    refine HX.out.cond (t := true) rfl rfl ?_
    exact pa_two rfl rfl Ht.out Hg.out (k2.trans (Kp.below hb3))
  have hap := fun w (k : Kp v2 w) => apart_calls LA lc l w (Hl.out.kp eqv_cel (k2.trans k)) (cells_short C2.out)
  unfold BoolPost at hap
  cases hq : apartB l
  case false =>
    rw [hq] at hap
    have Hva := Lib.hid hva; clear hva
    have Hap := Lib.hid hap; clear hap
    have Hq := Lib.hid hq; clear hq
    go_wp2_with (first
      | (go_at_call 30; refine Hva.out.mono ?_; rintro e w3 ⟨rfl, hb3⟩)
      | (go_at_call 37; refine (Hap.out _ (Kp.below hb3)).mono ?_; rintro e w4 ⟨rfl, hb4⟩))
    refine HX.out.cond (t := true) rfl rfl ?_
    exact pa_two rfl rfl Ht.out Hg.out ((k2.trans (Kp.below hb3)).trans (Kp.below hb4))
  rw [hq] at hap
  have Hva := Lib.hid hva; clear hva
  have Hap := Lib.hid hap; clear hap
  have Hq := Lib.hid hq; clear hq
  go_wp2_with (first
    | (go_at_call 30; refine Hva.out.mono ?_; rintro e w3 ⟨rfl, hb3⟩)
    | (go_at_call 37; refine (Hap.out _ (Kp.below hb3)).mono ?_; rintro e w4 ⟨rfl, hb4⟩))
  refine HX.out.cond (t := false) rfl (congrArg Value.bool (decide_eq_false (by omega))) (HX.out.skip ?_)
  have k4 := (k2.trans (Kp.below hb3)).trans (Kp.below hb4)
  clear hb3 hb4 k2
  refine pa_three rfl rfl rfl rfl rfl (Hr.out.kp eqv_rul k4) (Hl.out.kp eqv_cel k4) Hsm.out hs Ht.out Hg.out k4 fun ch a v' X xc hz hd s7 s8 hx k5 => ?_
  have hst : rStep9 rs s l = stepR9 rs s l := by unfold rStep9; rw [if_pos C1.out, if_pos C2.out]
  rw [hst] at s7 s8 hx
  have hrv := rval_of C1.out
  by_cases h0 : (stepR9 rs s l).2 = 0
  · have hd0 : decide ((stepR9 rs s l).2 ≠ 0) = false := by simp [h0]
    by_cases h8 : (800 : Int) < (((stepR9 rs s l).1.length : Nat) : Int)
    · exact pa_long hz hd s7 s8 hx Ht.out Hg.out k5 hd0 (decide_eq_true h8)
    · exact pa_apart hz hd s7 s8 hx Ht.out Hg.out k5 hd0 (decide_eq_false h8) (apartB_true.2 (stepR9_apart hrv s (apartB_true.1 Hq.out) h0)) (cells_short (step9_valid hrv C2.out h0))
  · exact pa_err hz hd s7 s8 hx Ht.out Hg.out k5 (by simp [h0])
end Go.Proofs.YtlipmagkplbkdaaDoor
