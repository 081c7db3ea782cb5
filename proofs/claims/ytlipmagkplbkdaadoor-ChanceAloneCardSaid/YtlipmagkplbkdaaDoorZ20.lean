/- Texts of the proof that the statement of ChanceAlone holds, several in one. -/
import Derived.Test.YtlipmagkplbkdaaDoorZ18
import Derived.Test.YtlipmagkplbkdaaDoorZ19
import Derived.Test.YtlipmagkplbkdaaDoorZ16
import Derived.BigQuiet
import Derived.Test.YtlipmagkplbkdaaDoorZ8
set_option linter.unusedVariables false
set_option linter.unusedSimpArgs false
set_option linter.unusedSectionVars false
set_option maxRecDepth 100000
set_option maxHeartbeats 8000000
namespace Go.Proofs.YtlipmagkplbkdaaDoor
section
open Go Go.Conc Go.RowKit Go.Sort Go.BigFrame
noncomputable def aloB : Code := match Tryd.f10.body with | some c => c | none => .skip
theorem aloBody : Tryd.f10.body = some aloB := by kernel_rfl
noncomputable def aloR0 : Code := match aloB with | .seq a _ => a | _ => .skip
noncomputable def aloR1 : Code := match aloB with | .seq _ (.seq (.seq a _) _) => a | _ => .skip
noncomputable def aloO2 : Array Oper := match aloB with | .seq _ (.seq (.seq _ (.cond _ (.seq (.region _ a _) _) _)) _) => a | _ => #[]
noncomputable def aloR3 : Code := match aloB with | .seq _ (.seq _ (.seq a _)) => a | _ => .skip
noncomputable def aloO4 : Array Oper := match aloB with | .seq _ (.seq _ (.seq _ (.seq (.seq (.region _ a _) _) _))) => a | _ => #[]
noncomputable def aloL1 : Code := match aloB with | .seq _ (.seq _ (.seq _ (.seq (.seq _ (.block _ (.loop a))) _))) => a | _ => .skip
noncomputable def aloO13 : Array Oper := match aloB with | .seq _ (.seq _ (.seq _ (.seq _ (.seq (.region _ a _) _)))) => a | _ => #[]
noncomputable def aloO14 : Array Oper := match aloB with | .seq _ (.seq _ (.seq _ (.seq _ (.seq _ (.seq (.region _ a _) _))))) => a | _ => #[]
noncomputable def aloO15 : Array Oper := match aloB with | .seq _ (.seq _ (.seq _ (.seq _ (.seq _ (.seq _ (.seq (.seq (.region _ a _) _) _)))))) => a | _ => #[]
noncomputable def aloO16 : Array Oper := match aloB with | .seq _ (.seq _ (.seq _ (.seq _ (.seq _ (.seq _ (.seq (.seq _ (.cond _ (.seq (.region _ a _) _) _)) _)))))) => a | _ => #[]
noncomputable def aloO17 : Array Oper := match aloB with | .seq _ (.seq _ (.seq _ (.seq _ (.seq _ (.seq _ (.seq _ (.seq (.seq (.region _ a _) _) _))))))) => a | _ => #[]
noncomputable def aloO18 : Array Oper := match aloB with | .seq _ (.seq _ (.seq _ (.seq _ (.seq _ (.seq _ (.seq _ (.seq (.seq _ (.cond _ (.seq (.region _ a _) _) _)) _))))))) => a | _ => #[]
noncomputable def aloR19 : Code := match aloB with | .seq _ (.seq _ (.seq _ (.seq _ (.seq _ (.seq _ (.seq _ (.seq _ (.seq a _)))))))) => a | _ => .skip
noncomputable def aloO20 : Array Oper := match aloB with | .seq _ (.seq _ (.seq _ (.seq _ (.seq _ (.seq _ (.seq _ (.seq _ (.seq _ (.seq (.region _ a _) _))))))))) => a | _ => #[]
noncomputable def aloO5 : Array Oper := match aloL1 with | .seq (.seq (.region _ a _) _) _ => a | _ => #[]
noncomputable def aloR7 : Code := match aloL1 with | .seq _ (.seq (.block _ (.seq a _)) _) => a | _ => .skip
noncomputable def aloO8 : Array Oper := match aloL1 with | .seq _ (.seq (.block _ (.seq _ (.seq (.region _ a _) _))) _) => a | _ => #[]
noncomputable def aloL2 : Code := match aloL1 with | .seq _ (.seq (.block _ (.seq _ (.seq _ (.block _ (.loop a))))) _) => a | _ => .skip
noncomputable def aloO6 : Array Oper := match aloL1 with | .seq _ (.seq _ (.region _ a _)) => a | _ => #[]
noncomputable def aloO9 : Array Oper := match aloL2 with | .seq (.seq (.region _ a _) _) _ => a | _ => #[]
noncomputable def aloR11 : Code := match aloL2 with | .seq _ (.seq (.block _ (.seq a _)) _) => a | _ => .skip
noncomputable def aloO12 : Array Oper := match aloL2 with | .seq _ (.seq (.block _ (.seq _ (.cond _ (.seq (.region _ a _) _) _))) _) => a | _ => #[]
noncomputable def aloO10 : Array Oper := match aloL2 with | .seq _ (.seq _ (.region _ a _)) => a | _ => #[]
noncomputable def aloT : Code := .seq (.region 14 aloO14 false) (.seq (.seq (.region 15 aloO15 false) (.cond (.tmp 99) (.seq (.region 16 aloO16 false) .ret) .skip)) (.seq (.seq (.region 17 aloO17 false) (.cond (.tmp 101) (.seq (.region 18 aloO18 false) .ret) .skip)) (.seq aloR19 (.seq (.region 20 aloO20 false) .ret))))
theorem aloB_eq : aloB = .seq aloR0 (.seq (.seq aloR1 (.cond (.tmp 37) (.seq (.region 2 aloO2 false) .ret) .skip)) (.seq aloR3 (.seq (.seq (.region 4 aloO4 false) (.block 0 (.loop aloL1))) (.seq (.region 13 aloO13 false) aloT)))) := by kernel_rfl
theorem aloL1_eq : aloL1 = .seq (.seq (.region 5 aloO5 false) (.cond (.tmp 45) .skip (.exit 0))) (.seq (.block 1 (.seq aloR7 (.seq (.region 8 aloO8 false) (.block 2 (.loop aloL2))))) (.region 6 aloO6 false)) := by kernel_rfl
theorem aloL2_eq : aloL2 = .seq (.seq (.region 9 aloO9 false) (.cond (.tmp 54) .skip (.exit 2))) (.seq (.block 3 (.seq aloR11 (.cond (.tmp 80) (.seq (.region 12 aloO12 false) .ret) .skip))) (.region 10 aloO10 false)) := by kernel_rfl
theorem alokR0 : okC Tryd.prog gR sR aloR0 = true := by kernel_rfl
theorem alokR1 : okC Tryd.prog gR sR aloR1 = true := by kernel_rfl
theorem alokR3 : okC Tryd.prog gR sR aloR3 = true := by kernel_rfl
theorem alokR7 : okC Tryd.prog gR sR aloR7 = true := by kernel_rfl
theorem alokR11 : okC Tryd.prog gR sR aloR11 = true := by kernel_rfl
theorem aloz2 : List.range aloO2.size = [0, 1] := by kernel_rfl
theorem aloz4 : List.range aloO4.size = [0] := by kernel_rfl
theorem aloz5 : List.range aloO5.size = [0, 1, 2, 3] := by kernel_rfl
theorem aloz6 : List.range aloO6.size = [0, 1, 2] := by kernel_rfl
theorem aloz8 : List.range aloO8.size = [0] := by kernel_rfl
theorem aloz9 : List.range aloO9.size = [0, 1, 2] := by kernel_rfl
theorem aloz10 : List.range aloO10.size = [0, 1, 2] := by kernel_rfl
theorem aloz12 : List.range aloO12.size = [0, 1] := by kernel_rfl
theorem aloz13 : List.range aloO13.size = [0, 1, 2, 3, 4, 5, 6, 7, 8, 9] := by kernel_rfl
theorem aloz14 : List.range aloO14.size = [0, 1, 2, 3, 4, 5, 6, 7, 8] := by kernel_rfl
theorem aloz15 : List.range aloO15.size = [0, 1, 2] := by kernel_rfl
theorem aloz17 : List.range aloO17.size = [0, 1] := by kernel_rfl
theorem aloz18 : List.range aloO18.size = [0, 1] := by kernel_rfl
theorem aloz20 : List.range aloO20.size = [0, 1, 2, 3, 4, 5, 6, 7, 8, 9, 10] := by kernel_rfl
def bAlo : Frame := { (default : Frame) with fn := 10, kind := .normal }
theorem bAlo_fn : ∃ fn, Tryd.prog.funcs[bAlo.fn]? = some fn := ⟨Tryd.f10, Tryd.func10⟩
theorem alo_fin {ch : Option Nat} {a : Act} {v : World} {todo : List Item} (hd : a.defers = []) (h8 : slot a 8 (.bool true)) : MS Tryd.prog SR gR sR (· = .bool true) [] ch { bAlo.at a todo with mode := .returning } [] v := by
 refine MS.fin (x := .bool true) rfl hd rfl Tryd.func10 (fun τ d => ?_) (by kernel_rfl) rfl
 refine (results_one (p := 8) rfl _).trans ?_
 show Result.ok (a.tmps.getD 8 undef) _ = _
 rw [show (a.tmps.getD 8 undef) = _ from h8]
theorem MS.al {F : Value -> Prop} {ch : Option Nat} {b : Frame} {k : List Item} {cs : List Frame} {v v0 : World} {N : Nat} {a : Act} {f : Nat -> Option Value} {ops : Array Oper} {i d : Nat} {r : List Nat} {o : Oper} {ats : Array TypeId} (h : Sl N a f) (ho : ops[i]? = some o) (hw : Wn ops f o) (hd : o.dst = some d) (hN : Nat.blt d N = true) (hop : o.op = .call { callee := .value (.func 33), args := #[], argTypes := ats })
  (ht : TabAt v0) (hg : GAt v0) (k0 : Kp v0 v) (hk : ∀ ch a v, Sl N a (up f d (.bool true)) -> Kp v0 v -> MS Tryd.prog SR gR sR F [] ch (b.at a (.inRegion ops r :: k)) cs v) : MS Tryd.prog SR gR sR F [] ch (b.at a (.inRegion ops (i :: r) :: k)) cs v := by
 refine MS.en (xs := []) h ho hw hop (by simp) ⟨_, _, Tryd.func33, alBody, by kernel_rfl⟩ rfl (alive_ms (ht.kp k0 hg) (hg.kp k0) ?_)
 intro ch a' v' todo hd' q0 kk
 refine (MS.walk ctxR).bk (x := .bool true) h rfl rfl Tryd.func33 ho hd hN (fun τ t => (results_one (p := 0) rfl _).trans (congrArg (fun z => Result.ok z _) (show (a'.tmps.getD 0 undef) = _ from q0))) fun a h => hk ch a v' h (k0.trans kk)
theorem alo_al {ch : Option Nat} {v v0 : World} {a : Act} {k : List Item} {f : Nat -> Option Value} {O : Array Oper} {o o' : Oper} {n d : Nat} {ats : Array TypeId} (h : Sl 118 a f) (ht : TabAt v0) (hg : GAt v0) (k0 : Kp v0 v) (hz : List.range O.size = [0, 1]) (ho : O[0]? = some o) (hw : o.guard = none) (hd : o.dst = some d) (hN : Nat.blt d 118 = true) (hop : o.op = .call { callee := .value (.func 33), args := #[], argTypes := ats })
  (ho' : O[1]? = some o') (hq' : okOp Tryd.prog (okX gR sR) sR o'.op = true) (hw' : o'.guard = none) (hd' : o'.dst = some 8) (hop' : o'.op = .assign (.tmp d)) :
  MS Tryd.prog SR gR sR (· = .bool true) [] ch (bAlo.at a (.code (.seq (.region n O false) .ret) :: k)) [] v := by
 have hXX : ∀ ch, Walk Tryd.prog SR gR sR (MS Tryd.prog SR gR sR (· = .bool true) [] ch) := fun ch => MS.walk ctxR
 refine (hXX ch).seq ((hXX ch).region ?_)
 rw [hz]
 refine MS.al h ho (.inl hw) hd hN hop ht hg k0 fun ch a v h k0 => ?_
 refine (hXX ch).mv (x := .bool true) h ho' hq' (.inl hw') hd' (.inr hop') rfl (by show (bif Nat.beq d d then _ else _) = _; rw [Nat.beq_refl]; rfl) fun a h => ?_
 exact (hXX ch).done ((hXX ch).ret (alo_fin h.df (h.at_ 8 _ rfl)))
theorem alo_al2 {ch : Option Nat} {v v0 : World} {a : Act} {k : List Item} {f : Nat -> Option Value} (h : Sl 118 a f) (ht : TabAt v0) (hg : GAt v0) (k0 : Kp v0 v) : MS Tryd.prog SR gR sR (· = .bool true) [] ch (bAlo.at a (.code (.seq (.region 2 aloO2 false) .ret) :: k)) [] v :=
 alo_al h ht hg k0 aloz2 (show aloO2[0]? = some _ from rfl) rfl rfl rfl rfl (show aloO2[1]? = some _ from rfl) (by kernel_rfl) rfl rfl rfl
theorem alo_al12 {ch : Option Nat} {v v0 : World} {a : Act} {k : List Item} {f : Nat -> Option Value} (h : Sl 118 a f) (ht : TabAt v0) (hg : GAt v0) (k0 : Kp v0 v) : MS Tryd.prog SR gR sR (· = .bool true) [] ch (bAlo.at a (.code (.seq (.region 12 aloO12 false) .ret) :: k)) [] v :=
 alo_al h ht hg k0 aloz12 (show aloO12[0]? = some _ from rfl) rfl rfl rfl rfl (show aloO12[1]? = some _ from rfl) (by kernel_rfl) rfl rfl rfl
theorem alo_al18 {ch : Option Nat} {v v0 : World} {a : Act} {k : List Item} {f : Nat -> Option Value} (h : Sl 118 a f) (ht : TabAt v0) (hg : GAt v0) (k0 : Kp v0 v) : MS Tryd.prog SR gR sR (· = .bool true) [] ch (bAlo.at a (.code (.seq (.region 18 aloO18 false) .ret) :: k)) [] v :=
 alo_al h ht hg k0 aloz18 (show aloO18[0]? = some _ from rfl) rfl rfl rfl rfl (show aloO18[1]? = some _ from rfl) (by kernel_rfl) rfl rfl rfl
section
variable {ch : Option Nat} {RA WA BA : Option Addr} {rc wc bc i : Nat} {rs : List Rul} {ms : List Mod} {s n : Int} {v0 v : World} {a : Act} {kk : List Item} {rest : Code}
theorem alo_R7 (h : Sl 118 a (lk [(0, .slice RA rs.length rc), (1, .int .i64 s), (2, .slice WA ms.length wc), (3, .int .i64 n), (9, .slice BA rs.length bc), (10, .int .i64 (i : Nat))])) (hi : i < rs.length) (hown : Own pRul 60 v0.heap.size (Old v0) v (.slice BA rs.length bc) (halfZ rs i)) (k0 : Kp v0 v)
  (hk : ∀ a v, Sl 118 a (lk [(0, .slice RA rs.length rc), (1, .int .i64 s), (2, .slice WA ms.length wc), (3, .int .i64 n), (9, .slice BA rs.length bc), (10, .int .i64 (i : Nat))]) -> Own pRul 60 v0.heap.size (Old v0) v (.slice BA rs.length bc) (halfZ rs (i + 1)) -> Kp v0 v -> MS Tryd.prog SR gR sR (· = .bool true) [] ch (bAlo.at a (.code rest :: kk)) [] v) :
  MS Tryd.prog SR gR sR (· = .bool true) [] ch (bAlo.at a (.code (.seq aloR7 rest) :: kk)) [] v := by
 have hX : Walk Tryd.prog SR gR sR (MS Tryd.prog SR gR sR (· = .bool true) [] ch) := MS.walk ctxR
 have hxk : rs[i]? = some rs[i] := List.getElem?_eq_getElem hi
 obtain ⟨r, hr⟩ : ∃ r, rs[i] = r := ⟨_, rfl⟩
 rw [hr] at hxk
 obtain ⟨g, cs, F, rfl, hg1, hg2, hRr, hcell, hfz, hnc⟩ := hown.atZ (halfZ_get hxk) (by decide)
 obtain ⟨Ag, cg, Ao, co, hcs, ⟨_, _, _, _, hf5⟩, hgl, hol⟩ := hRr
 have o0 := hown.setZ (i := i) (j := 5) (u := .int .i64 0) (halfZ_get hxk) (by decide) (fun F w cs hh => pRul_set5 F w cs hh)
 rw [halfZ_next hxk] at o0
 have k1 := Kp.setL (g := g) (j := i * 7 + 5) (x := .int .i64 0) k0 hg1
 obtain ⟨j, rfl, hj⟩ := h.lit
 simp only [List.range, List.range.loop, List.map, hj 0 _ rfl, hj 1 _ rfl, hj 2 _ rfl, hj 3 _ rfl, hj 9 _ rfl, hj 10 _ rfl]
 clear hj h
 refine hX.seq (hX.wp ctxR rfl bAlo_fn alokR7 fun τ t => ?_)
 have k5 : (aT2 v τ t).cell? ⟨g, i * 7 + 5, none⟩ = some (.int .i64 r.weight) := hcell 5 _ (by rw [hcs]; rfl)
 have f5 : (aT2 v τ t).frozen? ⟨g, i * 7 + 5, none⟩ = false := hfz _
 have h0' : (0 : Int) <= (i : Int) := Int.natCast_nonneg _
 have h1' : (i : Int) < (rs.length : Int) := by omega
 obtain ⟨Hk, HX, O0, K1, Hown⟩ := HH5 hk hX o0 k1 hown; clear hk hX o0 k1 hown
 clear hxk hr hcell hfz hcs hgl hol hf5 k0
 dsimp only [aloR7, aloL1, aloB, Tryd.f10]
 go_wp2
 show MS Tryd.prog SR gR sR (· = .bool true) [] ch (bAlo.at ⟨_, []⟩ _) [] (aT2 (v.setCell ⟨g, i * 7 + 5, none⟩ (.int .i64 0)) τ t)
 refine HX.out.at2 _ _ _ τ t ?_
 exact Hk.out _ _ (Sl.of rfl rfl ⟨rfl, rfl, rfl, rfl, rfl, rfl, trivial⟩) O0.out K1.out
theorem alo_R11 {k : Nat} {r r' : Rul} {xs : List Rul} (h : Sl 118 a (lk [(0, .slice RA rs.length rc), (1, .int .i64 s), (2, .slice WA ms.length wc), (3, .int .i64 n), (9, .slice BA rs.length bc), (10, .int .i64 (i : Nat)), (11, .int .i64 (k : Nat))])) (hxl : xs.length = rs.length) (hi : xs[i]? = some r) (hj : xs[k]? = some r') (hown : Own pRul 60 v0.heap.size (Old v0) v (.slice BA rs.length bc) xs)
  (hk : ∀ a, Sl 118 a (lk [(0, .slice RA rs.length rc), (1, .int .i64 s), (2, .slice WA ms.length wc), (3, .int .i64 n), (9, .slice BA rs.length bc), (10, .int .i64 (i : Nat)), (11, .int .i64 (k : Nat)), (80, .bool (decide (r.name = r'.name) && decide (r.arity = r'.arity)))]) -> MS Tryd.prog SR gR sR (· = .bool true) [] ch (bAlo.at a (.code rest :: kk)) [] v) :
  MS Tryd.prog SR gR sR (· = .bool true) [] ch (bAlo.at a (.code (.seq aloR11 rest) :: kk)) [] v := by
 have hX : Walk Tryd.prog SR gR sR (MS Tryd.prog SR gR sR (· = .bool true) [] ch) := MS.walk ctxR
 have hil := (List.getElem?_eq_some_iff.1 hi).1
 have hjl := (List.getElem?_eq_some_iff.1 hj).1
 obtain ⟨g, cs, F, rfl, hg1, hg2, hRr, hcell, hfz, hnc⟩ := hown.atZ hi (by decide)
 obtain ⟨Ag, cg, Ao, co, hcs, ⟨q1, q2, _, _, _⟩, _, _⟩ := hRr
 obtain ⟨g', cs', F', hge, _, _, hRr', hcell', _, _⟩ := hown.atZ hj (by decide)
 obtain ⟨Ag', cg', Ao', co', hcs', ⟨p1, p2, _, _, _⟩, _, _⟩ := hRr'
 injection hge with hge
 injection hge with hge _ _
 subst hge
 obtain ⟨j, rfl, hj⟩ := h.lit
 simp only [List.range, List.range.loop, List.map, hj 0 _ rfl, hj 1 _ rfl, hj 2 _ rfl, hj 3 _ rfl, hj 9 _ rfl, hj 10 _ rfl, hj 11 _ rfl]
 clear hj h
 refine hX.seq (hX.wp ctxR rfl bAlo_fn alokR11 fun τ t => ?_)
 have x0 : (aT2 v τ t).cell? ⟨g, i * 7, none⟩ = some (.int .u8 r.name) := hcell 0 _ (by rw [hcs]; rfl)
 have x1 : (aT2 v τ t).cell? ⟨g, i * 7 + 1, none⟩ = some (.int .i64 r.arity) := hcell 1 _ (by rw [hcs]; rfl)
 have y0 : (aT2 v τ t).cell? ⟨g, k * 7, none⟩ = some (.int .u8 r'.name) := hcell' 0 _ (by rw [hcs']; rfl)
 have y1 : (aT2 v τ t).cell? ⟨g, k * 7 + 1, none⟩ = some (.int .i64 r'.arity) := hcell' 1 _ (by rw [hcs']; rfl)
 have h0' : (0 : Int) <= (i : Int) := Int.natCast_nonneg _
 have h1' : (i : Int) < (rs.length : Int) := by omega
 have h2' : (0 : Int) <= (k : Int) := Int.natCast_nonneg _
 have h3' : (k : Int) < (rs.length : Int) := by omega
 obtain ⟨Hk, HX, Hown⟩ := HH3 hk hX hown; clear hk hX hown
 clear hcell hcell' hfz hcs hcs' hi hj q1 q2 p1 p2
 dsimp only [aloR11, aloL2, aloL1, aloB, Tryd.f10]
 by_cases hn : r.name = r'.name
 ·have e0 : (r.name == r'.name) = true := by simp [hn]
  have d0 : decide (r.name = r'.name) = true := by simp [hn]
  rw [d0] at Hk
  by_cases ha : r.arity = r'.arity
  ·have e1 : (r.arity == r'.arity) = true := by simp [ha]
   have d1 : decide (r.arity = r'.arity) = true := by simp [ha]
   rw [d1] at Hk
   go_quiet (fail)
   show MS Tryd.prog SR gR sR (· = .bool true) [] ch (bAlo.at ⟨_, []⟩ _) [] (aT2 v τ (t + nq))
   refine HX.out.at2 _ _ _ τ (t + nq) ?_
   exact Hk.out _ (Sl.of rfl rfl ⟨rfl, rfl, rfl, rfl, rfl, rfl, rfl, rfl, trivial⟩)
  ·have e1 : (r.arity == r'.arity) = false := by simp [ha]
   have d1 : decide (r.arity = r'.arity) = false := by simp [ha]
   rw [d1] at Hk
   go_quiet (fail)
   show MS Tryd.prog SR gR sR (· = .bool true) [] ch (bAlo.at ⟨_, []⟩ _) [] (aT2 v τ (t + nq))
   refine HX.out.at2 _ _ _ τ (t + nq) ?_
   exact Hk.out _ (Sl.of rfl rfl ⟨rfl, rfl, rfl, rfl, rfl, rfl, rfl, rfl, trivial⟩)
 ·have e0 : (r.name == r'.name) = false := by simp [hn]
  have d0 : decide (r.name = r'.name) = false := by simp [hn]
  rw [d0] at Hk
  go_quiet (fail)
  show MS Tryd.prog SR gR sR (· = .bool true) [] ch (bAlo.at ⟨_, []⟩ _) [] (aT2 v τ (t + nq))
  refine HX.out.at2 _ _ _ τ (t + nq) ?_
  exact Hk.out _ (Sl.of rfl rfl ⟨rfl, rfl, rfl, rfl, rfl, rfl, rfl, rfl, trivial⟩)
end
end
section
open Go Go.Conc Go.RowKit
theorem halfZ_lt {rs : List Rul} {k j : Nat} {r : Rul} (hkj : k < j) (h : rs[k]? = some r) : (halfZ rs j)[k]? = some (zeroW r) := by
 have hk : k < rs.length := (List.getElem?_eq_some_iff.1 h).1
 unfold halfZ
 rw [List.getElem?_append_left (by rw [List.length_map, List.length_take]; omega), List.getElem?_map, List.getElem?_take, if_pos hkj, h]
 rfl
theorem uniqNA_next {rs : List Rul} {i : Nat} {r : Rul} (h : uniqNA rs i) (hr : rs[i]? = some r) (hu : ∀ b r', b < i -> rs[b]? = some r' -> apartNA r r') : uniqNA rs (i + 1) := fun a b x y hb ha hx hy => by
 by_cases e : a = i
 ·subst e
  rw [hr] at hx
  injection hx with hx
  subst hx
  exact hu b y hb hy
 ·exact h a b x y hb (by omega) hx hy
section
variable {ch : Option Nat} {RA WA BA : Option Addr} {rc wc bc : Nat} {rs : List Rul} {ms : List Mod} {s n : Int} {v0 : World} {kk : List Item}
theorem alo_in {i : Nat} {v : World} {r : Rul} (hil : i < 100) (hir : rs[i]? = some r) (hown : Own pRul 60 v0.heap.size (Old v0) v (.slice BA rs.length bc) (halfZ rs (i + 1))) (ht : TabAt v0) (hg : GAt v0) (k0 : Kp v0 v)
  (hk : (∀ b r', b < i -> rs[b]? = some r' -> apartNA r r') -> ∀ a, Sl 118 a (lk [(0, .slice RA rs.length rc), (1, .int .i64 s), (2, .slice WA ms.length wc), (3, .int .i64 n), (9, .slice BA rs.length bc), (10, .int .i64 (i : Nat))]) -> MS Tryd.prog SR gR sR (· = .bool true) [] ch (bAlo.at a kk) [] v) :
  ∀ (d k : Nat), k + d = i -> ∀ {a : Act}, Sl 118 a (lk [(0, .slice RA rs.length rc), (1, .int .i64 s), (2, .slice WA ms.length wc), (3, .int .i64 n), (9, .slice BA rs.length bc), (10, .int .i64 (i : Nat)), (11, .int .i64 (k : Nat))]) -> (∀ b r', b < k -> rs[b]? = some r' -> apartNA r r') -> MS Tryd.prog SR gR sR (· = .bool true) [] ch (bAlo.at a (.code aloL2 :: .inLoop aloL2 :: .inBlock 2 :: kk)) [] v
 | 0, k, hkd, a, h, hun => by
  have hX : Walk Tryd.prog SR gR sR (MS Tryd.prog SR gR sR (· = .bool true) [] ch) := MS.walk ctxR
  have elt : decide ((k : Int) < (i : Int)) = false := by simp; omega
  rw [aloL2_eq]
  refine hX.seq (hX.seq (hX.region ?_))
  rw [aloz9]
  refine hX.mv h rfl (by kernel_rfl) (.inl rfl) rfl (.inl rfl) rfl rfl fun a h => ?_
  refine hX.mv h rfl (by kernel_rfl) (.inl rfl) rfl (.inl rfl) rfl rfl fun a h => ?_
  refine hX.ls h rfl (by kernel_rfl) (.inl rfl) rfl rfl rfl Tryd.underlying3 rfl rfl elt fun a h => ?_
  refine hX.done (hX.cd (t := false) h rfl rfl (hX.exit (k' := kk) rfl ?_))
  have hki : k = i := by omega
  rw [hki] at hun
  exact hk hun _ (h.to ⟨rfl, rfl, rfl, rfl, rfl, rfl, trivial⟩)
 | d + 1, k, hkd, a, h, hun => by
  have hX : Walk Tryd.prog SR gR sR (MS Tryd.prog SR gR sR (· = .bool true) [] ch) := MS.walk ctxR
  have elt : decide ((k : Int) < (i : Int)) = true := by simp; omega
  have hil2 := (List.getElem?_eq_some_iff.1 hir).1
  have hjl : k < rs.length := by omega
  obtain ⟨r', hr'⟩ : ∃ r', rs[k]? = some r' := ⟨_, List.getElem?_eq_getElem hjl⟩
  rw [aloL2_eq]
  refine hX.seq (hX.seq (hX.region ?_))
  rw [aloz9]
  refine hX.mv h rfl (by kernel_rfl) (.inl rfl) rfl (.inl rfl) rfl rfl fun a h => ?_
  refine hX.mv h rfl (by kernel_rfl) (.inl rfl) rfl (.inl rfl) rfl rfl fun a h => ?_
  refine hX.ls h rfl (by kernel_rfl) (.inl rfl) rfl rfl rfl Tryd.underlying3 rfl rfl elt fun a h => ?_
  refine hX.done (hX.cd (t := true) h rfl rfl (hX.skip (hX.seq (hX.block (alo_R11 (h.to ⟨rfl, rfl, rfl, rfl, rfl, rfl, rfl, trivial⟩) (halfZ_len rs (i + 1)) (halfZ_lt (Nat.lt_succ_self i) hir) (halfZ_lt (by omega) hr') hown fun a h => ?_)))))
  by_cases hsame : r.name = r'.name /\ r.arity = r'.arity
  ·have e80 : (decide ((zeroW r).name = (zeroW r').name) && decide ((zeroW r).arity = (zeroW r').arity)) = true := by
    show (decide (r.name = r'.name) && decide (r.arity = r'.arity)) = true
    simp [hsame.1, hsame.2]
   rw [e80] at h
   exact hX.cd (t := true) h rfl rfl (alo_al12 h ht hg k0)
  ·have e80 : (decide ((zeroW r).name = (zeroW r').name) && decide ((zeroW r).arity = (zeroW r').arity)) = false := by
    show (decide (r.name = r'.name) && decide (r.arity = r'.arity)) = false
    rw [Bool.and_eq_false_iff]
    by_cases hn : r.name = r'.name
    ·exact .inr (by simpa using fun ha => hsame ⟨hn, ha⟩)
    ·exact .inl (by simpa using hn)
   rw [e80] at h
   refine hX.cd (t := false) h rfl rfl (hX.skip (hX.inBlock (hX.region ?_)))
   rw [aloz10]
   refine hX.mv h rfl (by kernel_rfl) (.inl rfl) rfl (.inl rfl) rfl rfl fun a h => ?_
   refine hX.ad h rfl (by kernel_rfl) (.inl rfl) rfl rfl rfl Tryd.underlying3 rfl rfl (by omega) fun a h => ?_
   refine hX.mv h rfl (by kernel_rfl) (.inl rfl) rfl (.inr rfl) rfl rfl fun a h => ?_
   refine hX.done (hX.again (alo_in hil hir hown ht hg k0 hk d (k + 1) (by omega) (h.to ⟨rfl, rfl, rfl, rfl, rfl, rfl, rfl, trivial⟩) fun b x hb hx => ?_))
   by_cases e : b = k
   ·subst e
    rw [hr'] at hx
    injection hx with hx
    subst hx
    exact hsame
   ·exact hun b x (by omega) hx
theorem alo_out (hl50 : rs.length <= 50) (ht : TabAt v0) (hg : GAt v0)
  (hk : uniqNA rs rs.length -> ∀ a v, Sl 118 a (lk [(0, .slice RA rs.length rc), (1, .int .i64 s), (2, .slice WA ms.length wc), (3, .int .i64 n), (9, .slice BA rs.length bc)]) -> Own pRul 60 v0.heap.size (Old v0) v (.slice BA rs.length bc) (halfZ rs rs.length) -> Kp v0 v -> MS Tryd.prog SR gR sR (· = .bool true) [] ch (bAlo.at a kk) [] v) :
  ∀ (d i : Nat), i + d = rs.length -> ∀ {a : Act} {v : World}, Sl 118 a (lk [(0, .slice RA rs.length rc), (1, .int .i64 s), (2, .slice WA ms.length wc), (3, .int .i64 n), (9, .slice BA rs.length bc), (10, .int .i64 (i : Nat))]) -> Own pRul 60 v0.heap.size (Old v0) v (.slice BA rs.length bc) (halfZ rs i) -> Kp v0 v -> uniqNA rs i -> MS Tryd.prog SR gR sR (· = .bool true) [] ch (bAlo.at a (.code aloL1 :: .inLoop aloL1 :: .inBlock 0 :: kk)) [] v
 | 0, i, hid, a, v, h, hown, k0, hun => by
  have hX : Walk Tryd.prog SR gR sR (MS Tryd.prog SR gR sR (· = .bool true) [] ch) := MS.walk ctxR
  have elt : decide ((i : Int) < (rs.length : Int)) = false := by simp; omega
  rw [aloL1_eq]
  refine hX.seq (hX.seq (hX.region ?_))
  rw [aloz5]
  refine hX.mv h rfl (by kernel_rfl) (.inl rfl) rfl (.inl rfl) rfl rfl fun a h => ?_
  refine hX.mv h rfl (by kernel_rfl) (.inl rfl) rfl (.inl rfl) rfl rfl fun a h => ?_
  refine hX.ln h rfl (by kernel_rfl) (.inl rfl) rfl rfl rfl Tryd.underlying22 rfl fun a h => ?_
  refine hX.ls h rfl (by kernel_rfl) (.inl rfl) rfl rfl rfl Tryd.underlying3 rfl rfl elt fun a h => ?_
  refine hX.done (hX.cd (t := false) h rfl rfl (hX.exit (k' := kk) rfl ?_))
  have hin : i = rs.length := by omega
  rw [hin] at hun hown
  exact hk hun _ _ (h.to ⟨rfl, rfl, rfl, rfl, rfl, trivial⟩) hown k0
 | d + 1, i, hid, a, v, h, hown, k0, hun => by
  have hX : Walk Tryd.prog SR gR sR (MS Tryd.prog SR gR sR (· = .bool true) [] ch) := MS.walk ctxR
  have elt : decide ((i : Int) < (rs.length : Int)) = true := by simp; omega
  rw [aloL1_eq]
  refine hX.seq (hX.seq (hX.region ?_))
  rw [aloz5]
  refine hX.mv h rfl (by kernel_rfl) (.inl rfl) rfl (.inl rfl) rfl rfl fun a h => ?_
  refine hX.mv h rfl (by kernel_rfl) (.inl rfl) rfl (.inl rfl) rfl rfl fun a h => ?_
  refine hX.ln h rfl (by kernel_rfl) (.inl rfl) rfl rfl rfl Tryd.underlying22 rfl fun a h => ?_
  refine hX.ls h rfl (by kernel_rfl) (.inl rfl) rfl rfl rfl Tryd.underlying3 rfl rfl elt fun a h => ?_
  obtain ⟨r, hr⟩ : ∃ r, rs[i]? = some r := ⟨_, List.getElem?_eq_getElem (by omega)⟩
  refine hX.done (hX.cd (t := true) h rfl rfl (hX.skip (hX.seq (hX.block (alo_R7 (h.to ⟨rfl, rfl, rfl, rfl, rfl, rfl, trivial⟩) (by omega) hown k0 fun a v h hown k0 => hX.seq (hX.region ?_))))))
  rw [aloz8]
  refine hX.mv h rfl (by kernel_rfl) (.inl rfl) rfl (.inr rfl) rfl rfl fun a h => ?_
  refine hX.done (hX.block (hX.loop (alo_in (by omega) hr hown ht hg k0 (fun hun2 a h => ?_) i 0 (by omega) (h.to ⟨rfl, rfl, rfl, rfl, rfl, rfl, rfl, trivial⟩) fun b r' hb => absurd hb (Nat.not_lt_zero _))))
  refine hX.inBlock (hX.region ?_)
  rw [aloz6]
  refine hX.mv h rfl (by kernel_rfl) (.inl rfl) rfl (.inl rfl) rfl rfl fun a h => ?_
  refine hX.ad h rfl (by kernel_rfl) (.inl rfl) rfl rfl rfl Tryd.underlying3 rfl rfl (by omega) fun a h => ?_
  refine hX.mv h rfl (by kernel_rfl) (.inl rfl) rfl (.inr rfl) rfl rfl fun a h => ?_
  exact hX.done (hX.again (alo_out hl50 ht hg hk d (i + 1) (by omega) (h.to ⟨rfl, rfl, rfl, rfl, rfl, rfl, trivial⟩) hown k0 (uniqNA_next hun hr hun2)))
end
section
variable {RA WA : Option Addr} {rc wc : Nat} {rs : List Rul} {ms : List Mod} {s n : Int} {v0 : World}
theorem info_rulL : (Tryd.prog.info? 60).map (fun i => (i.zero, i.size, i.bytes)) = some (some (.agg #[.int .u8 0, .int .i64 0, .int .u8 0, .int .u8 0, .slice none 0 0, .int .i64 0, .slice none 0 0]), 7, 80) := by kernel_rfl
theorem alo_head (hr : SlAt pRul (Old v0) v0 RA rc rs) (hm : SlAt pMod (Old v0) v0 WA wc ms) (hn : Fits .i64 n) (ht : TabAt v0) (hg : GAt v0)
  (hk : Small rs -> checkC rs = 0 -> ms.length <= 10000 -> (∀ m ∈ ms, m.args.length <= 1000) -> checkF ms = 0 -> 0 <= n -> n <= 4 -> ∀ a v BA bc, Sl 118 a (lk [(0, .slice RA rs.length rc), (1, .int .i64 s), (2, .slice WA ms.length wc), (3, .int .i64 n), (9, .slice BA rs.length bc)]) -> Own pRul 60 v0.heap.size (Old v0) v (.slice BA rs.length bc) rs -> Kp v0 v -> MS Tryd.prog SR gR sR (· = .bool true) [] none (bAlo.at a [.code (.seq (.seq (.region 4 aloO4 false) (.block 0 (.loop aloL1))) (.seq (.region 13 aloO13 false) aloT))]) [] v) :
  MS Tryd.prog SR gR sR (· = .bool true) [] none (Frame.enter Tryd.prog 10 #[.slice RA rs.length rc, .int .i64 s, .slice WA ms.length wc, .int .i64 n] .normal) [] v0 := by
 have hX : Walk Tryd.prog SR gR sR (MS Tryd.prog SR gR sR (· = .bool true) [] none) := MS.walk ctxR
 have hn64 := hn.i64
 rw [enter_tm [_, _, _, _] 114 Tryd.func10 aloBody (by kernel_rfl), aloB_eq]
 simp only [List.replicate, List.cons_append, List.nil_append]
 show MS Tryd.prog SR gR sR (· = .bool true) [] none (bAlo.at _ _) [] v0
 refine hX.seq (hX.wp ctxR rfl bAlo_fn alokR0 fun τ d => ?_)
 have k1 : Gw v0 (aT2 v0 τ d) := Gw.at2 _ _ _
 generalize aT2 v0 τ d = v1 at k1 ⊢
 obtain ⟨Hr, Hm, Hk, HX, Ht, Hg⟩ := HH6 hr hm hk hX ht hg; clear hr hm hk hX ht hg
 dsimp only [aloR0, aloB, Tryd.f10]
 go_wp2
 refine HX.out.seq (HX.out.seq (HX.out.wp ctxR rfl bAlo_fn alokR1 fun τ d => ?_))
 have k2 : Gw v0 (aT2 v1 τ d) := k1.trans (Gw.at2 _ _ _)
 generalize aT2 v1 τ d = v2 at k2 ⊢
 clear k1
 have g1 : Calls Tryd.prog 30 #[.slice RA rs.length rc, .slice none 0 0] v2 fun e w' => e = .returned (.bool (validB rs [])) /\ Below v2.heap.size v2 w' := valid_calls RA none rc 0 rs [] v2 (Hr.out.kp eqv_rul (Kp.gw k2)) slat_nil
 have kw : ∀ w, Below v2.heap.size v2 w -> Gw v0 w := fun w hb => k2.trans (Gw.of_below hb)
 have g2 : ∀ w, Below v2.heap.size v2 w -> Calls Tryd.prog 12 #[.slice WA ms.length wc] w fun e w' => e = .returned (.bool (greatF ms)) /\ w' = w := fun w hb => (great_calls WA wc ms w (Hm.out.kp eqv_mod (Kp.gw (kw w hb)))).mono fun e w' h => ⟨h.1, h.2.symm⟩
 have g3 : ∀ w, Below v2.heap.size v2 w -> Calls Tryd.prog 38 #[.slice WA ms.length wc] w fun e w' => e = .returned (.int .i64 (checkF ms)) /\ Below w.heap.size w w' := fun w hb => refCheck_calls WA wc ms w (Hm.out.kp eqv_mod (Kp.gw (kw w hb)))
 dsimp only [aloR1, aloB, Tryd.f10]
 cases hv : validB rs []
 case false =>
  rw [hv] at g1
  obtain ⟨G1, G2, G3, Hv, Kw⟩ := HH5 g1 g2 g3 hv kw; clear g1 g2 g3 hv kw
  go_wp2_with (go_at_call 30; refine G1.out.mono ?_; rintro e w5 ⟨rfl, hb5⟩)
  refine HX.out.cond (t := true) rfl rfl ?_
  exact alo_al2 (Sl.of (L := []) rfl rfl trivial) Ht.out Hg.out (Kp.gw (Kw.out _ hb5))
 rw [hv] at g1
 obtain ⟨e1, e2, _, _⟩ := validB_true hv
 have hsm := small_of e1
 have hl50 := hsm.l
 cases hgr : greatF ms
 case true =>
  rw [hgr] at g2
  obtain ⟨G1, G2, G3, Hv, Kw, Hgr, Hsm, E1, E2⟩ := HH9 g1 g2 g3 hv kw hgr hsm e1 e2; clear g1 g2 g3 hv kw hgr hsm e1 e2
  go_wp2_with (first | (go_at_call 30; refine G1.out.mono ?_; rintro e w5 ⟨rfl, hb5⟩) | (go_at_call 12; refine (G2.out _ hb5).mono ?_; rintro e w6 ⟨rfl, rfl⟩))
  refine HX.out.cond (t := true) rfl rfl ?_
  exact alo_al2 (Sl.of (L := []) rfl rfl trivial) Ht.out Hg.out (Kp.gw (Kw.out _ hb5))
 rw [hgr] at g2
 obtain ⟨hbd, hbd2⟩ := great_noC hgr
 by_cases hc : checkF ms = 0
 case neg =>
  have e0 : (checkF ms != 0) = true := by simp [hc]
  generalize checkF ms = x at g3 e0
  obtain ⟨G1, G2, G3, Hv, Kw, Hgr, Hsm, E1, E2, Hbd2⟩ := HH10 g1 g2 g3 hv kw hgr hsm e1 e2 hbd2; clear g1 g2 g3 hv kw hgr hsm e1 e2 hbd2
  clear hc
  go_wp2_with (first | (go_at_call 30; refine G1.out.mono ?_; rintro e w5 ⟨rfl, hb5⟩) | (go_at_call 12; refine (G2.out _ hb5).mono ?_; rintro e w6 ⟨rfl, rfl⟩) | (go_at_call 38; refine (G3.out _ hb5).mono ?_; rintro e w7 ⟨rfl, hb7⟩))
  refine HX.out.cond (t := true) rfl rfl ?_
  exact alo_al2 (Sl.of (L := []) rfl rfl trivial) Ht.out Hg.out (Kp.gw ((Kw.out _ hb5).trans (Gw.of_below hb7)))
 case pos =>
 rw [hc] at g3
 by_cases h0 : n < 0
 ·obtain ⟨G1, G2, G3, Hv, Kw, Hgr, Hsm, E1, E2, Hbd2, Hc⟩ := HH11 g1 g2 g3 hv kw hgr hsm e1 e2 hbd2 hc; clear g1 g2 g3 hv kw hgr hsm e1 e2 hbd2 hc
  go_wp2_with (first | (go_at_call 30; refine G1.out.mono ?_; rintro e w5 ⟨rfl, hb5⟩) | (go_at_call 12; refine (G2.out _ hb5).mono ?_; rintro e w6 ⟨rfl, rfl⟩) | (go_at_call 38; refine (G3.out _ hb5).mono ?_; rintro e w7 ⟨rfl, hb7⟩))
  refine HX.out.cond (t := true) rfl rfl ?_
  exact alo_al2 (Sl.of (L := []) rfl rfl trivial) Ht.out Hg.out (Kp.gw ((Kw.out _ hb5).trans (Gw.of_below hb7)))
 by_cases h4 : 4 < n
 ·obtain ⟨G1, G2, G3, Hv, Kw, Hgr, Hsm, E1, E2, Hbd2, Hc⟩ := HH11 g1 g2 g3 hv kw hgr hsm e1 e2 hbd2 hc; clear g1 g2 g3 hv kw hgr hsm e1 e2 hbd2 hc
  go_wp2_with (first | (go_at_call 30; refine G1.out.mono ?_; rintro e w5 ⟨rfl, hb5⟩) | (go_at_call 12; refine (G2.out _ hb5).mono ?_; rintro e w6 ⟨rfl, rfl⟩) | (go_at_call 38; refine (G3.out _ hb5).mono ?_; rintro e w7 ⟨rfl, hb7⟩))
  refine HX.out.cond (t := true) rfl rfl ?_
  exact alo_al2 (Sl.of (L := []) rfl rfl trivial) Ht.out Hg.out (Kp.gw ((Kw.out _ hb5).trans (Gw.of_below hb7)))
 obtain ⟨G1, G2, G3, Hv, Kw, Hgr, Hsm, E1, E2, Hbd2, Hc⟩ := HH11 g1 g2 g3 hv kw hgr hsm e1 e2 hbd2 hc; clear g1 g2 g3 hv kw hgr hsm e1 e2 hbd2 hc
 go_wp2_with (first | (go_at_call 30; refine G1.out.mono ?_; rintro e w5 ⟨rfl, hb5⟩) | (go_at_call 12; refine (G2.out _ hb5).mono ?_; rintro e w6 ⟨rfl, rfl⟩) | (go_at_call 38; refine (G3.out _ hb5).mono ?_; rintro e w7 ⟨rfl, hb7⟩))
 refine HX.out.cond (t := false) rfl (congrArg Value.bool (show (decide (n < 0) || decide (4 < n)) = false by simp; omega)) (HX.out.skip ?_)
 have k7 : Gw v0 w7 := (Kw.out _ hb5).trans (Gw.of_below hb7)
 clear hb5 hb7 Kw k2 G1 G2 G3
 refine HX.out.seq (HX.out.wp ctxR rfl bAlo_fn alokR3 fun τ d => ?_)
 have k8 : Gw v0 (aT2 w7 τ d) := k7.trans (Gw.at2 _ _ _)
 generalize aT2 w7 τ d = v8 at k8 ⊢
 clear k7
 have hem : Own pRul 60 v0.heap.size (Old v0) (v8.alloc (.cells #[] 60)) (.slice (some ⟨v8.heap.size, 0, none⟩) 0 0) ([] : List Rul) := Own.empty k8.1
 have k9 : Gw v0 (v8.alloc (.cells #[] 60)) := ⟨by have := k8.1; simp; omega, fun q hq => (Below.heap_alloc _ _ _ (Nat.lt_of_lt_of_le hq k8.1)).trans (k8.2 q hq)⟩
 have hsl : SlAt pRul (Old v0) (v8.alloc (.cells #[] 60)) RA rc rs := Hr.out.keep fun q hq => k9.2 q hq
 have hF1 : ∀ q, Old v0 q -> Old v0 q /\ q < (v8.alloc (.cells #[] 60)).heap.size /\ some q ≠ (Value.slice (some ⟨v8.heap.size, 0, none⟩) 0 0).ownBlock := fun q hq => by
  have hq2 : q < v0.heap.size := hq
  have hz := k8.1
  refine ⟨hq, by simp; omega, fun he => ?_⟩
  injection he with he
  simp at he
  omega
 have hn1 : (([] : List Rul) ++ rs).length = rs.length := rfl
 have hr1 : Room rs.length := room_of (by omega)
 have hba : v0.heap.size <= (v8.alloc (.cells #[] 60)).heap.size := k9.1
 obtain ⟨Hem, Hsl, HF1, Hn1, Hr1, Hba, K9⟩ := HH7 hem hsl hF1 hn1 hr1 hba k9; clear hem hsl hF1 hn1 hr1 hba k9
 dsimp only [aloR3, aloB, Tryd.f10]
 go_wp2_with (at_builtin; (refine wpList_catG (E := pRul) (xs := []) (v := .slice (some ⟨v8.heap.size, 0, none⟩) 0 0) (base := v0.heap.size) (G := Old v0) 22 60 (.agg #[.int .u8 0, .int .i64 0, .int .u8 0, .int .u8 0, .slice none 0 0, .int .i64 0, .slice none 0 0]) 80 (.tmp 39) (.tmp 40) rfl rfl Tryd.underlying22 info_rulL rfl (by decide) rfl Hem.out RA rc rs rfl (Old v0) Hsl.out HF1.out rs.length Hn1.out Hr1.out (by decide) Hba.out ?_); intro BA bc w9 hown9 hg9)
 have hown9 : Own pRul 60 v0.heap.size (Old v0) w9 (.slice BA rs.length bc) rs := hown9
 have k10 : Gw v0 w9 := ⟨Nat.le_trans K9.out.1 hg9.out.bel.size, fun q hq => (hg9.out.bel.block q hq).trans (K9.out.2 q hq)⟩
 exact Hk.out Hsm.out E2.out hbd Hbd2.out Hc.out (by omega) (by omega) _ _ BA bc (Sl.of rfl rfl ⟨rfl, rfl, rfl, rfl, rfl, trivial⟩) hown9 (Kp.gw k10)
end
end
section
open Go Go.Conc Go.RowKit
noncomputable def aloO19 : Array Oper := match aloR19 with | .region _ a _ => a | _ => #[]
theorem aloR19_eq : aloR19 = .region 19 aloO19 false := by kernel_rfl
theorem aloz19 : List.range aloO19.size = [0, 1, 2, 3, 4, 5, 6] := by kernel_rfl
theorem zero_eq9 : decide ((0 : Int) = 0) = true := by decide
section
variable {ch : Option Nat} {RA WA BA X Y : Option Addr} {rc wc bc xc yc : Nat} {rs bs : List Rul} {ms ql : List Mod} {ol : List Cel} {s n oe : Int} {v0 v : World} {a : Act}
theorem alo_end (h : Sl 118 a (lk [(12, .slice X ol.length xc), (14, .slice Y ql.length yc)])) (hol : ol.map (·.mod) = ql) (hc : cellsR ol = 0) (hsl : SlAt pCel (Old v) v X xc ol) (hsl2 : SlAt pMod (Old v) v Y yc ql) (ht : TabAt v0) (hg : GAt v0) (k0 : Kp v0 v) :
  MS Tryd.prog SR gR sR (· = .bool true) [] ch (bAlo.at a [.code (.seq aloR19 (.seq (.region 20 aloO20 false) .ret))]) [] v := by
 have hXX : ∀ ch, Walk Tryd.prog SR gR sR (MS Tryd.prog SR gR sR (· = .bool true) [] ch) := fun ch => MS.walk ctxR
 have hX := hXX ch
 have hargs4 : ∀ x ∈ ol, x.mod.args.length <= 1000 := fun x hx => by
  have h1 := (cells_fine hc).2.2
  have h2 := (fine_args (checkF_fine h1 x.mod (List.mem_map.2 ⟨x, hx, rfl⟩))).2
  omega
 have hword : wordR ol = (ql, 0) := by unfold wordR; rw [if_pos hc, hol]
 rw [aloR19_eq]
 refine hX.seq (hX.region ?_)
 rw [aloz19]
 refine hX.mv h rfl (by kernel_rfl) (.inl rfl) rfl (.inl rfl) rfl rfl fun a h => ?_
 refine hX.lo (ys := [.tmp 104]) (xs := [.slice X ol.length xc]) h (g := 19) rfl (by kernel_rfl) (.inl rfl) rfl rfl rfl (by kernel_rfl) (fun τ t => by kernel_rfl) fun τ d => ?_
 have hwc := word_calls X xc ol (aT2 v τ d) (hsl.kp eqv_cel (Kp.at2 v τ d)) hargs4
 rw [hword] at hwc
 refine hwc.mono ?_
 rintro e' w' ⟨U, uc, rfl, hu, hbe⟩
 have hu : SlAt pMod (Old w') w' U uc ql := hu
 have hsl2 := (hsl2.kp eqv_mod (Kp.at2 v τ d)).kp eqv_mod (Kp.below hbe)
 have k0 := (k0.trans (Kp.at2 v τ d)).trans (Kp.below hbe)
 refine ⟨_, rfl, fun a h => ?_⟩
 refine hX.mv h rfl (by kernel_rfl) (.inl rfl) rfl (.inl rfl) rfl rfl fun a h => ?_
 refine hX.ex h rfl (by kernel_rfl) (.inl rfl) rfl rfl rfl rfl rfl fun a h => ?_
 refine hX.ex h rfl (by kernel_rfl) (.inl rfl) rfl rfl rfl rfl rfl fun a h => ?_
 refine hX.mv h rfl (by kernel_rfl) (.inl rfl) rfl (.inr rfl) rfl rfl fun a h => ?_
 refine hX.mv h rfl (by kernel_rfl) (.inl rfl) rfl (.inr rfl) rfl rfl fun a h => ?_
 refine hX.done (hX.seq (hX.region ?_))
 rw [aloz20]
 refine hX.mv h rfl (by kernel_rfl) (.inl rfl) rfl (.inl rfl) rfl rfl fun a h => ?_
 refine hX.eq h rfl (by kernel_rfl) (.inl rfl) rfl rfl rfl Tryd.underlying27 rfl rfl zero_eq9 fun a h => ?_
 refine hX.mv h rfl (by kernel_rfl) (.inl rfl) rfl (.inl rfl) rfl rfl fun a h => ?_
 refine hX.mv h rfl (by kernel_rfl) (.inr ⟨_, _, _, _, rfl, show aloO20[2]? = some _ from rfl, rfl, rfl⟩) rfl (.inl rfl) rfl rfl fun a h => ?_
 refine hX.mv h rfl (by kernel_rfl) (.inr ⟨_, _, _, _, rfl, show aloO20[2]? = some _ from rfl, rfl, rfl⟩) rfl (.inl rfl) rfl rfl fun a h => ?_
 refine hX.lo (ys := [.tmp 111, .tmp 112]) (xs := [.slice U ql.length uc, .slice Y ql.length yc]) h (g := 25) rfl (by kernel_rfl) (.inr ⟨_, _, _, _, rfl, show aloO20[2]? = some _ from rfl, rfl, rfl⟩) rfl rfl rfl (by kernel_rfl) (fun τ t => by kernel_rfl) fun τ d => ?_
 have hsc := refSame_calls U Y uc yc ql ql (aT2 w' τ d) (hu.kp eqv_mod (Kp.at2 w' τ d)) (hsl2.kp eqv_mod (Kp.at2 w' τ d))
 unfold BoolPost at hsc
 rw [show (ql == ql) = true from by simp] at hsc
 refine hsc.mono ?_
 rintro e'' w'' ⟨rfl, hbe2⟩
 have k0 := (k0.trans (Kp.at2 w' τ d)).trans (Kp.below hbe2)
 refine ⟨_, rfl, fun a h => ?_⟩
 refine hX.pt h rfl (by kernel_rfl) (.inl rfl) rfl rfl rfl rfl rfl fun a h => ?_
 refine hX.mv h rfl (by kernel_rfl) (.inl rfl) rfl (.inl rfl) rfl rfl fun a h => ?_
 refine MS.al h rfl (.inr ⟨_, _, _, _, rfl, show aloO20[7]? = some _ from rfl, rfl, rfl⟩) rfl rfl rfl ht hg k0 fun ch a v h k0 => ?_
 have hX := hXX ch
 refine hX.pt h rfl (by kernel_rfl) (.inl rfl) rfl rfl rfl rfl rfl fun a h => ?_
 refine hX.mv h rfl (by kernel_rfl) (.inl rfl) rfl (.inr rfl) rfl rfl fun a h => ?_
 exact hX.done (hX.ret (alo_fin h.df (h.at_ 8 _ rfl)))
theorem alo_14 (h : Sl 118 a (lk [(2, .slice WA ms.length wc), (3, .int .i64 n), (9, .slice BA bs.length bc), (12, .slice X ol.length xc), (13, .int .i64 oe)])) (hq : rRunF bs ms n = (ql, oe)) (hol : ol.map (·.mod) = ql) (hc : oe = 0 -> cellsR ol = 0) (hsl : SlAt pCel (Old v) v X xc ol) (hb : SlAt pRul (Old v) v BA bc bs) (hm : SlAt pMod (Old v0) v0 WA wc ms) (hsmb : Small bs) (hn : Fits .i64 n) (ht : TabAt v0) (hg : GAt v0) (k0 : Kp v0 v) :
  MS Tryd.prog SR gR sR (· = .bool true) [] ch (bAlo.at a [.code aloT]) [] v := by
 have hXX : ∀ ch, Walk Tryd.prog SR gR sR (MS Tryd.prog SR gR sR (· = .bool true) [] ch) := fun ch => MS.walk ctxR
 have hX := hXX ch
 unfold aloT
 refine hX.seq (hX.region ?_)
 rw [aloz14]
 refine hX.mv h rfl (by kernel_rfl) (.inl rfl) rfl (.inl rfl) rfl rfl fun a h => ?_
 refine hX.mv h rfl (by kernel_rfl) (.inl rfl) rfl (.inl rfl) rfl rfl fun a h => ?_
 refine hX.mv h rfl (by kernel_rfl) (.inl rfl) rfl (.inl rfl) rfl rfl fun a h => ?_
 refine MS.en (xs := [.slice BA bs.length bc, .slice WA ms.length wc, .int .i64 n]) h rfl (.inl rfl) rfl (by kernel_rfl) ⟨_, _, Tryd.func39, rrBody, by kernel_rfl⟩ rfl ?_
 refine rr_ms (strict_cons h.df fun c hc => by cases hc) hb (hm.kp eqv_mod k0) hsmb hn ?_
 rw [hq]
 intro a' v' todo Y yc hd' q6 q7 hsl2 kk
 refine hX.bk (x := .tuple #[.slice Y ql.length yc, .int .i64 oe]) h rfl rfl Tryd.func39 rfl rfl rfl (fun τ t => res2 rfl q6 q7 _) fun a h => ?_
 have hsl := hsl.kp eqv_cel kk
 have k0 := k0.trans kk
 refine hX.mv h rfl (by kernel_rfl) (.inl rfl) rfl (.inl rfl) rfl rfl fun a h => ?_
 refine hX.ex h rfl (by kernel_rfl) (.inl rfl) rfl rfl rfl rfl rfl fun a h => ?_
 refine hX.ex h rfl (by kernel_rfl) (.inl rfl) rfl rfl rfl rfl rfl fun a h => ?_
 refine hX.mv h rfl (by kernel_rfl) (.inl rfl) rfl (.inr rfl) rfl rfl fun a h => ?_
 refine hX.mv h rfl (by kernel_rfl) (.inl rfl) rfl (.inr rfl) rfl rfl fun a h => ?_
 have ene : decide (oe ≠ oe) = false := by simp
 refine hX.done (hX.seq (hX.seq (hX.region ?_)))
 rw [aloz15]
 refine hX.mv h rfl (by kernel_rfl) (.inl rfl) rfl (.inl rfl) rfl rfl fun a h => ?_
 refine hX.mv h rfl (by kernel_rfl) (.inl rfl) rfl (.inl rfl) rfl rfl fun a h => ?_
 refine hX.nq h rfl (by kernel_rfl) (.inl rfl) rfl rfl rfl Tryd.underlying27 rfl rfl ene fun a h => ?_
 refine hX.done (hX.cd (t := false) h rfl rfl (hX.skip (hX.seq (hX.seq (hX.region ?_)))))
 rw [aloz17]
 by_cases h0 : oe = 0
 case neg =>
  have en2 : decide (oe ≠ 0) = true := by simp [h0]
  refine hX.mv h rfl (by kernel_rfl) (.inl rfl) rfl (.inl rfl) rfl rfl fun a h => ?_
  refine hX.nq h rfl (by kernel_rfl) (.inl rfl) rfl rfl rfl Tryd.underlying27 rfl rfl en2 fun a h => ?_
  exact hX.done (hX.cd (t := true) h rfl rfl (alo_al18 h ht hg k0))
 case pos =>
  subst h0
  have en2 : decide ((0 : Int) ≠ 0) = false := by decide
  refine hX.mv h rfl (by kernel_rfl) (.inl rfl) rfl (.inl rfl) rfl rfl fun a h => ?_
  refine hX.nq h rfl (by kernel_rfl) (.inl rfl) rfl rfl rfl Tryd.underlying27 rfl rfl en2 fun a h => ?_
  exact hX.done (hX.cd (t := false) h rfl rfl (hX.skip (alo_end (h.to ⟨rfl, rfl, trivial⟩) hol (hc rfl) hsl hsl2 ht hg k0)))
theorem alo_13 (h : Sl 118 a (lk [(0, .slice RA rs.length rc), (1, .int .i64 s), (2, .slice WA ms.length wc), (3, .int .i64 n), (9, .slice BA bs.length bc)])) (hp : pRun9 rs s ms n = (ol, oe)) (hq : rRunF bs ms n = (ql, oe)) (hol : ol.map (·.mod) = ql) (hc : oe = 0 -> cellsR ol = 0) (hr : SlAt pRul (Old v0) v0 RA rc rs) (hb : SlAt pRul (Old v) v BA bc bs) (hm : SlAt pMod (Old v0) v0 WA wc ms) (hsm : Small rs) (hsmb : Small bs) (hs : Fits .i64 s) (hn : Fits .i64 n) (hbd : ms.length <= 10000) (hbd2 : ∀ m ∈ ms, m.args.length <= 1000) (ht : TabAt v0) (hg : GAt v0) (k0 : Kp v0 v) :
  MS Tryd.prog SR gR sR (· = .bool true) [] ch (bAlo.at a [.code (.seq (.region 13 aloO13 false) aloT)]) [] v := by
 have hXX : ∀ ch, Walk Tryd.prog SR gR sR (MS Tryd.prog SR gR sR (· = .bool true) [] ch) := fun ch => MS.walk ctxR
 have hX := hXX ch
 refine hX.seq (hX.region ?_)
 rw [aloz13]
 refine hX.mv h rfl (by kernel_rfl) (.inl rfl) rfl (.inl rfl) rfl rfl fun a h => ?_
 refine hX.mv h rfl (by kernel_rfl) (.inl rfl) rfl (.inl rfl) rfl rfl fun a h => ?_
 refine hX.mv h rfl (by kernel_rfl) (.inl rfl) rfl (.inl rfl) rfl rfl fun a h => ?_
 refine hX.mv h rfl (by kernel_rfl) (.inl rfl) rfl (.inl rfl) rfl rfl fun a h => ?_
 refine MS.en (xs := [.slice RA rs.length rc, .int .i64 s, .slice WA ms.length wc, .int .i64 n]) h rfl (.inl rfl) rfl (by kernel_rfl) ⟨_, _, Tryd.func13, runBody, by kernel_rfl⟩ rfl ?_
 refine run_ms (hr.kp eqv_rul k0) (hm.kp eqv_mod k0) hsm hs hn hbd hbd2 (ht.kp k0 hg) (hg.kp k0) ?_
 rw [hp]
 intro ch a' v' todo X xc hd' q8 q9 hsl kk
 have hX := hXX ch
 refine hX.bk (x := .tuple #[.slice X ol.length xc, .int .i64 oe]) h rfl rfl Tryd.func13 rfl rfl rfl (fun τ t => res2 rfl q8 q9 _) fun a h => ?_
 have hb := hb.kp eqv_rul kk
 have k0 := k0.trans kk
 refine hX.mv h rfl (by kernel_rfl) (.inl rfl) rfl (.inl rfl) rfl rfl fun a h => ?_
 refine hX.ex h rfl (by kernel_rfl) (.inl rfl) rfl rfl rfl rfl rfl fun a h => ?_
 refine hX.ex h rfl (by kernel_rfl) (.inl rfl) rfl rfl rfl rfl rfl fun a h => ?_
 refine hX.mv h rfl (by kernel_rfl) (.inl rfl) rfl (.inr rfl) rfl rfl fun a h => ?_
 refine hX.mv h rfl (by kernel_rfl) (.inl rfl) rfl (.inr rfl) rfl rfl fun a h => ?_
 exact hX.done (alo_14 (h.to ⟨rfl, rfl, rfl, rfl, rfl, trivial⟩) hq hol hc hsl hb hm hsmb hn ht hg k0)
end
section
variable {RA WA : Option Addr} {rc wc : Nat} {rs : List Rul} {ms : List Mod} {s n : Int} {v0 : World}
theorem alo_ms (hr : SlAt pRul (Old v0) v0 RA rc rs) (hm : SlAt pMod (Old v0) v0 WA wc ms) (hs : Fits .i64 s) (hn : Fits .i64 n) (ht : TabAt v0) (hg : GAt v0) :
  MS Tryd.prog SR gR sR (· = .bool true) [] none (Frame.enter Tryd.prog 10 #[.slice RA rs.length rc, .int .i64 s, .slice WA ms.length wc, .int .i64 n] .normal) [] v0 := by
 refine alo_head hr hm hn ht hg fun hsm hc hbd hbd2 hf h0 h4 a v BA bc h hown k0 => ?_
 have hX : Walk Tryd.prog SR gR sR (MS Tryd.prog SR gR sR (· = .bool true) [] none) := MS.walk ctxR
 refine hX.seq (hX.seq (hX.region ?_))
 rw [aloz4]
 refine hX.mv h rfl (by kernel_rfl) (.inl rfl) rfl (.inr rfl) rfl rfl fun a h => ?_
 refine hX.done (hX.block (hX.loop (alo_out hsm.l ht hg (fun hu a v h hown k0 => ?_) rs.length 0 (by omega) (h.to ⟨rfl, rfl, rfl, rfl, rfl, rfl, trivial⟩) hown k0 fun a b r r' hb ha => absurd ha (Nat.not_lt_zero _))))
 rw [halfZ_all] at hown
 have hln : (rs.map zeroW).length = rs.length := List.length_map _
 have hsb : Small (rs.map zeroW) := ⟨by rw [hln]; exact hsm.l, fun x hx => by obtain ⟨y, hy, rfl⟩ := List.mem_map.1 hx; exact hsm.g y hy, fun x hx => by obtain ⟨y, hy, rfl⟩ := List.mem_map.1 hx; exact hsm.o y hy, fun x hx => by obtain ⟨y, hy, rfl⟩ := List.mem_map.1 hx; exact hsm.a y hy⟩
 have hb : SlAt pRul (Old v) v BA bc (rs.map zeroW) := hown.sl'.2.wide fun q hq => hq.2
 obtain ⟨l1, l2, l3⟩ := alone_law hc hu s hf h0 h4
 obtain ⟨⟨ol, oe⟩, hp⟩ : ∃ o, pRun9 rs s ms n = o := ⟨_, rfl⟩
 obtain ⟨⟨ql, qe⟩, hq⟩ : ∃ o, rRunF (rs.map zeroW) ms n = o := ⟨_, rfl⟩
 rw [hp, hq] at l1 l2
 rw [hp] at l3
 simp only at l1 l2 l3
 subst l1
 have h : Sl 118 a (lk [(0, .slice RA rs.length rc), (1, .int .i64 s), (2, .slice WA ms.length wc), (3, .int .i64 n), (9, .slice BA (rs.map zeroW).length bc)]) := by rw [hln]; exact h
 exact alo_13 h hp hq l2 l3 hr hb hm hsm hsb hs hn hbd hbd2 ht hg k0
end
end
end Go.Proofs.YtlipmagkplbkdaaDoor
