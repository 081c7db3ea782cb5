/- Texts of the proof that the statement of ChanceAlone holds, several in one. -/
import Derived.Test.YtlipmagkplbkdaaDoorZ7
import Derived.Test.YtlipmagkplbkdaaDoorZ12
set_option linter.unusedVariables false
set_option linter.unusedSimpArgs false
set_option linter.unusedSectionVars false
set_option maxRecDepth 100000
set_option maxHeartbeats 8000000
namespace Go.Proofs.YtlipmagkplbkdaaDoor
section
open Go Go.Conc Go.RowKit
theorem slAt_cut9 {α : Type} {E : Rp α} {F : Nat -> Prop} {w : World} {A : Option Addr} {cap : Nat} {xs : List α} (h : SlAt E F w A cap xs) {l : Nat} (h1 : l <= xs.length) :
  SlAt E F w (if cap = l then A else A.map (·.add (l * E.n))) (cap - l) (xs.drop l) := by
 have hle := h.le
 refine ⟨by rw [List.length_drop]; omega, by have := h.mx; omega, fun hn => ?_, fun i x hx => ?_⟩
 ·by_cases hc : cap = l
  ·omega
  ·rw [if_neg hc] at hn
   have := h.nil (by cases A with | none => rfl | some a => cases hn)
   omega
 ·have hi' := (List.getElem?_eq_some_iff.1 hx).1
  rw [List.length_drop] at hi'
  rw [List.getElem?_drop] at hx
  obtain ⟨b, o, cs, rfl, h3, h4, h5⟩ := h.el _ _ hx
  refine ⟨b, o + l * E.n, cs, ?_, h3, h4, fun j c hc => ?_⟩
  ·rw [if_neg (by omega)]
   rw [Option.map_some, Addr.add_lit]
  ·rw [Nat.add_assoc o, <- Nat.add_mul]; exact h5 j c hc
theorem slAt_take9 {α : Type} {E : Rp α} {F : Nat -> Prop} {w : World} {A : Option Addr} {cap : Nat} {xs : List α} (h : SlAt E F w A cap xs) (i : Nat) : SlAt E F w A cap (xs.take i) :=
 ⟨Nat.le_trans (List.length_take_le' i xs) h.le, h.mx, h.nil, fun j x hx => h.el j x (by
  rw [List.getElem?_take] at hx
  split at hx
  ·exact hx
  ·cases hx)⟩
def part9 (l : List Cel) (i : Nat) : List Cel := (l.drop (i * l.length / 3)).take ((i + 1) * l.length / 3 - i * l.length / 3)
theorem part9_ends (n i : Nat) (hi : i <= 2) : i * n / 3 <= (i + 1) * n / 3 /\ (i + 1) * n / 3 <= n := by
 rcases (by omega : i = 0 ∨ i = 1 ∨ i = 2) with rfl | rfl | rfl <;> omega
theorem part9_len (l : List Cel) (i : Nat) (hi : i <= 2) : (part9 l i).length = (i + 1) * l.length / 3 - i * l.length / 3 := by
 have := part9_ends l.length i hi
 unfold part9
 rw [List.length_take, List.length_drop]
 omega
theorem part9_join (l : List Cel) : part9 l 0 ++ (part9 l 1 ++ part9 l 2) = l := by
 have e1 : part9 l 2 = l.drop (2 * l.length / 3) := by
  unfold part9
  exact List.take_of_length_le (by rw [List.length_drop]; omega)
 have e2 : part9 l 1 ++ part9 l 2 = l.drop (1 * l.length / 3) := by
  rw [e1]
  unfold part9
  have hh : l.drop (2 * l.length / 3) = (l.drop (1 * l.length / 3)).drop ((1 + 1) * l.length / 3 - 1 * l.length / 3) := by
   rw [List.drop_drop]; congr 1; omega
  rw [hh, List.take_append_drop]
 rw [e2]
 unfold part9
 rw [show 0 * l.length / 3 = 0 by omega, List.drop_zero, show (0 + 1) * l.length / 3 - 0 = 1 * l.length / 3 by omega, List.take_append_drop]
theorem part9_mem {l : List Cel} {i : Nat} {x : Cel} (h : x ∈ part9 l i) : x ∈ l := by
 unfold part9 at h
 exact List.mem_of_mem_drop (List.mem_of_mem_take h)
def zs9 (rs : List Rul) (s : Int) (l : List Cel) (i : Nat) : List Cel := (manyR9 rs s (part9 l i)).1
def es9 (rs : List Rul) (s : Int) (l : List Cel) (i : Nat) : Int := (manyR9 rs s (part9 l i)).2
theorem es9_eq (rs : List Rul) (s : Int) (l : List Cel) (i : Nat) : es9 rs s l i = errL rs s (part9 l i) := by
 unfold es9 manyR9
 split
 ·rfl
 ·rename_i h; exact (Classical.not_not.1 h).symm
theorem zs9_ok {rs : List Rul} {s : Int} {l : List Cel} {i : Nat} (h : errL rs s (part9 l i) = 0) : zs9 rs s l i = allL rs s (part9 l i) := by
 unfold zs9; rw [manyR9_ok h]
theorem gather9 (rs : List Rul) (s : Int) (l : List Cel) : gather (zs9 rs s l) 3 = zs9 rs s l 0 ++ (zs9 rs s l 1 ++ zs9 rs s l 2) := by
 rw [gather_next, gather_next, gather_next]
 show ([] ++ _ ++ _) ++ _ = _
 rw [List.nil_append, List.append_assoc]
theorem gather9_len {rs : List Rul} (hv : RVal rs) (s : Int) {l : List Cel} (hl : l.length <= 2100) : ∀ i, i <= 3 -> (gather (zs9 rs s l) i).length <= 1000000 := by
 have hz : ∀ i, i <= 2 -> (zs9 rs s l i).length <= 2100 * 20 := fun i hi => by
  have h1 := manyR9_len hv s (part9 l i)
  have h2 := part9_len l i hi
  have h3 := part9_ends l.length i hi
  show (manyR9 rs s (part9 l i)).1.length <= _
  omega
 have g : ∀ i, i <= 3 -> (gather (zs9 rs s l) i).length <= i * (2100 * 20) := by
  intro i
  induction i with
  | zero => intro _; show ([] : List Cel).length <= _; simp
  | succ i ih =>
   intro hi
   rw [gather_next, List.length_append]
   have := ih (by omega)
   have := hz i (by omega)
   omega
 intro i hi
 have := g i hi
 omega
theorem stepOut9 (rs : List Rul) (s : Int) (l : List Cel) : stepOut (zs9 rs s l) (es9 rs s l) = stepR9 rs s l := by
 have hj := part9_join l
 have he : errL rs s l = if errL rs s (part9 l 0) ≠ 0 then errL rs s (part9 l 0) else if errL rs s (part9 l 1) ≠ 0 then errL rs s (part9 l 1) else errL rs s (part9 l 2) := by
  conv => lhs; rw [<- hj]
  rw [errL_app, errL_app]
 unfold stepOut
 rw [es9_eq, es9_eq, es9_eq]
 by_cases h0 : errL rs s (part9 l 0) ≠ 0
 ·rw [if_pos h0]
  rw [if_pos h0] at he
  rw [stepR9_err (by rw [he]; exact h0), he]
 ·rw [if_neg h0]
  rw [if_neg h0] at he
  by_cases h1 : errL rs s (part9 l 1) ≠ 0
  ·rw [if_pos h1]
   rw [if_pos h1] at he
   rw [stepR9_err (by rw [he]; exact h1), he]
  ·rw [if_neg h1]
   rw [if_neg h1] at he
   by_cases h2 : errL rs s (part9 l 2) ≠ 0
   ·rw [if_pos h2, stepR9_err (by rw [he]; exact h2), he]
   ·rw [if_neg h2]
    have hz : gather (zs9 rs s l) 3 = allL rs s l := by
     rw [gather9, zs9_ok (Classical.not_not.1 h0), zs9_ok (Classical.not_not.1 h1), zs9_ok (Classical.not_not.1 h2)]
     conv => rhs; rw [<- hj]
     rw [allL_app, allL_app]
    rw [hz]
    have e0 : errL rs s l = 0 := he.trans (Classical.not_not.1 h2)
    unfold stepR9
    rw [e0]
    rfl
theorem TabAt.kp {v v' : World} (h : TabAt v) (k : Kp v v') (hg : GAt v) : TabAt v' := by
 obtain ⟨g, hg1, hg2⟩ := hg
 unfold TabAt Lib.TabIs World.var? at h ⊢
 rw [hg1] at h ⊢
 simp only [Option.bind_some] at h ⊢
 cases hv : v.heap[g]? with
 | none => rw [hv] at h; cases h
 | some o =>
  rw [hv] at h
  cases o with
  | cells cs t fz =>
   have h := Option.some.inj h
   have hc : ∀ i, v.cell? ⟨g, i, none⟩ = cs[i]? := fun i => by unfold World.cell?; simp [hv]
   have hc' : ∀ i, v'.cell? ⟨g, i, none⟩ = cs[i]? := fun i => (k.cell ⟨g, i, none⟩ hg2).trans (hc i)
   have h0 : ∃ x, cs[0]? = some x := by rw [h]; exact ⟨_, rfl⟩
   obtain ⟨x, hx⟩ := h0
   have hx' := (hc' 0).trans hx
   unfold World.cell? at hx'
   cases hv' : v'.heap[g]? with
   | none => simp [hv'] at hx'
   | some o' =>
    cases o' with
    | cells cs' t' fz' =>
     have : ∀ i, cs'[i]? = cs[i]? := fun i => by
      have := hc' i
      unfold World.cell? at this
      simpa [hv'] using this
     show some cs' = _
     rw [show cs' = cs from Array.ext_getElem? this, h]
    | _ => simp [hv'] at hx'
  | _ => cases h
theorem GAt.kp {v v' : World} (h : GAt v) (k : Kp v v') : GAt v' := by
 obtain ⟨g, h1, h2⟩ := h
 exact ⟨g, h1, Nat.lt_of_lt_of_le h2 k.size⟩
theorem Gw.of {v v' : World} (h : Below v.heap.size v v') : Gw v v' := ⟨h.size, fun k hk => h.block k hk⟩
section
variable {F : Value -> Prop} {cs : List Frame}
theorem step9_ms {RA A : Option Addr} {rc cap : Nat} {rs : List Rul} {l : List Cel} {s : Int} {ch : Option Nat} {v : World} (hr : SlAt pRul (Old v) v RA rc rs) (hl : SlAt pCel (Old v) v A cap l) (hv : RVal rs) (hs : Fits .i64 s) (hc : cellsR l = 0) (ht : TabAt v) (hg : GAt v)
  (hk : ∀ C v', Kp v v' -> StepK F { (default : Frame) with fn := 40, kind := .normal } cs C [] v' (stepR9 rs s l)) :
  MS Tryd.prog SR gR sR F [] ch (Frame.enter Tryd.prog 40 #[.slice RA rs.length rc, .int .i64 s, .slice A l.length cap] .normal) cs v := by
 have hl2 := (cells_fine hc).1
 refine step_ms (zs := zs9 rs s l) (es := es9 rs s l) (by omega) hl.le (gather9_len hv s (by omega)) (fun i w hi hw => ?_) (fun C v' hk' => by rw [stepOut9]; exact hk C v' hk')
 obtain ⟨h1, h2⟩ := part9_ends l.length i hi
 have hsl := slAt_take9 (slAt_cut9 (hl.kp eqv_cel hw) (l := i * l.length / 3) (by omega)) ((i + 1) * l.length / 3 - i * l.length / 3)
 have hlen := part9_len l i hi
 have := many9_calls RA rc rs s _ _ (part9 l i) i w (hr.kp eqv_rul hw) hsl hs (fits_i64 (by omega)) hv (fun x hx => cells_each hc x (part9_mem hx)) (by omega) (ht.kp hw hg) (hg.kp hw)
 rw [hlen] at this
 refine this.mono ?_
 rintro e w' ⟨B, c, rfl, hs', hb⟩
 exact ⟨_, rfl, ⟨B, c, rfl, hs'⟩, Gw.of hb⟩
end
end
section
open Go Go.Conc Go.RowKit
noncomputable def runB : Code := match Tryd.f13.body with | some c => c | none => .skip
theorem runBody : Tryd.f13.body = some runB := by kernel_rfl
noncomputable def runR0 : Code := match runB with | .seq a _ => a | _ => .skip
noncomputable def runC1 : Code := match runB with | .seq _ (.seq a _) => a | _ => .skip
noncomputable def runR4 : Code := match runB with | .seq _ (.seq _ (.seq a _)) => a | _ => .skip
noncomputable def runC5 : Code := match runB with | .seq _ (.seq _ (.seq _ (.seq a _))) => a | _ => .skip
noncomputable def runC7 : Code := match runB with | .seq _ (.seq _ (.seq _ (.seq _ (.seq a _)))) => a | _ => .skip
noncomputable def runR9 : Code := match runB with | .seq _ (.seq _ (.seq _ (.seq _ (.seq _ (.seq (.seq a _) _))))) => a | _ => .skip
noncomputable def runL : Code := match runB with | .seq _ (.seq _ (.seq _ (.seq _ (.seq _ (.seq (.seq _ (.block _ (.loop a))) _))))) => a | _ => .skip
noncomputable def runT : Code := match runB with | .seq _ (.seq _ (.seq _ (.seq _ (.seq _ (.seq _ a))))) => a | _ => .skip
theorem runB_eq : runB = .seq runR0 (.seq runC1 (.seq runR4 (.seq runC5 (.seq runC7 (.seq (.seq runR9 (.block 0 (.loop runL))) runT))))) := by kernel_rfl
theorem okR0 : okC Tryd.prog gR sR runR0 = true := by kernel_rfl
theorem okC1 : okC Tryd.prog gR sR runC1 = true := by kernel_rfl
theorem okR4 : okC Tryd.prog gR sR runR4 = true := by kernel_rfl
theorem okC5 : okC Tryd.prog gR sR runC5 = true := by kernel_rfl
theorem okC7 : okC Tryd.prog gR sR runC7 = true := by kernel_rfl
theorem okR9 : okC Tryd.prog gR sR runR9 = true := by kernel_rfl
def bR : Frame := { (default : Frame) with fn := 13, kind := .normal }
theorem bR_fn : ∃ fn, Tryd.prog.funcs[bR.fn]? = some fn := ⟨Tryd.f13, Tryd.func13⟩
section
variable {F : Value -> Prop} {cs : List Frame}
def RunK (F : Value -> Prop) (cs : List Frame) (v0 : World) (r : List Cel × Int) : Prop := ∀ ch a' v' todo A c, a'.defers = [] -> slot a' 8 (.slice A r.1.length c) -> slot a' 9 (.int .i64 r.2) -> SlAt pCel (Old v') v' A c r.1 -> Kp v0 v' -> MS Tryd.prog SR gR sR F [] ch { bR.at a' todo with mode := .returning } cs v'
theorem RunK.err {v0 : World} {r : List Cel × Int} {x : Int} (h : RunK F cs v0 r) (hr : r = ([], x)) {ch : Option Nat} {a' : Act} {v' : World} {todo : List Item} (hd : a'.defers = []) (h8 : slot a' 8 (.slice none 0 0)) (h9 : slot a' 9 (.int .i64 x)) (k : Kp v0 v') : MS Tryd.prog SR gR sR F [] ch { bR.at a' todo with mode := .returning } cs v' := by
 subst hr
 exact h ch a' v' todo none 0 hd h8 h9 slat_nil k
theorem run_head {RA WA : Option Addr} {rc wc : Nat} {rs : List Rul} {ms : List Mod} {s n : Int} {ch : Option Nat} {v : World} (hr : SlAt pRul (Old v) v RA rc rs) (hm : SlAt pMod (Old v) v WA wc ms) (hsm : Small rs) (hn : Fits .i64 n) (hbd : ms.length <= 10000) (hbd2 : ∀ m ∈ ms, m.args.length <= 1000) (ht : TabAt v) (hg : GAt v)
  (hk : RunK F cs v (pRun9 rs s ms n))
  (hl : ∀ (N : Nat) a v' A c, N <= 30 -> n = (N : Int) -> checkC rs = 0 -> checkF ms = 0 -> a.defers = [] -> a.tmps.size = 47 -> slot a 0 (.slice RA rs.length rc) -> slot a 1 (.int .i64 s) -> slot a 11 (.slice A (beginL ms).length c) -> slot a 32 (.int .i64 N) -> slot a 33 (.int .i64 0) ->
   SlAt pCel (Old v') v' A c (beginL ms) -> Kp v v' -> MS Tryd.prog SR gR sR F [] ch (bR.at a [.code (.block 0 (.loop runL)), .code runT]) cs v') :
  MS Tryd.prog SR gR sR F [] ch (Frame.enter Tryd.prog 13 #[.slice RA rs.length rc, .int .i64 s, .slice WA ms.length wc, .int .i64 n] .normal) cs v := by
 have hX : Walk Tryd.prog SR gR sR (MS Tryd.prog SR gR sR F [] ch) := MS.walk ctxR
 have hn64 := hn.i64
 rw [enter_tm [_, _, _, _] 43 Tryd.func13 runBody (by kernel_rfl), runB_eq]
 simp only [List.replicate, List.cons_append, List.nil_append]
 show MS Tryd.prog SR gR sR F [] ch (bR.at _ _) cs v
 refine hX.seq (hX.wp ctxR rfl bR_fn okR0 fun τ d => ?_)
 have k1 : Kp v (aT2 v τ d) := Kp.at2 _ _ _
 generalize aT2 v τ d = v1 at k1 ⊢
 obtain ⟨Hr, Hm, Hk, Hl, HX, Ht, Hg⟩ := HH7 hr hm hk hl hX ht hg; clear hr hm hk hl hX ht hg
 dsimp only [runR0, runB, Tryd.f13]
 go_wp2
 refine HX.out.seq (HX.out.wp ctxR rfl bR_fn okC1 fun τ d => ?_)
 have k2 : Kp v (aT2 v1 τ d) := k1.trans (Kp.at2 _ _ _)
 generalize aT2 v1 τ d = v2 at k2 ⊢
 have hck := checkC_calls RA rc rs v2 (Hr.out.kp eqv_rul k2) hsm
 unfold IntPost at hck
 dsimp only [runC1, runB, Tryd.f13]
 by_cases hc : checkC rs = 0
 case neg =>
  have e0 : (checkC rs != 0) = true := by simp [hc]
  have hff : pRun9 rs s ms n = ([], checkC rs) := by unfold pRun9; rw [if_neg hc]
  generalize checkC rs = x at hck hff e0
  obtain ⟨Hck, Hff⟩ := HH2 hck hff; clear hck hff
  clear hc
  go_wp2_with (go_at_call 21; refine Hck.out.mono ?_; rintro e w1 ⟨rfl, hb1⟩)
  intro todo
  exact Hk.out.err Hff.out rfl rfl rfl (k2.trans (Kp.below hb1))
 case pos =>
 rw [hc] at hck
 obtain ⟨Hck, Hc⟩ := HH2 hck hc; clear hck hc
 go_wp2_with (go_at_call 21; refine Hck.out.mono ?_; rintro e w1 ⟨rfl, hb1⟩)
 have k3 := k2.trans (Kp.below hb1)
 refine HX.out.seq (HX.out.wp ctxR rfl bR_fn okR4 fun τ d => ?_)
 have k4 : Kp v (aT2 w1 τ d) := k3.trans (Kp.at2 _ _ _)
 generalize aT2 w1 τ d = v4 at k4 ⊢
 clear hb1 k3
 have hbg := begin_calls WA wc ms v4 (Hm.out.kp eqv_mod k4) hbd hbd2 (Ht.out.kp k4 Hg.out) (Hg.out.kp k4)
 dsimp only [runR4, runB, Tryd.f13]
 by_cases hf : checkF ms = 0
 case neg =>
  have e0 : (checkF ms != 0) = true := by simp [hf]
  have hff : pRun9 rs s ms n = ([], checkF ms) := by unfold pRun9; rw [if_pos Hc.out, if_neg hf]
  have hbr : beginR ms = ([], checkF ms) := by unfold beginR; rw [if_neg hf]
  rw [hbr] at hbg
  unfold BeginPost at hbg
  generalize checkF ms = x at hbg hff e0 hbr
  clear hf
  obtain ⟨Hbg, Hff, Hbr⟩ := HH3 hbg hff hbr; clear hbg hff hbr
  go_wp2_with (go_at_call 17; refine Hbg.out.mono ?_; rintro e w2 ⟨A2, c2, rfl, hs2, hb2⟩)
  have k5 := k4.trans (Kp.below hb2)
  clear hb2 hs2
  refine HX.out.seq (HX.out.wp ctxR rfl bR_fn okC5 fun τ d => ?_)
  have k6 : Kp v (aT2 w2 τ d) := k5.trans (Kp.at2 _ _ _)
  generalize aT2 w2 τ d = v6 at k6 ⊢
  dsimp only [runC5, runB, Tryd.f13]
  go_wp2
  intro todo
  exact Hk.out.err Hff.out rfl rfl rfl k6
 case pos =>
 have hbr : beginR ms = (beginL ms, 0) := by unfold beginR; rw [if_pos hf]
 obtain ⟨L, hL⟩ : ∃ L, beginL ms = L := ⟨_, rfl⟩
 rw [hL] at hbr
 rw [hbr] at hbg
 unfold BeginPost at hbg
 obtain ⟨Hbg, Hbr, Hf, HL⟩ := HH4 hbg hbr hf hL; clear hbg hbr hf hL
 go_wp2_with (go_at_call 17; refine Hbg.out.mono ?_; rintro e w2 ⟨A2, c2, rfl, hs2, hb2⟩)
 have hs2 : SlAt pCel (Old w2) w2 A2 c2 L := hs2
 have k5 := k4.trans (Kp.below hb2)
 clear hb2
 have Hs2 := HH1 hs2; clear hs2
 refine HX.out.seq (HX.out.wp ctxR rfl bR_fn okC5 fun τ d => ?_)
 have k6 : Kp v (aT2 w2 τ d) := k5.trans (Kp.at2 _ _ _)
 have hs3 := Hs2.out.kp eqv_cel (Kp.at2 w2 τ d)
 generalize aT2 w2 τ d = v6 at k6 hs3 ⊢
 have Hs3 := HH1 hs3; clear hs3
 dsimp only [runC5, runB, Tryd.f13]
 go_wp2
 refine HX.out.seq (HX.out.wp ctxR rfl bR_fn okC7 fun τ d => ?_)
 have k7 : Kp v (aT2 v6 τ d) := k6.trans (Kp.at2 _ _ _)
 have hs4 := Hs3.out.kp eqv_cel (Kp.at2 v6 τ d)
 generalize aT2 v6 τ d = v7 at k7 hs4 ⊢
 have Hs4 := HH1 hs4; clear hs4
 dsimp only [runC7, runB, Tryd.f13]
 by_cases hbad1 : n < 0
 ·have hff : pRun9 rs s ms n = ([], 2) := by unfold pRun9; rw [if_pos Hc.out, if_pos Hf.out, if_pos (.inl hbad1)]
  have Hff := HH1 hff; clear hff
  go_wp2
  intro todo
  exact Hk.out.err Hff.out rfl rfl rfl k7
 by_cases hbad2 : 30 < n
 ·have hff : pRun9 rs s ms n = ([], 2) := by unfold pRun9; rw [if_pos Hc.out, if_pos Hf.out, if_pos (.inr hbad2)]
  have Hff := HH1 hff; clear hff
  go_wp2
  intro todo
  exact Hk.out.err Hff.out rfl rfl rfl k7
 obtain ⟨N, rfl⟩ := Int.eq_ofNat_of_zero_le (show 0 <= n by omega)
 have hN : N <= 30 := by omega
 go_wp2
 refine HX.out.seq (HX.out.seq (HX.out.wp ctxR rfl bR_fn okR9 fun τ d => ?_))
 have k8 : Kp v (aT2 v7 τ d) := k7.trans (Kp.at2 _ _ _)
 have hs5 := Hs4.out.kp eqv_cel (Kp.at2 v7 τ d)
 generalize aT2 v7 τ d = v8 at k8 hs5 ⊢
 have Hs5 := HH1 hs5; clear hs5
 dsimp only [runR9, runB, Tryd.f13]
 go_wp2
 have hlL : (beginL ms).length = L.length := by rw [HL.out]
 refine Hl.out N _ v8 A2 c2 hN rfl Hc.out Hf.out rfl rfl rfl rfl ?_ rfl rfl ?_ k8
 ·rw [hlL]; rfl
 ·rw [HL.out]; exact Hs5.out
end
end
section
open Go Go.Conc Go.RowKit
section
variable {P : Program} {o : Oper} {w : World}
theorem run_extractX (ev : Operand -> Value) (x : Operand) (i : Nat) (ho : o.op = .extract x i) {vs : Array Value} {u : Value} (hx : ev x = .tuple vs) (hi : vs[i]? = some u) : (execOp ev o).run P w = .ok (.value u) w := by
 unfold execOp
 simp only [ho, hx, Instr.extract, hi]
 rfl
theorem results_two {fn : Func} {p q : Tmp} (h : fn.results = #[.tmp p, .tmp q]) (tmps : Array Value) : (results fn tmps).run P w = .ok (.tuple #[tmps.getD p undef, tmps.getD q undef]) w := by
 simp only [results, h]
 simp [Sem.run_bind, Result.andThen]
theorem results_one {fn : Func} {p : Tmp} (h : fn.results = #[.tmp p]) (tmps : Array Value) : (results fn tmps).run P w = .ok (tmps.getD p undef) w := by
 simp only [results, h]
 simp [Sem.run_bind, Result.andThen]
end
def lk : List (Nat × Value) -> Nat -> Option Value
 | [], _ => none
 | p :: l, i => bif Nat.beq i p.1 then some p.2 else lk l i
def up (f : Nat -> Option Value) (d : Nat) (x : Value) : Nat -> Option Value := fun i => bif Nat.beq i d then some x else f i
def evS (f : Nat -> Option Value) : Operand -> Option Value
 | .tmp j => f j
 | .const c => some c
 | _ => none
structure Sl (N : Nat) (a : Act) (f : Nat -> Option Value) : Prop where
 sz : a.tmps.size = N
 df : a.defers = []
 at_ : ∀ i x, f i = some x -> slot a i x
def Al (f : Nat -> Option Value) : List (Nat × Value) -> Prop
 | [] => True
 | p :: l => f p.1 = some p.2 /\ Al f l
section
variable {N : Nat} {a : Act} {f : Nat -> Option Value}
theorem lk_al : ∀ {L : List (Nat × Value)}, Al f L -> ∀ i x, lk L i = some x -> f i = some x
 | [], _, i, x, h => by cases h
 | p :: l, ⟨h1, h2⟩, i, x, h => by
  have h : (bif Nat.beq i p.1 then some p.2 else lk l i) = some x := h
  cases hb : Nat.beq i p.1
  ·rw [hb] at h; exact lk_al h2 i x h
  ·rw [hb] at h
   have : i = p.1 := Nat.eq_of_beq_eq_true hb
   rw [this, h1]; exact h
theorem Sl.to (h : Sl N a f) {L : List (Nat × Value)} (hL : Al f L) : Sl N a (lk L) := ⟨h.sz, h.df, fun i x hi => h.at_ i x (lk_al hL i x hi)⟩
def Ats (a : Act) : List (Nat × Value) -> Prop
 | [] => True
 | p :: l => slot a p.1 p.2 /\ Ats a l
theorem Ats.get : ∀ {L : List (Nat × Value)}, Ats a L -> ∀ i x, lk L i = some x -> slot a i x
 | [], _, i, x, h => by cases h
 | p :: l, ⟨h1, h2⟩, i, x, h => by
  have h : (bif Nat.beq i p.1 then some p.2 else lk l i) = some x := h
  cases hb : Nat.beq i p.1
  ·rw [hb] at h; exact h2.get i x h
  ·rw [hb] at h
   have e : i = p.1 := Nat.eq_of_beq_eq_true hb
   injection h with h
   rw [e, <- h]; exact h1
theorem Sl.of {L : List (Nat × Value)} (hz : a.tmps.size = N) (hd : a.defers = []) (h : Ats a L) : Sl N a (lk L) := ⟨hz, hd, h.get⟩
theorem Sl.put (h : Sl N a f) {d : Nat} {x : Value} (hd : Nat.blt d N = true) : Sl N (a.put (some d) x) (up f d x) := by
 have hd : d < N := Nat.le_of_ble_eq_true hd
 refine ⟨size_put h.sz, h.df, fun i y hi => ?_⟩
 have hi : (bif Nat.beq i d then some x else f i) = some y := hi
 cases hb : Nat.beq i d
 ·rw [hb] at hi
  exact slot_ne (h.at_ i y hi) fun e => by rw [e, Nat.beq_refl] at hb; cases hb
 ·rw [hb] at hi
  have e : i = d := Nat.eq_of_beq_eq_true hb
  injection hi with hi
  rw [e, <- hi]
  exact slot_same (by rw [h.sz]; exact hd)
theorem Sl.ev (h : Sl N a f) {y : Operand} {x : Value} (hy : evS f y = some x) : a.eval y = x := by
 cases y with
 | tmp j => exact h.at_ j x hy
 | const c => injection hy
 | _ => cases hy
theorem Sl.map (h : Sl N a f) : ∀ {ys : List Operand} {xs : List Value}, ys.map (evS f) = xs.map some -> ys.map a.eval = xs
 | [], [], _ => rfl
 | y :: ys, x :: xs, hh => by
  injection hh with h1 h2
  rw [List.map_cons, h.ev h1, h.map h2]
 | [], _ :: _, hh => by cases hh
 | _ :: _, [], hh => by cases hh
theorem Sl.args (h : Sl N a f) {ys : List Operand} {xs : List Value} (hh : ys.map (evS f) = xs.map some) : ys.toArray.map a.eval = xs.toArray := by
 rw [List.map_toArray, h.map hh]
theorem Sl.lit (h : Sl N a f) : ∃ j : Nat -> Value, a = { tmps := ((List.range N).map j).toArray, defers := [] } /\ ∀ i x, f i = some x -> j i = x := by
 refine ⟨fun i => a.tmps.getD i undef, ?_, fun i x hi => h.at_ i x hi⟩
 obtain ⟨⟨tm⟩, df⟩ := a
 obtain rfl : df = [] := h.df
 have hz : tm.length = N := by simpa using h.sz
 refine congrArg (fun t => ({ tmps := t, defers := [] } : Act)) (congrArg List.toArray ?_)
 apply List.ext_getElem?
 intro i
 by_cases hi : i < N
 ·rw [List.getElem?_map, List.getElem?_range hi, Option.map_some, List.getElem?_eq_getElem (by omega)]
  show _ = some ((⟨tm⟩ : Array Value).getD i undef)
  rw [Array.getD_eq_getD_getElem?, List.getElem?_toArray, List.getElem?_eq_getElem (by omega)]
  rfl
 ·rw [List.getElem?_eq_none (by omega), List.getElem?_eq_none (by simp; omega)]
def Wn (ops : Array Oper) (f : Nat -> Option Value) (o : Oper) : Prop := o.guard = none ∨ ∃ j t o' d, o.guard = some (j, t) /\ ops[j]? = some o' /\ o'.dst = some d /\ f d = some (.bool t)
theorem yieldedS {ops : Array Oper} {o' : Oper} {j d : Nat} {t : Bool} (hj : ops[j]? = some o') (hd : o'.dst = some d) (hs : slot a d (.bool t)) : yielded ops a.tmps j = some t := by
 unfold yielded
 have hs' : a.tmps.getD d undef = .bool t := hs
 rw [Array.getD_eq_getD_getElem?] at hs'
 cases h : a.tmps[d]? with
 | none => rw [h] at hs'; cases hs'
 | some x =>
  rw [h] at hs'
  have hs' : x = .bool t := hs'
  subst hs'
  rw [hj]
  show (match o'.dst.bind (fun x => a.tmps[x]?) with | some (.bool b) => some b | _ => none) = some t
  rw [hd]
  show (match a.tmps[d]? with | some (.bool b) => some b | _ => none) = some t
  rw [h]
theorem Wn.wanted {ops : Array Oper} {o : Oper} (hw : Wn ops f o) (h : Sl N a f) : Region.wanted o (yielded ops a.tmps) = true := by
 unfold Region.wanted
 rcases hw with hg | ⟨j, t, o', d, hg, hj, hd, hf⟩
 ·rw [hg]
 ·rw [hg]
  show (yielded ops a.tmps j == some t) = true
  rw [yieldedS hj hd (h.at_ _ _ hf)]
  cases t <;> rfl
def Wx (ops : Array Oper) (f : Nat -> Option Value) (o : Oper) : Prop := ∃ j t o' d u, o.guard = some (j, t) /\ ops[j]? = some o' /\ o'.dst = some d /\ f d = some (.bool u) /\ (u == t) = false
theorem Wx.passed {ops : Array Oper} {o : Oper} (hw : Wx ops f o) (h : Sl N a f) : Region.wanted o (yielded ops a.tmps) = false := by
 unfold Region.wanted
 obtain ⟨j, t, o', d, u, hg, hj, hd, hf, hu⟩ := hw
 rw [hg]
 show (yielded ops a.tmps j == some t) = false
 rw [yieldedS hj hd (h.at_ _ _ hf)]
 simpa using hu
end
section
variable {P : Program} {o : Oper} {w : World}
theorem run_pickTS (ev : Operand -> Value) (c x y : Operand) (ho : o.op = .pick c x y) (hc : ev c = .bool true) {u : Value} (hx : ev x = u) : (execOp ev o).run P w = .ok (.value u) w := by
 unfold execOp
 simp only [ho, hc, hx]
 rfl
theorem run_eqlS (ev : Operand -> Value) (t u : TypeId) (x y : Operand) (ho : o.op = .binOp .eql t x y u) (hu : P.underlying t = some (.int .i64)) {m n : Int} (hx : ev x = .int .i64 m) (hy : ev y = .int .i64 n) : (execOp ev o).run P w = .ok (.value (.bool (decide (m = n)))) w := by
 unfold execOp
 simp only [ho, hx, hy]
 simp [go_sem, run_underlying hu]
 rfl
end
section
variable {X : Sit} {b : Frame} {k : List Item} {cs : List Frame} {v v' : World} {N : Nat} {a : Act} {f : Nat -> Option Value} {ops : Array Oper} {i d : Nat} {r : List Nat} {o : Oper} {x : Value}
theorem Walk.st (hX : Walk Tryd.prog SR gR sR X) (h : Sl N a f) (ho : ops[i]? = some o) (hq : okOp Tryd.prog (okX gR sR) sR o.op = true) (hw : Wn ops f o) (hd : o.dst = some d) (hN : Nat.blt d N = true) (he : ∀ w, (execOp a.eval o).run Tryd.prog w = .ok (.value x) w)
  (hk : ∀ a, Sl N a (up f d x) -> X (b.at a (.inRegion ops r :: k)) cs v) : X (b.at a (.inRegion ops (i :: r) :: k)) cs v :=
 hX.value (v' := v) ho hq (hw.wanted h) (fun τ t => he _) (by rw [hd]; exact hk _ (h.put hN))
theorem Walk.mv (hX : Walk Tryd.prog SR gR sR X) (h : Sl N a f) {y : Operand} (ho : ops[i]? = some o) (hq : okOp Tryd.prog (okX gR sR) sR o.op = true) (hw : Wn ops f o) (hd : o.dst = some d) (hop : o.op = .move y ∨ o.op = .assign y) (hN : Nat.blt d N = true) (hv : evS f y = some x)
  (hk : ∀ a, Sl N a (up f d x) -> X (b.at a (.inRegion ops r :: k)) cs v) : X (b.at a (.inRegion ops (i :: r) :: k)) cs v :=
 hX.st h ho hq hw hd hN (fun w => run_moveX _ y hop (h.ev hv)) hk
theorem Walk.ps (hX : Walk Tryd.prog SR gR sR X) (h : Sl N a f) (ho : ops[i]? = some o) (hq : okOp Tryd.prog (okX gR sR) sR o.op = true) (hw : Wx ops f o) (hd : o.dst = some d) (hN : Nat.blt d N = true)
  (hk : ∀ a, Sl N a (up f d undef) -> X (b.at a (.inRegion ops r :: k)) cs v) : X (b.at a (.inRegion ops (i :: r) :: k)) cs v :=
 hX.pass ho hq (hw.passed h) (by rw [hd]; exact hk _ (h.put hN))
theorem Walk.ex (hX : Walk Tryd.prog SR gR sR X) (h : Sl N a f) {y : Operand} {vs : Array Value} {m : Nat} (ho : ops[i]? = some o) (hq : okOp Tryd.prog (okX gR sR) sR o.op = true) (hw : Wn ops f o) (hd : o.dst = some d) (hop : o.op = .extract y m) (hN : Nat.blt d N = true) (hv : evS f y = some (.tuple vs)) (hx : vs[m]? = some x)
  (hk : ∀ a, Sl N a (up f d x) -> X (b.at a (.inRegion ops r :: k)) cs v) : X (b.at a (.inRegion ops (i :: r) :: k)) cs v :=
 hX.st h ho hq hw hd hN (fun w => run_extractX _ y m hop (h.ev hv) hx) hk
theorem Walk.pt (hX : Walk Tryd.prog SR gR sR X) (h : Sl N a f) {c y z : Operand} (ho : ops[i]? = some o) (hq : okOp Tryd.prog (okX gR sR) sR o.op = true) (hw : Wn ops f o) (hd : o.dst = some d) (hop : o.op = .pick c y z) (hN : Nat.blt d N = true) (hc : evS f c = some (.bool true)) (hv : evS f y = some x)
  (hk : ∀ a, Sl N a (up f d x) -> X (b.at a (.inRegion ops r :: k)) cs v) : X (b.at a (.inRegion ops (i :: r) :: k)) cs v :=
 hX.st h ho hq hw hd hN (fun w => run_pickTS _ c y z hop (h.ev hc) (h.ev hv)) hk
theorem Walk.ls (hX : Walk Tryd.prog SR gR sR X) (h : Sl N a f) {y z : Operand} {t u : TypeId} {m n : Int} {e : Bool} (ho : ops[i]? = some o) (hq : okOp Tryd.prog (okX gR sR) sR o.op = true) (hw : Wn ops f o) (hd : o.dst = some d) (hop : o.op = .binOp .lss t y z u) (hN : Nat.blt d N = true) (hu : Tryd.prog.underlying t = some (.int .i64)) (hy : evS f y = some (.int .i64 m)) (hz : evS f z = some (.int .i64 n)) (he : decide (m < n) = e)
  (hk : ∀ a, Sl N a (up f d (.bool e)) -> X (b.at a (.inRegion ops r :: k)) cs v) : X (b.at a (.inRegion ops (i :: r) :: k)) cs v :=
 hX.st h ho hq hw hd hN (fun w => (run_lss _ t u y z hop hu (h.ev hy) (h.ev hz)).trans (by rw [he])) hk
theorem Walk.nq (hX : Walk Tryd.prog SR gR sR X) (h : Sl N a f) {y z : Operand} {t u : TypeId} {m n : Int} {e : Bool} (ho : ops[i]? = some o) (hq : okOp Tryd.prog (okX gR sR) sR o.op = true) (hw : Wn ops f o) (hd : o.dst = some d) (hop : o.op = .binOp .neq t y z u) (hN : Nat.blt d N = true) (hu : Tryd.prog.underlying t = some (.int .i64)) (hy : evS f y = some (.int .i64 m)) (hz : evS f z = some (.int .i64 n)) (he : decide (m ≠ n) = e)
  (hk : ∀ a, Sl N a (up f d (.bool e)) -> X (b.at a (.inRegion ops r :: k)) cs v) : X (b.at a (.inRegion ops (i :: r) :: k)) cs v :=
 hX.st h ho hq hw hd hN (fun w => (run_neq _ t u y z hop hu (h.ev hy) (h.ev hz)).trans (by rw [he])) hk
theorem Walk.eq (hX : Walk Tryd.prog SR gR sR X) (h : Sl N a f) {y z : Operand} {t u : TypeId} {m n : Int} {e : Bool} (ho : ops[i]? = some o) (hq : okOp Tryd.prog (okX gR sR) sR o.op = true) (hw : Wn ops f o) (hd : o.dst = some d) (hop : o.op = .binOp .eql t y z u) (hN : Nat.blt d N = true) (hu : Tryd.prog.underlying t = some (.int .i64)) (hy : evS f y = some (.int .i64 m)) (hz : evS f z = some (.int .i64 n)) (he : decide (m = n) = e)
  (hk : ∀ a, Sl N a (up f d (.bool e)) -> X (b.at a (.inRegion ops r :: k)) cs v) : X (b.at a (.inRegion ops (i :: r) :: k)) cs v :=
 hX.st h ho hq hw hd hN (fun w => (run_eqlS _ t u y z hop hu (h.ev hy) (h.ev hz)).trans (by rw [he])) hk
theorem Walk.ad (hX : Walk Tryd.prog SR gR sR X) (h : Sl N a f) {y z : Operand} {t u : TypeId} {m : Nat} (ho : ops[i]? = some o) (hq : okOp Tryd.prog (okX gR sR) sR o.op = true) (hw : Wn ops f o) (hd : o.dst = some d) (hop : o.op = .binOp .add t y z u) (hN : Nat.blt d N = true) (hu : Tryd.prog.underlying t = some (.int .i64)) (hy : evS f y = some (.int .i64 m)) (hz : evS f z = some (.int .i64 1)) (hm : m < 1000000)
  (hk : ∀ a, Sl N a (up f d (.int .i64 ((m + 1 : Nat) : Int))) -> X (b.at a (.inRegion ops r :: k)) cs v) : X (b.at a (.inRegion ops (i :: r) :: k)) cs v :=
 hX.st h ho hq hw hd hN (fun w => (run_add _ t u y z hop hu (h.ev hy) (h.ev hz) (by omega)).trans (by rw [show ((m + 1 : Nat) : Int) = (m : Int) + 1 by omega])) hk
theorem Walk.ln (hX : Walk Tryd.prog SR gR sR X) (h : Sl N a f) {y : Operand} {t e : TypeId} {A : Option Addr} {n c : Nat} (ho : ops[i]? = some o) (hq : okOp Tryd.prog (okX gR sR) sR o.op = true) (hw : Wn ops f o) (hd : o.dst = some d) (hop : o.op = .call { callee := .builtin .len, args := #[y], argTypes := #[t] }) (hN : Nat.blt d N = true) (hu : Tryd.prog.underlying t = some (.slice e)) (hy : evS f y = some (.slice A n c))
  (hk : ∀ a, Sl N a (up f d (.int .i64 (n : Nat))) -> X (b.at a (.inRegion ops r :: k)) cs v) : X (b.at a (.inRegion ops (i :: r) :: k)) cs v :=
 hX.st h ho hq hw hd hN (fun w => run_len _ t e y hop hu (h.ev hy)) hk
theorem Walk.cd (hX : Walk Tryd.prog SR gR sR X) (h : Sl N a f) {c : Operand} {y z : Code} {t : Bool} (hc : okX gR sR c = true) (hv : evS f c = some (.bool t)) (hk : X (b.at a (.code (if t then y else z) :: k)) cs v) : X (b.at a (.code (.cond c y z) :: k)) cs v := hX.cond hc (h.ev hv) hk
theorem Walk.bk (hX : Walk Tryd.prog SR gR sR X) (h : Sl N a f) {fr : Frame} {fn : Func} (hm : fr.mode = .returning) (hkd : fr.kind = .normal) (hf : Tryd.prog.funcs[fr.fn]? = some fn) (ho : ops[i]? = some o) (hd : o.dst = some d) (hN : Nat.blt d N = true)
  (hr : ∀ τ t, (results fn fr.tmps).run Tryd.prog (aT2 v τ t) = .ok x (aT2 v τ t)) (hk : ∀ a, Sl N a (up f d x) -> X (b.at a (.inRegion ops r :: k)) cs v) : X fr (b.at a (.inRegion ops (i :: r) :: k) :: cs) v :=
 hX.back' hm hkd hf ho hr (by rw [hd]; exact hk _ (h.put hN))
theorem res2 {fn : Func} {p q : Tmp} {a : Act} {A : Option Addr} {n c : Nat} {e : Int} (hf : fn.results = #[.tmp p, .tmp q]) (hp : slot a p (.slice A n c)) (hq : slot a q (.int .i64 e)) (w : World) : (results fn a.tmps).run Tryd.prog w = .ok (.tuple #[.slice A n c, .int .i64 e]) w := by
 refine (results_two hf _).trans ?_
 rw [show (a.tmps.getD p undef) = _ from hp, show (a.tmps.getD q undef) = _ from hq]
theorem MS.en {F : Value -> Prop} {ch : Option Nat} (h : Sl N a f) {g : FuncId} {ys : List Operand} {ats : Array TypeId} {xs : List Value} (ho : ops[i]? = some o) (hw : Wn ops f o) (hop : o.op = .call { callee := .value (.func g), args := ys.toArray, argTypes := ats }) (ha : ys.toArray.all (okX gR sR) = true)
  (hfn : ∃ fn c, Tryd.prog.funcs[g]? = some fn /\ fn.body = some c /\ (fn.name == "runtime.NumGoroutine") = false) (hv : ys.map (evS f) = xs.map some) (hk : MS Tryd.prog SR gR sR F [] ch (Frame.enter Tryd.prog g xs.toArray .normal) (b.at a (.inRegion ops (i :: r) :: k) :: cs) v) :
  MS Tryd.prog SR gR sR F [] ch (b.at a (.inRegion ops (i :: r) :: k)) cs v :=
 MS.enter ctxR ho (hw.wanted h) hop ha hfn (by rw [h.args hv]; exact hk)
theorem Walk.lo (hX : Walk Tryd.prog SR gR sR X) (h : Sl N a f) {g : FuncId} {ys : List Operand} {xs : List Value} (ho : ops[i]? = some o) (hq : okOp Tryd.prog (okX gR sR) sR o.op = true) (hw : Wn ops f o) (hd : o.dst = some d) (hN : Nat.blt d N = true) (hv : ys.map (evS f) = xs.map some) (hg : LR.contains g = true)
  (he : ∀ τ t, (execOp a.eval o).run Tryd.prog (aT2 v τ t) = .ok (.enter g (ys.toArray.map a.eval)) (aT2 v τ t)) (hk : ∀ τ t, Calls Tryd.prog g xs.toArray (aT2 v τ t) fun e w => ∃ x, e = .returned x /\ ∀ a, Sl N a (up f d x) -> X (b.at a (.inRegion ops r :: k)) cs w) :
  X (b.at a (.inRegion ops (i :: r) :: k)) cs v :=
 hX.calls ctxR ho hq (hw.wanted h) hg (fun τ t => by rw [he, h.args hv]) fun τ t => (hk τ t).mono fun e w ⟨x, e1, h1⟩ => ⟨x, e1, by rw [hd]; exact h1 _ (h.put hN)⟩
end
end
section
open Go Go.Conc Go.RowKit
noncomputable def rop10 : Array Oper := match runL with | .seq (.region _ o _) _ => o | _ => #[]
noncomputable def rop11 : Array Oper := match runL with | .seq _ (.seq _ (.seq (.block _ (.seq (.region _ o _) _)) _)) => o | _ => #[]
noncomputable def rop12 : Array Oper := match runL with | .seq _ (.seq _ (.seq (.block _ (.seq _ (.seq (.region _ o _) _))) _)) => o | _ => #[]
noncomputable def rop13 : Array Oper := match runL with | .seq _ (.seq _ (.seq (.block _ (.seq _ (.seq _ (.cond _ (.seq (.region _ o _) _) _)))) _)) => o | _ => #[]
noncomputable def rop14 : Array Oper := match runL with | .seq _ (.seq _ (.seq _ (.region _ o _))) => o | _ => #[]
noncomputable def rop15 : Array Oper := match runT with | .seq (.region _ o _) _ => o | _ => #[]
theorem runL_eq : runL = .seq (.region 10 rop10 false) (.seq (.cond (.tmp 34) .skip (.exit 0)) (.seq (.block 1 (.seq (.region 11 rop11 false) (.seq (.region 12 rop12 false) (.cond (.tmp 43) (.seq (.region 13 rop13 false) .ret) .skip)))) (.region 14 rop14 false))) := by kernel_rfl
theorem runT_eq : runT = .seq (.region 15 rop15 false) .ret := by kernel_rfl
theorem rz10 : List.range rop10.size = [0] := by kernel_rfl
theorem rz11 : List.range rop11.size = [0, 1, 2, 3, 4, 5, 6, 7, 8] := by kernel_rfl
theorem rz12 : List.range rop12.size = [0, 1] := by kernel_rfl
theorem rz13 : List.range rop13.size = [0, 1, 2] := by kernel_rfl
theorem rz14 : List.range rop14.size = [0, 1] := by kernel_rfl
theorem rz15 : List.range rop15.size = [0, 1, 2] := by kernel_rfl
section
variable {F : Value -> Prop} {cs : List Frame} {kk : List Item}
theorem run_round {RA A : Option Addr} {rc c N k : Nat} {rs : List Rul} {cur : List Cel} {s : Int} {ch : Option Nat} {a : Act} {v v0 : World} (h : Sl 47 a (lk [(0, .slice RA rs.length rc), (1, .int .i64 s), (11, .slice A cur.length c), (32, .int .i64 (N : Nat)), (33, .int .i64 (k : Nat))])) (hkN : k < N) (hr : SlAt pRul (Old v) v RA rc rs) (hl : SlAt pCel (Old v) v A c cur)
  (hv : RVal rs) (hs : Fits .i64 s) (hc : cellsR cur = 0) (ht : TabAt v) (hg : GAt v) (k0 : Kp v0 v)
  (herr : (stepR9 rs s cur).2 ≠ 0 -> RunK F cs v0 ([], (stepR9 rs s cur).2))
  (hk : (stepR9 rs s cur).2 = 0 -> ∀ C a v' A' c', Sl 47 a (lk [(0, .slice RA rs.length rc), (1, .int .i64 s), (11, .slice A' (stepR9 rs s cur).1.length c'), (32, .int .i64 (N : Nat)), (33, .int .i64 ((k + 1 : Nat) : Int))]) -> SlAt pCel (Old v') v' A' c' (stepR9 rs s cur).1 -> Kp v v' -> MS Tryd.prog SR gR sR F [] (some C) (bR.at a kk) cs v') (hN : N <= 30) :
  MS Tryd.prog SR gR sR F [] ch (bR.at a (.code runL :: kk)) cs v := by
 have hXX : ∀ ch, Walk Tryd.prog SR gR sR (MS Tryd.prog SR gR sR F [] ch) := fun ch => MS.walk ctxR
 have hX := hXX ch
 have elt : decide ((k : Int) < (N : Int)) = true := by simp; omega
 rw [runL_eq]
 refine hX.seq (hX.region ?_)
 rw [rz10]
 refine hX.ls h rfl (by kernel_rfl) (.inl rfl) rfl rfl rfl Tryd.underlying3 rfl rfl elt fun a h => ?_
 refine hX.done (hX.seq (hX.cd (t := true) h rfl rfl (hX.skip (hX.seq (hX.block (hX.seq (hX.region ?_)))))))
 rw [rz11]
 refine hX.mv h rfl (by kernel_rfl) (.inl rfl) rfl (.inl rfl) rfl rfl fun a h => ?_
 refine hX.mv h rfl (by kernel_rfl) (.inl rfl) rfl (.inl rfl) rfl rfl fun a h => ?_
 refine hX.mv h rfl (by kernel_rfl) (.inl rfl) rfl (.inl rfl) rfl rfl fun a h => ?_
 refine MS.en (xs := [.slice RA rs.length rc, .int .i64 s, .slice A cur.length c]) h rfl (.inl rfl) rfl (by kernel_rfl) ⟨_, _, Tryd.func40, stepBody, by kernel_rfl⟩ rfl ?_
 refine step9_ms hr hl hv hs hc ht hg fun C v1 k1 => ?_
 intro a' v' todo A' c' hd' hsz' q6 q7 hsl' hgw
 have hX := hXX (some C)
 have k2 : Kp v v' := k1.trans (Kp.gw hgw)
 obtain ⟨⟨ol, oe⟩, hoo⟩ : ∃ o, stepR9 rs s cur = o := ⟨_, rfl⟩
 rw [hoo] at q6 q7 hsl' herr hk
 simp only at q6 q7 hsl' herr hk
 refine hX.bk (x := .tuple #[.slice A' ol.length c', .int .i64 oe]) h rfl rfl Tryd.func40 rfl rfl rfl (fun τ t => res2 rfl q6 q7 _) fun a h => ?_
 refine hX.mv h rfl (by kernel_rfl) (.inl rfl) rfl (.inl rfl) rfl rfl fun a h => ?_
 refine hX.ex h rfl (by kernel_rfl) (.inl rfl) rfl rfl rfl rfl rfl fun a h => ?_
 refine hX.ex h rfl (by kernel_rfl) (.inl rfl) rfl rfl rfl rfl rfl fun a h => ?_
 refine hX.mv h rfl (by kernel_rfl) (.inl rfl) rfl (.inr rfl) rfl rfl fun a h => ?_
 refine hX.mv h rfl (by kernel_rfl) (.inl rfl) rfl (.inr rfl) rfl rfl fun a h => ?_
 refine hX.done (hX.seq (hX.region ?_))
 rw [rz12]
 by_cases h0 : oe = 0
 case neg =>
  have ene : decide (oe ≠ 0) = true := by simp [h0]
  refine hX.mv h rfl (by kernel_rfl) (.inl rfl) rfl (.inl rfl) rfl rfl fun a h => ?_
  refine hX.nq h rfl (by kernel_rfl) (.inl rfl) rfl rfl rfl Tryd.underlying27 rfl rfl ene fun a h => ?_
  refine hX.done (hX.cd (t := true) h rfl rfl (hX.seq (hX.region ?_)))
  rw [rz13]
  refine hX.mv h rfl (by kernel_rfl) (.inl rfl) rfl (.inl rfl) rfl rfl fun a h => ?_
  refine hX.mv h rfl (by kernel_rfl) (.inl rfl) rfl (.inr rfl) rfl rfl fun a h => ?_
  refine hX.mv h rfl (by kernel_rfl) (.inl rfl) rfl (.inr rfl) rfl rfl fun a h => ?_
  exact hX.done (hX.ret ((herr h0).err rfl h.df (h.at_ 8 _ rfl) (h.at_ 9 _ rfl) (k0.trans k2)))
 case pos =>
  subst h0
  have ene : decide ((0 : Int) ≠ 0) = false := by decide
  refine hX.mv h rfl (by kernel_rfl) (.inl rfl) rfl (.inl rfl) rfl rfl fun a h => ?_
  refine hX.nq h rfl (by kernel_rfl) (.inl rfl) rfl rfl rfl Tryd.underlying27 rfl rfl ene fun a h => ?_
  refine hX.done (hX.cd (t := false) h rfl rfl (hX.skip (hX.inBlock (hX.region ?_))))
  rw [rz14]
  refine hX.ad h rfl (by kernel_rfl) (.inl rfl) rfl rfl rfl Tryd.underlying3 rfl rfl (by omega) fun a h => ?_
  refine hX.mv h rfl (by kernel_rfl) (.inl rfl) rfl (.inl rfl) rfl rfl fun a h => ?_
  exact hX.done (hk rfl C _ v' A' c' (h.to ⟨rfl, rfl, rfl, rfl, rfl, trivial⟩) hsl' k2)
theorem run_loop {RA : Option Addr} {rc N : Nat} {rs : List Rul} {s : Int} {v0 : World} {rr : List Cel × Int} (hcr : checkC rs = 0) (hs : Fits .i64 s) (hN : N <= 30) (hK : RunK F cs v0 rr) :
  ∀ (d k : Nat), k + d = N -> ∀ {A : Option Addr} {c : Nat} {cur : List Cel} {ch : Option Nat} {a : Act} {v : World}, Sl 47 a (lk [(0, .slice RA rs.length rc), (1, .int .i64 s), (11, .slice A cur.length c), (32, .int .i64 (N : Nat)), (33, .int .i64 (k : Nat))]) -> SlAt pRul (Old v) v RA rc rs -> SlAt pCel (Old v) v A c cur -> cellsR cur = 0 -> TabAt v -> GAt v -> Kp v0 v -> iterP9 rs s d cur = rr ->
   MS Tryd.prog SR gR sR F [] ch (bR.at a (.code runL :: .inLoop runL :: [.inBlock 0, .code runT])) cs v
 | 0, k, hkd, A, c, cur, ch, a, v, h, hr, hl, hc, ht, hg, k0, hrr => by
  have hX : Walk Tryd.prog SR gR sR (MS Tryd.prog SR gR sR F [] ch) := MS.walk ctxR
  have hrr : rr = (cur, 0) := hrr.symm
  have elt : decide ((k : Int) < (N : Int)) = false := by simp; omega
  rw [runL_eq]
  refine hX.seq (hX.region ?_)
  rw [rz10]
  refine hX.ls h rfl (by kernel_rfl) (.inl rfl) rfl rfl rfl Tryd.underlying3 rfl rfl elt fun a h => ?_
  refine hX.done (hX.seq (hX.cd (t := false) h rfl rfl (hX.exit rfl ?_)))
  rw [runT_eq]
  refine hX.seq (hX.region ?_)
  rw [rz15]
  refine hX.mv h rfl (by kernel_rfl) (.inl rfl) rfl (.inl rfl) rfl rfl fun a h => ?_
  refine hX.mv h rfl (by kernel_rfl) (.inl rfl) rfl (.inr rfl) rfl rfl fun a h => ?_
  refine hX.mv h rfl (by kernel_rfl) (.inl rfl) rfl (.inr rfl) rfl rfl fun a h => ?_
  subst hrr
  exact hX.done (hX.ret (hK ch _ v _ A c h.df (h.at_ 8 _ rfl) (h.at_ 9 _ rfl) hl k0))
 | d + 1, k, hkd, A, c, cur, ch, a, v, h, hr, hl, hc, ht, hg, k0, hrr => by
  rw [iterP9_step] at hrr
  refine run_round h (by omega) hr hl (rval_of hcr) hs hc ht hg k0 (fun h0 => ?_) (fun h0 C a' v' A' c' h' hl' k' => ?_) hN
  ·rw [if_neg h0] at hrr
   rw [hrr]; exact hK
  ·rw [if_pos h0] at hrr
   have hX : Walk Tryd.prog SR gR sR (MS Tryd.prog SR gR sR F [] (some C)) := MS.walk ctxR
   exact hX.again (run_loop hcr hs hN hK d (k + 1) (by omega) h' (hr.kp eqv_rul k') hl' (step9_valid (rval_of hcr) hc h0) (ht.kp k' hg) (hg.kp k') (k0.trans k') hrr)
theorem run_ms {RA WA : Option Addr} {rc wc : Nat} {rs : List Rul} {ms : List Mod} {s n : Int} {ch : Option Nat} {v : World} (hr : SlAt pRul (Old v) v RA rc rs) (hm : SlAt pMod (Old v) v WA wc ms) (hsm : Small rs) (hs : Fits .i64 s) (hn : Fits .i64 n) (hbd : ms.length <= 10000) (hbd2 : ∀ m ∈ ms, m.args.length <= 1000) (ht : TabAt v) (hg : GAt v)
  (hk : RunK F cs v (pRun9 rs s ms n)) :
  MS Tryd.prog SR gR sR F [] ch (Frame.enter Tryd.prog 13 #[.slice RA rs.length rc, .int .i64 s, .slice WA ms.length wc, .int .i64 n] .normal) cs v := by
 refine run_head hr hm hsm hn hbd hbd2 ht hg hk fun N a v' A c hN hnN hc hf hd hsz q0 q1 q11 q32 q33 hl k => ?_
 have hX : Walk Tryd.prog SR gR sR (MS Tryd.prog SR gR sR F [] ch) := MS.walk ctxR
 refine hX.block (hX.loop (run_loop hc hs hN hk N 0 (by omega) (Sl.of hsz hd ⟨q0, q1, q11, q32, q33, trivial⟩) (hr.kp eqv_rul k) hl (begin9_valid hf) (ht.kp k hg) (hg.kp k) k ?_))
 subst hnN
 unfold pRun9
 rw [if_pos hc, if_pos hf, if_neg (by omega), Int.toNat_natCast]
end
end
section
open Go Go.Conc Go.RowKit
end
end Go.Proofs.YtlipmagkplbkdaaDoor
