/-
  Several texts in one.
-/
import Derived.Test.YtlipmagkplbkdaaDoorZ6
import Derived.Test.YtlipmagkplbkdaaDoorZ11
/-! M12 -/
namespace Go.Proofs.YtlipmagkplbkdaaDoor
open Go Go.Conc Go.RowKit
set_option linter.unusedVariables false
set_option linter.unusedSimpArgs false
theorem slAt_cut9 {α : Type} {E : Rp α} {F : Nat → Prop} {w : World} {A : Option Addr} {cap : Nat} {xs : List α} (h : SlAt E F w A cap xs) {l : Nat} (h1 : l ≤ xs.length) :
    SlAt E F w (if cap = l then A else A.map (·.add (l * E.n))) (cap - l) (xs.drop l) := by
  have hle := h.le
  refine ⟨by rw [List.length_drop]; omega, by have := h.mx; omega, fun hn => ?_, fun i x hx => ?_⟩
  · by_cases hc : cap = l
    · omega
    · rw [if_neg hc] at hn
      have := h.nil (by cases A with | none => rfl | some a => cases hn)
      omega
  · have hi' := (List.getElem?_eq_some_iff.1 hx).1
    rw [List.length_drop] at hi'
    rw [List.getElem?_drop] at hx
    obtain ⟨b, o, cs, rfl, h3, h4, h5⟩ := h.el _ _ hx
    refine ⟨b, o + l * E.n, cs, ?_, h3, h4, fun j c hc => ?_⟩
    · rw [if_neg (by omega)]
      rw [Option.map_some, Addr.add_lit]
    · rw [Nat.add_assoc o, ← Nat.add_mul]; exact h5 j c hc
theorem slAt_take9 {α : Type} {E : Rp α} {F : Nat → Prop} {w : World} {A : Option Addr} {cap : Nat} {xs : List α} (h : SlAt E F w A cap xs) (i : Nat) : SlAt E F w A cap (xs.take i) :=
  ⟨Nat.le_trans (List.length_take_le' i xs) h.le, h.mx, h.nil, fun j x hx => h.el j x (by
    rw [List.getElem?_take] at hx
    split at hx
    · exact hx
    · cases hx)⟩
def part9 (l : List Cel) (i : Nat) : List Cel := (l.drop (i * l.length / 3)).take ((i + 1) * l.length / 3 - i * l.length / 3)
theorem part9_ends (n i : Nat) (hi : i ≤ 2) : i * n / 3 ≤ (i + 1) * n / 3 ∧ (i + 1) * n / 3 ≤ n := by
  rcases (by omega : i = 0 ∨ i = 1 ∨ i = 2) with rfl | rfl | rfl <;> omega
theorem part9_len (l : List Cel) (i : Nat) (hi : i ≤ 2) : (part9 l i).length = (i + 1) * l.length / 3 - i * l.length / 3 := by
  have := part9_ends l.length i hi
  unfold part9
  rw [List.length_take, List.length_drop]
  omega
theorem part9_join (l : List Cel) : part9 l 0 ++ (part9 l 1 ++ part9 l 2) = l := by
  have e1 : part9 l 2 = l.drop (2 * l.length / 3) := by
    unfold part9
    exact List.take_of_length_le (by rw [List.length_drop]; omega)
  have e2 : part9 l 1 ++ part9 l 2 = l.drop (1 * l.length / 3) := by
    rw [e1]
    unfold part9
    have hh : l.drop (2 * l.length / 3) = (l.drop (1 * l.length / 3)).drop ((1 + 1) * l.length / 3 - 1 * l.length / 3) := by
      rw [List.drop_drop]; congr 1; omega
    rw [hh, List.take_append_drop]
  rw [e2]
  unfold part9
  rw [show 0 * l.length / 3 = 0 by omega, List.drop_zero, show (0 + 1) * l.length / 3 - 0 = 1 * l.length / 3 by omega, List.take_append_drop]
theorem part9_mem {l : List Cel} {i : Nat} {x : Cel} (h : x ∈ part9 l i) : x ∈ l := by
  unfold part9 at h
  exact List.mem_of_mem_drop (List.mem_of_mem_take h)
def zs9 (rs : List Rul) (s : Int) (l : List Cel) (i : Nat) : List Cel := (manyR9 rs s (part9 l i)).1
def es9 (rs : List Rul) (s : Int) (l : List Cel) (i : Nat) : Int := (manyR9 rs s (part9 l i)).2
theorem es9_eq (rs : List Rul) (s : Int) (l : List Cel) (i : Nat) : es9 rs s l i = errL rs s (part9 l i) := by
  unfold es9 manyR9
  split
  · rfl
  · rename_i h; exact (Classical.not_not.1 h).symm
theorem zs9_ok {rs : List Rul} {s : Int} {l : List Cel} {i : Nat} (h : errL rs s (part9 l i) = 0) : zs9 rs s l i = allL rs s (part9 l i) := by
  unfold zs9; rw [manyR9_ok h]
theorem gather9 (rs : List Rul) (s : Int) (l : List Cel) : gather (zs9 rs s l) 3 = zs9 rs s l 0 ++ (zs9 rs s l 1 ++ zs9 rs s l 2) := by
  rw [gather_next, gather_next, gather_next]
  show ([] ++ _ ++ _) ++ _ = _
  rw [List.nil_append, List.append_assoc]
theorem gather9_len {rs : List Rul} (hv : RVal rs) (s : Int) {l : List Cel} (hl : l.length ≤ 2100) : ∀ i, i ≤ 3 → (gather (zs9 rs s l) i).length ≤ 1000000 := by
  have hz : ∀ i, i ≤ 2 → (zs9 rs s l i).length ≤ 2100 * 20 := fun i hi => by
    have h1 := manyR9_len hv s (part9 l i)
    have h2 := part9_len l i hi
    have h3 := part9_ends l.length i hi
    show (manyR9 rs s (part9 l i)).1.length ≤ _
    omega
  have g : ∀ i, i ≤ 3 → (gather (zs9 rs s l) i).length ≤ i * (2100 * 20) := by
    intro i
    induction i with
    | zero => intro _; show ([] : List Cel).length ≤ _; simp
    | succ i ih =>
      intro hi
      rw [gather_next, List.length_append]
      have := ih (by omega)
      have := hz i (by omega)
      omega
  intro i hi
  have := g i hi
  omega
theorem stepOut9 (rs : List Rul) (s : Int) (l : List Cel) : stepOut (zs9 rs s l) (es9 rs s l) = stepR9 rs s l := by
  have hj := part9_join l
  have he : errL rs s l = if errL rs s (part9 l 0) ≠ 0 then errL rs s (part9 l 0) else if errL rs s (part9 l 1) ≠ 0 then errL rs s (part9 l 1) else errL rs s (part9 l 2) := by
    conv => lhs; rw [← hj]
    rw [errL_app, errL_app]
  unfold stepOut
  rw [es9_eq, es9_eq, es9_eq]
  by_cases h0 : errL rs s (part9 l 0) ≠ 0
  · rw [if_pos h0]
    rw [if_pos h0] at he
    rw [stepR9_err (by rw [he]; exact h0), he]
  · rw [if_neg h0]
    rw [if_neg h0] at he
    by_cases h1 : errL rs s (part9 l 1) ≠ 0
    · rw [if_pos h1]
      rw [if_pos h1] at he
      rw [stepR9_err (by rw [he]; exact h1), he]
    · rw [if_neg h1]
      rw [if_neg h1] at he
      by_cases h2 : errL rs s (part9 l 2) ≠ 0
      · rw [if_pos h2, stepR9_err (by rw [he]; exact h2), he]
      · rw [if_neg h2]
        have hz : gather (zs9 rs s l) 3 = allL rs s l := by
          rw [gather9, zs9_ok (Classical.not_not.1 h0), zs9_ok (Classical.not_not.1 h1), zs9_ok (Classical.not_not.1 h2)]
          conv => rhs; rw [← hj]
          rw [allL_app, allL_app]
        rw [hz]
        have e0 : errL rs s l = 0 := he.trans (Classical.not_not.1 h2)
        unfold stepR9
        rw [e0]
        rfl
theorem TabAt.kp {v v' : World} (h : TabAt v) (k : Kp v v') (hg : GAt v) : TabAt v' := by
  obtain ⟨g, hg1, hg2⟩ := hg
  unfold TabAt Lib.TabIs World.var? at h ⊢
  rw [hg1] at h ⊢
  simp only [Option.bind_some] at h ⊢
  cases hv : v.heap[g]? with
  | none => rw [hv] at h; cases h
  | some o =>
    rw [hv] at h
    cases o with
    | cells cs t fz =>
      have h := Option.some.inj h
      have hc : ∀ i, v.cell? ⟨g, i, none⟩ = cs[i]? := fun i => by unfold World.cell?; simp [hv]
      have hc' : ∀ i, v'.cell? ⟨g, i, none⟩ = cs[i]? := fun i => (k.cell ⟨g, i, none⟩ hg2).trans (hc i)
      have h0 : ∃ x, cs[0]? = some x := by rw [h]; exact ⟨_, rfl⟩
      obtain ⟨x, hx⟩ := h0
      have hx' := (hc' 0).trans hx
      unfold World.cell? at hx'
      cases hv' : v'.heap[g]? with
      | none => simp [hv'] at hx'
      | some o' =>
        cases o' with
        | cells cs' t' fz' =>
          have : ∀ i, cs'[i]? = cs[i]? := fun i => by
            have := hc' i
            unfold World.cell? at this
            simpa [hv'] using this
          show some cs' = _
          rw [show cs' = cs from Array.ext_getElem? this, h]
        | _ => simp [hv'] at hx'
    | _ => cases h
theorem GAt.kp {v v' : World} (h : GAt v) (k : Kp v v') : GAt v' := by
  obtain ⟨g, h1, h2⟩ := h
  exact ⟨g, h1, Nat.lt_of_lt_of_le h2 k.size⟩
theorem Gw.of {v v' : World} (h : Below v.heap.size v v') : Gw v v' := ⟨h.size, fun k hk => h.block k hk⟩
section
variable {F : Value → Prop} {cs : List Frame}
theorem step9_ms {RA A : Option Addr} {rc cap : Nat} {rs : List Rul} {l : List Cel} {s : Int} {ch : Option Nat} {v : World} (hr : SlAt pRul (Old v) v RA rc rs) (hl : SlAt pCel (Old v) v A cap l) (hv : RVal rs) (hs : Fits .i64 s) (hc : cellsR l = 0) (ht : TabAt v) (hg : GAt v)
    (hk : ∀ C v', Kp v v' → StepK F { (default : Frame) with fn := 40, kind := .normal } cs C [] v' (stepR9 rs s l)) :
    MS Tryd.prog SR gR sR F [] ch (Frame.enter Tryd.prog 40 #[.slice RA rs.length rc, .int .i64 s, .slice A l.length cap] .normal) cs v := by
  have hl2 := (cells_fine hc).1
  refine step_ms (zs := zs9 rs s l) (es := es9 rs s l) (by omega) hl.le (gather9_len hv s (by omega)) (fun i w hi hw => ?_) (fun C v' hk' => by rw [stepOut9]; exact hk C v' hk')
  obtain ⟨h1, h2⟩ := part9_ends l.length i hi
  have hsl := slAt_take9 (slAt_cut9 (hl.kp eqv_cel hw) (l := i * l.length / 3) (by omega)) ((i + 1) * l.length / 3 - i * l.length / 3)
  have hlen := part9_len l i hi
  have := many9_calls RA rc rs s _ _ (part9 l i) i w (hr.kp eqv_rul hw) hsl hs (fits_i64 (by omega)) hv (fun x hx => cells_each hc x (part9_mem hx)) (by omega) (ht.kp hw hg) (hg.kp hw)
  rw [hlen] at this
  refine this.mono ?_
  rintro e w' ⟨B, c, rfl, hs', hb⟩
  exact ⟨_, rfl, ⟨B, c, rfl, hs'⟩, Gw.of hb⟩
end
end Go.Proofs.YtlipmagkplbkdaaDoor

/-! M13 -/
namespace Go.Proofs.YtlipmagkplbkdaaDoor
open Go Go.Conc Go.RowKit
set_option linter.unusedVariables false
set_option linter.unusedSimpArgs false
noncomputable def runB : Code := match Tryd.f13.body with | some c => c | none => .skip
theorem runBody : Tryd.f13.body = some runB := by kernel_rfl
noncomputable def runR0 : Code := match runB with | .seq a _ => a | _ => .skip
noncomputable def runC1 : Code := match runB with | .seq _ (.seq a _) => a | _ => .skip
noncomputable def runR4 : Code := match runB with | .seq _ (.seq _ (.seq a _)) => a | _ => .skip
noncomputable def runC5 : Code := match runB with | .seq _ (.seq _ (.seq _ (.seq a _))) => a | _ => .skip
noncomputable def runC7 : Code := match runB with | .seq _ (.seq _ (.seq _ (.seq _ (.seq a _)))) => a | _ => .skip
noncomputable def runR9 : Code := match runB with | .seq _ (.seq _ (.seq _ (.seq _ (.seq _ (.seq (.seq a _) _))))) => a | _ => .skip
noncomputable def runL : Code := match runB with | .seq _ (.seq _ (.seq _ (.seq _ (.seq _ (.seq (.seq _ (.block _ (.loop a))) _))))) => a | _ => .skip
noncomputable def runT : Code := match runB with | .seq _ (.seq _ (.seq _ (.seq _ (.seq _ (.seq _ a))))) => a | _ => .skip
theorem runB_eq : runB = .seq runR0 (.seq runC1 (.seq runR4 (.seq runC5 (.seq runC7 (.seq (.seq runR9 (.block 0 (.loop runL))) runT))))) := by kernel_rfl
theorem runTm (RA WA : Option Addr) (rc wc m1 m2 : Nat) (s n : Int) : (#[.slice RA m1 rc, .int .i64 s, .slice WA m2 wc, .int .i64 n] ++ Array.replicate (Tryd.f13.ntmps - (#[.slice RA m1 rc, .int .i64 s, .slice WA m2 wc, .int .i64 n] : Array Value).size) undef : Array Value) = #[.slice RA m1 rc, .int .i64 s, .slice WA m2 wc, .int .i64 n, undef, undef, undef, undef, undef, undef, undef, undef, undef, undef, undef, undef, undef, undef, undef, undef, undef, undef, undef, undef, undef, undef, undef, undef, undef, undef, undef, undef, undef, undef, undef, undef, undef, undef, undef, undef, undef, undef, undef, undef, undef, undef, undef] := by kernel_rfl
theorem okR0 : okC Tryd.prog gR sR runR0 = true := by kernel_rfl
theorem okC1 : okC Tryd.prog gR sR runC1 = true := by kernel_rfl
theorem okR4 : okC Tryd.prog gR sR runR4 = true := by kernel_rfl
theorem okC5 : okC Tryd.prog gR sR runC5 = true := by kernel_rfl
theorem okC7 : okC Tryd.prog gR sR runC7 = true := by kernel_rfl
theorem okR9 : okC Tryd.prog gR sR runR9 = true := by kernel_rfl
def bR : Frame := { (default : Frame) with fn := 13, kind := .normal }
theorem bR_fn : ∃ fn, Tryd.prog.funcs[bR.fn]? = some fn := ⟨Tryd.f13, Tryd.func13⟩
section
variable {F : Value → Prop} {cs : List Frame}
def RunK (F : Value → Prop) (cs : List Frame) (v0 : World) (r : List Cel × Int) : Prop := ∀ ch a' v' todo A c, a'.defers = [] → slot a' 8 (.slice A r.1.length c) → slot a' 9 (.int .i64 r.2) → SlAt pCel (Old v') v' A c r.1 → Kp v0 v' → MS Tryd.prog SR gR sR F [] ch { bR.at a' todo with mode := .returning } cs v'
theorem RunK.err {v0 : World} {r : List Cel × Int} {x : Int} (h : RunK F cs v0 r) (hr : r = ([], x)) {ch : Option Nat} {a' : Act} {v' : World} {todo : List Item} (hd : a'.defers = []) (h8 : slot a' 8 (.slice none 0 0)) (h9 : slot a' 9 (.int .i64 x)) (k : Kp v0 v') : MS Tryd.prog SR gR sR F [] ch { bR.at a' todo with mode := .returning } cs v' := by
  subst hr
  exact h ch a' v' todo none 0 hd h8 h9 slat_nil k
set_option maxRecDepth 100000 in
set_option maxHeartbeats 4000000 in
theorem run_head {RA WA : Option Addr} {rc wc : Nat} {rs : List Rul} {ms : List Mod} {s n : Int} {ch : Option Nat} {v : World} (hr : SlAt pRul (Old v) v RA rc rs) (hm : SlAt pMod (Old v) v WA wc ms) (hsm : Small rs) (hn : Fits .i64 n) (hbd : ms.length ≤ 10000) (hbd2 : ∀ m ∈ ms, m.args.length ≤ 1000) (ht : TabAt v) (hg : GAt v)
    (hk : RunK F cs v (pRun9 rs s ms n))
    (hl : ∀ (N : Nat) a v' A c, N ≤ 30 → n = (N : Int) → checkC rs = 0 → checkF ms = 0 → a.defers = [] → a.tmps.size = 47 → slot a 0 (.slice RA rs.length rc) → slot a 1 (.int .i64 s) → slot a 11 (.slice A (beginL ms).length c) → slot a 32 (.int .i64 N) → slot a 33 (.int .i64 0) →
      SlAt pCel (Old v') v' A c (beginL ms) → Kp v v' → MS Tryd.prog SR gR sR F [] ch (bR.at a [.code (.block 0 (.loop runL)), .code runT]) cs v') :
    MS Tryd.prog SR gR sR F [] ch (Frame.enter Tryd.prog 13 #[.slice RA rs.length rc, .int .i64 s, .slice WA ms.length wc, .int .i64 n] .normal) cs v := by
  have hX : Walk Tryd.prog SR gR sR (MS Tryd.prog SR gR sR F [] ch) := MS.walk ctxR
  have hn64 := hn.i64
  rw [enter_eq Tryd.func13 runBody, runB_eq, runTm]
  show MS Tryd.prog SR gR sR F [] ch (bR.at _ _) cs v
  refine hX.seq (hX.wp ctxR rfl bR_fn okR0 fun τ d => ?_)
  have k1 : Kp v (Go.Proofs.YtlipmagkplbkdaaDoor.at2 v τ d) := Kp.at2 _ _ _
  generalize Go.Proofs.YtlipmagkplbkdaaDoor.at2 v τ d = v1 at k1 ⊢
  have Hr := Lib.hid hr; clear hr
  have Hm := Lib.hid hm; clear hm
  have Hk := Lib.hid hk; clear hk
  have Hl := Lib.hid hl; clear hl
  have HX := Lib.hid hX; clear hX
  have Ht := Lib.hid ht; clear ht
  have Hg := Lib.hid hg; clear hg
  dsimp only [runR0, runB, Tryd.f13]
  go_wp2
  refine HX.out.seq (HX.out.wp ctxR rfl bR_fn okC1 fun τ d => ?_)
  have k2 : Kp v (Go.Proofs.YtlipmagkplbkdaaDoor.at2 v1 τ d) := k1.trans (Kp.at2 _ _ _)
  generalize Go.Proofs.YtlipmagkplbkdaaDoor.at2 v1 τ d = v2 at k2 ⊢
  have hck := checkC_calls RA rc rs v2 (Hr.out.kp eqv_rul k2) hsm
  unfold IntPost at hck
  dsimp only [runC1, runB, Tryd.f13]
  by_cases hc : checkC rs = 0
  case neg =>
    have e0 : (checkC rs != 0) = true := by simp [hc]
    have hff : pRun9 rs s ms n = ([], checkC rs) := by unfold pRun9; rw [if_neg hc]
    generalize checkC rs = x at hck hff e0
    have Hck := Lib.hid hck; clear hck
    have Hff := Lib.hid hff; clear hff
    clear hc
    go_wp2_with (go_at_call 21; refine Hck.out.mono ?_; rintro e w1 ⟨rfl, hb1⟩)
    intro todo
    exact Hk.out.err Hff.out rfl rfl rfl (k2.trans (Kp.below hb1))
  case pos =>
  rw [hc] at hck
  have Hck := Lib.hid hck; clear hck
  have Hc := Lib.hid hc; clear hc
  go_wp2_with (go_at_call 21; refine Hck.out.mono ?_; rintro e w1 ⟨rfl, hb1⟩)
  have k3 := k2.trans (Kp.below hb1)
  refine HX.out.seq (HX.out.wp ctxR rfl bR_fn okR4 fun τ d => ?_)
  have k4 : Kp v (Go.Proofs.YtlipmagkplbkdaaDoor.at2 w1 τ d) := k3.trans (Kp.at2 _ _ _)
  generalize Go.Proofs.YtlipmagkplbkdaaDoor.at2 w1 τ d = v4 at k4 ⊢
  clear hb1 k3
  have hbg := begin_calls WA wc ms v4 (Hm.out.kp eqv_mod k4) hbd hbd2 (Ht.out.kp k4 Hg.out) (Hg.out.kp k4)
  dsimp only [runR4, runB, Tryd.f13]
  by_cases hf : checkF ms = 0
  case neg =>
    have e0 : (checkF ms != 0) = true := by simp [hf]
    have hff : pRun9 rs s ms n = ([], checkF ms) := by unfold pRun9; rw [if_pos Hc.out, if_neg hf]
    have hbr : beginR ms = ([], checkF ms) := by unfold beginR; rw [if_neg hf]
    rw [hbr] at hbg
    unfold BeginPost at hbg
    generalize checkF ms = x at hbg hff e0 hbr
    clear hf
    have Hbg := Lib.hid hbg; clear hbg
    have Hff := Lib.hid hff; clear hff
    have Hbr := Lib.hid hbr; clear hbr
    go_wp2_with (go_at_call 17; refine Hbg.out.mono ?_; rintro e w2 ⟨A2, c2, rfl, hs2, hb2⟩)
    have k5 := k4.trans (Kp.below hb2)
    clear hb2 hs2
    refine HX.out.seq (HX.out.wp ctxR rfl bR_fn okC5 fun τ d => ?_)
    have k6 : Kp v (Go.Proofs.YtlipmagkplbkdaaDoor.at2 w2 τ d) := k5.trans (Kp.at2 _ _ _)
    generalize Go.Proofs.YtlipmagkplbkdaaDoor.at2 w2 τ d = v6 at k6 ⊢
    dsimp only [runC5, runB, Tryd.f13]
    go_wp2
    intro todo
    exact Hk.out.err Hff.out rfl rfl rfl k6
  case pos =>
  have hbr : beginR ms = (beginL ms, 0) := by unfold beginR; rw [if_pos hf]
  obtain ⟨L, hL⟩ : ∃ L, beginL ms = L := ⟨_, rfl⟩
  rw [hL] at hbr
  rw [hbr] at hbg
  unfold BeginPost at hbg
  have Hbg := Lib.hid hbg; clear hbg
  have Hbr := Lib.hid hbr; clear hbr
  have Hf := Lib.hid hf; clear hf
  have HL := Lib.hid hL; clear hL
  go_wp2_with (go_at_call 17; refine Hbg.out.mono ?_; rintro e w2 ⟨A2, c2, rfl, hs2, hb2⟩)
  have hs2 : SlAt pCel (Old w2) w2 A2 c2 L := hs2
  have k5 := k4.trans (Kp.below hb2)
  clear hb2
  have Hs2 := Lib.hid hs2; clear hs2
  refine HX.out.seq (HX.out.wp ctxR rfl bR_fn okC5 fun τ d => ?_)
  have k6 : Kp v (Go.Proofs.YtlipmagkplbkdaaDoor.at2 w2 τ d) := k5.trans (Kp.at2 _ _ _)
  have hs3 := Hs2.out.kp eqv_cel (Kp.at2 w2 τ d)
  generalize Go.Proofs.YtlipmagkplbkdaaDoor.at2 w2 τ d = v6 at k6 hs3 ⊢
  have Hs3 := Lib.hid hs3; clear hs3
  dsimp only [runC5, runB, Tryd.f13]
  go_wp2
  refine HX.out.seq (HX.out.wp ctxR rfl bR_fn okC7 fun τ d => ?_)
  have k7 : Kp v (Go.Proofs.YtlipmagkplbkdaaDoor.at2 v6 τ d) := k6.trans (Kp.at2 _ _ _)
  have hs4 := Hs3.out.kp eqv_cel (Kp.at2 v6 τ d)
  generalize Go.Proofs.YtlipmagkplbkdaaDoor.at2 v6 τ d = v7 at k7 hs4 ⊢
  have Hs4 := Lib.hid hs4; clear hs4
  dsimp only [runC7, runB, Tryd.f13]
  by_cases hbad1 : n < 0
  · have hff : pRun9 rs s ms n = ([], 2) := by unfold pRun9; rw [if_pos Hc.out, if_pos Hf.out, if_pos (.inl hbad1)]
    have Hff := Lib.hid hff; clear hff
    go_wp2
    intro todo
    exact Hk.out.err Hff.out rfl rfl rfl k7
  by_cases hbad2 : 30 < n
  · have hff : pRun9 rs s ms n = ([], 2) := by unfold pRun9; rw [if_pos Hc.out, if_pos Hf.out, if_pos (.inr hbad2)]
    have Hff := Lib.hid hff; clear hff
    go_wp2
    intro todo
    exact Hk.out.err Hff.out rfl rfl rfl k7
  obtain ⟨N, rfl⟩ := Int.eq_ofNat_of_zero_le (show 0 ≤ n by omega)
  have hN : N ≤ 30 := by omega
  go_wp2
  refine HX.out.seq (HX.out.seq (HX.out.wp ctxR rfl bR_fn okR9 fun τ d => ?_))
  have k8 : Kp v (Go.Proofs.YtlipmagkplbkdaaDoor.at2 v7 τ d) := k7.trans (Kp.at2 _ _ _)
  have hs5 := Hs4.out.kp eqv_cel (Kp.at2 v7 τ d)
  generalize Go.Proofs.YtlipmagkplbkdaaDoor.at2 v7 τ d = v8 at k8 hs5 ⊢
  have Hs5 := Lib.hid hs5; clear hs5
  dsimp only [runR9, runB, Tryd.f13]
  go_wp2
  have hlL : (beginL ms).length = L.length := by rw [HL.out]
  refine Hl.out N _ v8 A2 c2 hN rfl Hc.out Hf.out rfl rfl rfl rfl ?_ rfl rfl ?_ k8
  · rw [hlL]; rfl
  · rw [HL.out]; exact Hs5.out
end
end Go.Proofs.YtlipmagkplbkdaaDoor

/-! M14 -/
namespace Go.Proofs.YtlipmagkplbkdaaDoor
open Go Go.Conc Go.RowKit
set_option linter.unusedVariables false
set_option linter.unusedSimpArgs false
noncomputable def rop10 : Array Oper := match runL with | .seq (.region _ o _) _ => o | _ => #[]
noncomputable def rop11 : Array Oper := match runL with | .seq _ (.seq _ (.seq (.block _ (.seq (.region _ o _) _)) _)) => o | _ => #[]
noncomputable def rop12 : Array Oper := match runL with | .seq _ (.seq _ (.seq (.block _ (.seq _ (.seq (.region _ o _) _))) _)) => o | _ => #[]
noncomputable def rop13 : Array Oper := match runL with | .seq _ (.seq _ (.seq (.block _ (.seq _ (.seq _ (.cond _ (.seq (.region _ o _) _) _)))) _)) => o | _ => #[]
noncomputable def rop14 : Array Oper := match runL with | .seq _ (.seq _ (.seq _ (.region _ o _))) => o | _ => #[]
noncomputable def rop15 : Array Oper := match runT with | .seq (.region _ o _) _ => o | _ => #[]
theorem runL_eq : runL = .seq (.region 10 rop10 false) (.seq (.cond (.tmp 34) .skip (.exit 0)) (.seq (.block 1 (.seq (.region 11 rop11 false) (.seq (.region 12 rop12 false) (.cond (.tmp 43) (.seq (.region 13 rop13 false) .ret) .skip)))) (.region 14 rop14 false))) := by kernel_rfl
theorem runT_eq : runT = .seq (.region 15 rop15 false) .ret := by kernel_rfl
theorem rz10 : List.range rop10.size = [0] := by kernel_rfl
theorem rz11 : List.range rop11.size = [0, 1, 2, 3, 4, 5, 6, 7, 8] := by kernel_rfl
theorem rz12 : List.range rop12.size = [0, 1] := by kernel_rfl
theorem rz13 : List.range rop13.size = [0, 1, 2] := by kernel_rfl
theorem rz14 : List.range rop14.size = [0, 1] := by kernel_rfl
theorem rz15 : List.range rop15.size = [0, 1, 2] := by kernel_rfl
section
variable {P : Program} {o : Oper} {w : World}
theorem run_extractX (ev : Operand → Value) (x : Operand) (i : Nat) (ho : o.op = .extract x i) {vs : Array Value} {u : Value} (hx : ev x = .tuple vs) (hi : vs[i]? = some u) : (execOp ev o).run P w = .ok (.value u) w := by
  unfold execOp
  simp only [ho, hx, Instr.extract, hi]
  rfl
theorem results_two {fn : Func} {p q : Tmp} (h : fn.results = #[.tmp p, .tmp q]) (tmps : Array Value) : (results fn tmps).run P w = .ok (.tuple #[tmps.getD p undef, tmps.getD q undef]) w := by
  simp only [results, h]
  simp [Sem.run_bind, Result.andThen]
theorem results_one {fn : Func} {p : Tmp} (h : fn.results = #[.tmp p]) (tmps : Array Value) : (results fn tmps).run P w = .ok (tmps.getD p undef) w := by
  simp only [results, h]
  simp [Sem.run_bind, Result.andThen]
end
structure RnS (RA : Option Addr) (rn rc : Nat) (s : Int) (N k : Nat) (a : Act) : Prop where
  sz : a.tmps.size = 47
  df : a.defers = []
  s0 : slot a 0 (.slice RA rn rc)
  s1 : slot a 1 (.int .i64 s)
  s32 : slot a 32 (.int .i64 N)
  s33 : slot a 33 (.int .i64 k)
theorem RnS.put {RA : Option Addr} {rn rc : Nat} {s : Int} {N k : Nat} {a : Act} (h : RnS RA rn rc s N k a) (d : Nat) (x : Value) (hd : d ≠ 0 ∧ d ≠ 1 ∧ d ≠ 32 ∧ d ≠ 33) : RnS RA rn rc s N k (a.put (some d) x) :=
  ⟨size_put h.sz, h.df, slot_ne h.s0 hd.1, slot_ne h.s1 hd.2.1, slot_ne h.s32 hd.2.2.1, slot_ne h.s33 hd.2.2.2⟩
section
variable {F : Value → Prop} {cs : List Frame} {kk : List Item}
set_option maxHeartbeats 1000000 in
theorem run_round {RA A : Option Addr} {rc c N k : Nat} {rs : List Rul} {cur : List Cel} {s : Int} {ch : Option Nat} {a : Act} {v v0 : World} (h : RnS RA rs.length rc s N k a) (s11 : slot a 11 (.slice A cur.length c)) (hkN : k < N) (hr : SlAt pRul (Old v) v RA rc rs) (hl : SlAt pCel (Old v) v A c cur)
    (hv : RVal rs) (hs : Fits .i64 s) (hc : cellsR cur = 0) (ht : TabAt v) (hg : GAt v) (k0 : Kp v0 v)
    (herr : (stepR9 rs s cur).2 ≠ 0 → RunK F cs v0 ([], (stepR9 rs s cur).2))
    (hk : (stepR9 rs s cur).2 = 0 → ∀ C a' v' A' c', RnS RA rs.length rc s N (k + 1) a' → slot a' 11 (.slice A' (stepR9 rs s cur).1.length c') → SlAt pCel (Old v') v' A' c' (stepR9 rs s cur).1 → Kp v v' → MS Tryd.prog SR gR sR F [] (some C) (bR.at a' kk) cs v') (hN : N ≤ 30) :
    MS Tryd.prog SR gR sR F [] ch (bR.at a (.code runL :: kk)) cs v := by
  have hX : ∀ ch, Walk Tryd.prog SR gR sR (MS Tryd.prog SR gR sR F [] ch) := fun ch => MS.walk ctxR
  rw [runL_eq]
  refine (hX ch).seq ((hX ch).region ?_)
  rw [rz10]
  refine (hX ch).val (v' := v) (some 34) (.bool true) (show rop10[0]? = some _ from rfl) (by kernel_rfl) rfl rfl (fun τ d => ?_) ?_
  · have e : (decide ((k : Int) < (N : Int))) = true := by simp; omega
    have := run_lss (P := Tryd.prog) (o := rop10[0]) (w := Go.Proofs.YtlipmagkplbkdaaDoor.at2 v τ d) a.eval 3 3 (.tmp 33) (.tmp 32) rfl Tryd.underlying3 h.s33 h.s32
    exact this.trans (by rw [e])
  have h1 := h.put 34 (.bool true) (by decide)
  have s34 := slot_same (a := a) (d := 34) (x := .bool true) (by rw [h.sz]; decide)
  have s11 := slot_ne (d := 34) (x := .bool true) s11 (by decide)
  generalize (a.put (some 34) (.bool true)) = a1 at h1 s34 s11
  refine (hX ch).done ((hX ch).seq ((hX ch).cond (t := true) rfl s34 ((hX ch).skip ((hX ch).seq ((hX ch).block ((hX ch).seq ((hX ch).region ?_)))))))
  rw [rz11]
  refine (hX ch).val (v' := v) (some 36) (.slice RA rs.length rc) (show rop11[0]? = some _ from rfl) (by kernel_rfl) rfl rfl (fun τ d => run_moveX _ (.tmp 0) (.inl rfl) h1.s0) ?_
  have h2 := h1.put 36 (.slice RA rs.length rc) (by decide)
  have s36 := slot_same (a := a1) (d := 36) (x := .slice RA rs.length rc) (by rw [h1.sz]; decide)
  have s11 := slot_ne (d := 36) (x := .slice RA rs.length rc) s11 (by decide)
  generalize (a1.put (some 36) (.slice RA rs.length rc)) = a2 at h2 s36 s11
  refine (hX ch).val (v' := v) (some 37) (.int .i64 s) (show rop11[1]? = some _ from rfl) (by kernel_rfl) rfl rfl (fun τ d => run_moveX _ (.tmp 1) (.inl rfl) h2.s1) ?_
  have h3 := h2.put 37 (.int .i64 s) (by decide)
  have s37 := slot_same (a := a2) (d := 37) (x := .int .i64 s) (by rw [h2.sz]; decide)
  have s36 := slot_ne (d := 37) (x := .int .i64 s) s36 (by decide)
  have s11 := slot_ne (d := 37) (x := .int .i64 s) s11 (by decide)
  generalize (a2.put (some 37) (.int .i64 s)) = a3 at h3 s36 s37 s11
  refine (hX ch).val (v' := v) (some 38) (.slice A cur.length c) (show rop11[2]? = some _ from rfl) (by kernel_rfl) rfl rfl (fun τ d => run_moveX _ (.tmp 11) (.inl rfl) s11) ?_
  have h4 := h3.put 38 (.slice A cur.length c) (by decide)
  have s38 := slot_same (a := a3) (d := 38) (x := .slice A cur.length c) (by rw [h3.sz]; decide)
  have s36 := slot_ne (d := 38) (x := .slice A cur.length c) s36 (by decide)
  have s37 := slot_ne (d := 38) (x := .slice A cur.length c) s37 (by decide)
  generalize (a3.put (some 38) (.slice A cur.length c)) = a4 at h4 s36 s37 s38
  clear h1 h2 h3 s34 s11
  refine MS.enter ctxR (show rop11[3]? = some _ from rfl) rfl rfl (by kernel_rfl) ⟨_, _, Tryd.func40, stepBody, by kernel_rfl⟩ ?_
  have hargs : (#[.tmp 36, .tmp 37, .tmp 38] : Array Operand).map a4.eval = #[.slice RA rs.length rc, .int .i64 s, .slice A cur.length c] := by
    simp only [List.map_toArray, List.map_cons, List.map_nil]
    rw [show a4.eval (.tmp 36) = _ from s36, show a4.eval (.tmp 37) = _ from s37, show a4.eval (.tmp 38) = _ from s38]
  show MS Tryd.prog SR gR sR F [] ch (Frame.enter Tryd.prog 40 ((#[.tmp 36, .tmp 37, .tmp 38] : Array Operand).map a4.eval) .normal) _ v
  rw [hargs]
  refine step9_ms hr hl hv hs hc ht hg fun C v1 k1 => ?_
  intro a' v' todo A' c' hd' hsz' q6 q7 hsl' hgw
  have hX := hX (some C)
  have k2 : Kp v v' := k1.trans (Kp.gw hgw)
  refine hX.back' (x := .tuple #[.slice A' (stepR9 rs s cur).1.length c', .int .i64 (stepR9 rs s cur).2]) rfl rfl Tryd.func40 (show rop11[3]? = some _ from rfl) (fun τ d => ?_) ?_
  · refine (results_two (p := 6) (q := 7) rfl _).trans ?_
    show Result.ok (Value.tuple #[a'.tmps.getD 6 undef, a'.tmps.getD 7 undef]) _ = _
    rw [show (a'.tmps.getD 6 undef) = _ from q6, show (a'.tmps.getD 7 undef) = _ from q7]
  generalize stepR9 rs s cur = o at *
  obtain ⟨ol, oe⟩ := o
  simp only at q6 q7 hsl' herr hk ⊢
  show MS Tryd.prog SR gR sR F [] (some C) (bR.at (a4.put (some 39) _) _) cs v'
  have h5 := h4.put 39 (.tuple #[.slice A' ol.length c', .int .i64 oe]) (by decide)
  have s39 := slot_same (a := a4) (d := 39) (x := .tuple #[.slice A' ol.length c', .int .i64 oe]) (by rw [h4.sz]; decide)
  generalize (a4.put (some 39) (.tuple #[.slice A' ol.length c', .int .i64 oe])) = a5 at h5 s39
  refine hX.val (v' := v') (some 35) _ (show rop11[4]? = some _ from rfl) (by kernel_rfl) rfl rfl (fun τ d => run_moveX _ (.tmp 39) (.inl rfl) s39) ?_
  have h6 := h5.put 35 (.tuple #[.slice A' ol.length c', .int .i64 oe]) (by decide)
  have s35 := slot_same (a := a5) (d := 35) (x := .tuple #[.slice A' ol.length c', .int .i64 oe]) (by rw [h5.sz]; decide)
  generalize (a5.put (some 35) (.tuple #[.slice A' ol.length c', .int .i64 oe])) = a6 at h6 s35
  refine hX.val (v' := v') (some 40) (.slice A' ol.length c') (show rop11[5]? = some _ from rfl) (by kernel_rfl) rfl rfl (fun τ d => run_extractX _ (.tmp 35) 0 rfl s35 rfl) ?_
  have h7 := h6.put 40 (.slice A' ol.length c') (by decide)
  have s40 := slot_same (a := a6) (d := 40) (x := .slice A' ol.length c') (by rw [h6.sz]; decide)
  have s35 := slot_ne (d := 40) (x := .slice A' ol.length c') s35 (by decide)
  generalize (a6.put (some 40) (.slice A' ol.length c')) = a7 at h7 s40 s35
  refine hX.val (v' := v') (some 41) (.int .i64 oe) (show rop11[6]? = some _ from rfl) (by kernel_rfl) rfl rfl (fun τ d => run_extractX _ (.tmp 35) 1 rfl s35 rfl) ?_
  have h8 := h7.put 41 (.int .i64 oe) (by decide)
  have s41 := slot_same (a := a7) (d := 41) (x := .int .i64 oe) (by rw [h7.sz]; decide)
  have s40 := slot_ne (d := 41) (x := .int .i64 oe) s40 (by decide)
  generalize (a7.put (some 41) (.int .i64 oe)) = a8 at h8 s40 s41
  refine hX.val (v' := v') (some 11) (.slice A' ol.length c') (show rop11[7]? = some _ from rfl) (by kernel_rfl) rfl rfl (fun τ d => run_moveX _ (.tmp 40) (.inr rfl) s40) ?_
  have h9 := h8.put 11 (.slice A' ol.length c') (by decide)
  have s11 := slot_same (a := a8) (d := 11) (x := .slice A' ol.length c') (by rw [h8.sz]; decide)
  have s41 := slot_ne (d := 11) (x := .slice A' ol.length c') s41 (by decide)
  generalize (a8.put (some 11) (.slice A' ol.length c')) = a9 at h9 s11 s41
  refine hX.val (v' := v') (some 12) (.int .i64 oe) (show rop11[8]? = some _ from rfl) (by kernel_rfl) rfl rfl (fun τ d => run_moveX _ (.tmp 41) (.inr rfl) s41) ?_
  have h10 := h9.put 12 (.int .i64 oe) (by decide)
  have s12 := slot_same (a := a9) (d := 12) (x := .int .i64 oe) (by rw [h9.sz]; decide)
  have s11 := slot_ne (d := 12) (x := .int .i64 oe) s11 (by decide)
  generalize (a9.put (some 12) (.int .i64 oe)) = a10 at h10 s11 s12
  clear h4 h5 h6 h7 h8 h9
  refine hX.done (hX.seq (hX.region ?_))
  rw [rz12]
  refine hX.val (v' := v') (some 42) (.int .i64 oe) (show rop12[0]? = some _ from rfl) (by kernel_rfl) rfl rfl (fun τ d => run_moveX _ (.tmp 12) (.inl rfl) s12) ?_
  have h11 := h10.put 42 (.int .i64 oe) (by decide)
  have s42 := slot_same (a := a10) (d := 42) (x := .int .i64 oe) (by rw [h10.sz]; decide)
  have s11 := slot_ne (d := 42) (x := .int .i64 oe) s11 (by decide)
  have s12 := slot_ne (d := 42) (x := .int .i64 oe) s12 (by decide)
  generalize (a10.put (some 42) (.int .i64 oe)) = a11 at h11 s11 s12 s42
  refine hX.val (v' := v') (some 43) (.bool (decide (oe ≠ 0))) (show rop12[1]? = some _ from rfl) (by kernel_rfl) rfl rfl (fun τ d => run_neq _ 27 27 (.tmp 42) _ rfl Tryd.underlying27 s42 (n := 0) rfl) ?_
  have h12 := h11.put 43 (.bool (decide (oe ≠ 0))) (by decide)
  have s43 := slot_same (a := a11) (d := 43) (x := .bool (decide (oe ≠ 0))) (by rw [h11.sz]; decide)
  have s11 := slot_ne (d := 43) (x := .bool (decide (oe ≠ 0))) s11 (by decide)
  have s12 := slot_ne (d := 43) (x := .bool (decide (oe ≠ 0))) s12 (by decide)
  generalize (a11.put (some 43) (.bool (decide (oe ≠ 0)))) = a12 at h12 s11 s12 s43
  by_cases h0 : oe = 0
  case neg =>
    refine hX.done (hX.cond (t := true) rfl (s43.trans (by rw [decide_eq_true h0])) (hX.seq (hX.region ?_)))
    rw [rz13]
    refine hX.val (v' := v') (some 44) (.int .i64 oe) (show rop13[0]? = some _ from rfl) (by kernel_rfl) rfl rfl (fun τ d => run_moveX _ (.tmp 12) (.inl rfl) s12) ?_
    have h13 := h12.put 44 (.int .i64 oe) (by decide)
    have s44 := slot_same (a := a12) (d := 44) (x := .int .i64 oe) (by rw [h12.sz]; decide)
    generalize (a12.put (some 44) (.int .i64 oe)) = a13 at h13 s44
    refine hX.val (v' := v') (some 8) (.slice none 0 0) (show rop13[1]? = some _ from rfl) (by kernel_rfl) rfl rfl (fun τ d => run_moveX _ _ (.inr rfl) rfl) ?_
    have h14 := h13.put 8 (.slice none 0 0) (by decide)
    have s8 := slot_same (a := a13) (d := 8) (x := .slice none 0 0) (by rw [h13.sz]; decide)
    have s44 := slot_ne (d := 8) (x := .slice none 0 0) s44 (by decide)
    generalize (a13.put (some 8) (.slice none 0 0)) = a14 at h14 s8 s44
    refine hX.val (v' := v') (some 9) (.int .i64 oe) (show rop13[2]? = some _ from rfl) (by kernel_rfl) rfl rfl (fun τ d => run_moveX _ (.tmp 44) (.inr rfl) s44) ?_
    have h15 := h14.put 9 (.int .i64 oe) (by decide)
    have s9 := slot_same (a := a14) (d := 9) (x := .int .i64 oe) (by rw [h14.sz]; decide)
    have s8 := slot_ne (d := 9) (x := .int .i64 oe) s8 (by decide)
    generalize (a14.put (some 9) (.int .i64 oe)) = a15 at h15 s8 s9
    exact hX.done (hX.ret ((herr h0).err rfl h15.df s8 s9 (k0.trans k2)))
  case pos =>
    subst h0
    refine hX.done (hX.cond (t := false) rfl (s43.trans (by simp)) (hX.skip (hX.inBlock (hX.region ?_))))
    rw [rz14]
    refine hX.val (v' := v') (some 45) (.int .i64 ((k + 1 : Nat) : Int)) (show rop14[0]? = some _ from rfl) (by kernel_rfl) rfl rfl (fun τ d => (run_add a12.eval 3 3 (.tmp 33) _ rfl Tryd.underlying3 (m := (k : Int)) h12.s33 (n := 1) rfl (by omega)).trans (by rw [show ((k + 1 : Nat) : Int) = (k : Int) + 1 by omega])) ?_
    have h13 := h12.put 45 (.int .i64 ((k + 1 : Nat) : Int)) (by decide)
    have s45 := slot_same (a := a12) (d := 45) (x := .int .i64 ((k + 1 : Nat) : Int)) (by rw [h12.sz]; decide)
    have s11 := slot_ne (d := 45) (x := .int .i64 ((k + 1 : Nat) : Int)) s11 (by decide)
    generalize (a12.put (some 45) (.int .i64 ((k + 1 : Nat) : Int))) = a13 at h13 s45 s11
    refine hX.val (v' := v') (some 33) (.int .i64 ((k + 1 : Nat) : Int)) (show rop14[1]? = some _ from rfl) (by kernel_rfl) rfl rfl (fun τ d => run_moveX _ (.tmp 45) (.inl rfl) s45) ?_
    refine hX.done (hk rfl C _ v' A' c' ?_ (slot_ne s11 (by decide)) hsl' k2)
    exact ⟨size_put h13.sz, h13.df, slot_ne h13.s0 (by decide), slot_ne h13.s1 (by decide), slot_ne h13.s32 (by decide), slot_same (by rw [h13.sz]; decide)⟩
theorem run_loop {RA : Option Addr} {rc N : Nat} {rs : List Rul} {s : Int} {v0 : World} {rr : List Cel × Int} (hcr : checkC rs = 0) (hs : Fits .i64 s) (hN : N ≤ 30) (hK : RunK F cs v0 rr) :
    ∀ (d k : Nat), k + d = N → ∀ {A : Option Addr} {c : Nat} {cur : List Cel} {ch : Option Nat} {a : Act} {v : World}, RnS RA rs.length rc s N k a → slot a 11 (.slice A cur.length c) → SlAt pRul (Old v) v RA rc rs → SlAt pCel (Old v) v A c cur → cellsR cur = 0 → TabAt v → GAt v → Kp v0 v → iterP9 rs s d cur = rr →
      MS Tryd.prog SR gR sR F [] ch (bR.at a (.code runL :: .inLoop runL :: [.inBlock 0, .code runT])) cs v
  | 0, k, hkd, A, c, cur, ch, a, v, h, s11, hr, hl, hc, ht, hg, k0, hrr => by
    have hX : Walk Tryd.prog SR gR sR (MS Tryd.prog SR gR sR F [] ch) := MS.walk ctxR
    have hrr : rr = (cur, 0) := hrr.symm
    rw [runL_eq]
    refine hX.seq (hX.region ?_)
    rw [rz10]
    refine hX.val (v' := v) (some 34) (.bool false) (show rop10[0]? = some _ from rfl) (by kernel_rfl) rfl rfl (fun τ d => ?_) ?_
    · have e : (decide ((k : Int) < (N : Int))) = false := by simp; omega
      have := run_lss (P := Tryd.prog) (o := rop10[0]) (w := Go.Proofs.YtlipmagkplbkdaaDoor.at2 v τ d) a.eval 3 3 (.tmp 33) (.tmp 32) rfl Tryd.underlying3 h.s33 h.s32
      exact this.trans (by rw [e])
    have h1 := h.put 34 (.bool false) (by decide)
    have s34 := slot_same (a := a) (d := 34) (x := .bool false) (by rw [h.sz]; decide)
    have s11 := slot_ne (d := 34) (x := .bool false) s11 (by decide)
    generalize (a.put (some 34) (.bool false)) = a1 at h1 s34 s11
    refine hX.done (hX.seq (hX.cond (t := false) rfl s34 (hX.exit rfl ?_)))
    rw [runT_eq]
    refine hX.seq (hX.region ?_)
    rw [rz15]
    refine hX.val (v' := v) (some 46) (.slice A cur.length c) (show rop15[0]? = some _ from rfl) (by kernel_rfl) rfl rfl (fun τ d => run_moveX _ (.tmp 11) (.inl rfl) s11) ?_
    have h2 := h1.put 46 (.slice A cur.length c) (by decide)
    have s46 := slot_same (a := a1) (d := 46) (x := .slice A cur.length c) (by rw [h1.sz]; decide)
    generalize (a1.put (some 46) (.slice A cur.length c)) = a2 at h2 s46
    refine hX.val (v' := v) (some 8) (.slice A cur.length c) (show rop15[1]? = some _ from rfl) (by kernel_rfl) rfl rfl (fun τ d => run_moveX _ (.tmp 46) (.inr rfl) s46) ?_
    have h3 := h2.put 8 (.slice A cur.length c) (by decide)
    have s8 := slot_same (a := a2) (d := 8) (x := .slice A cur.length c) (by rw [h2.sz]; decide)
    generalize (a2.put (some 8) (.slice A cur.length c)) = a3 at h3 s8
    refine hX.val (v' := v) (some 9) (.int .i64 0) (show rop15[2]? = some _ from rfl) (by kernel_rfl) rfl rfl (fun τ d => run_moveX _ _ (.inr rfl) rfl) ?_
    have h4 := h3.put 9 (.int .i64 0) (by decide)
    have s9 := slot_same (a := a3) (d := 9) (x := .int .i64 0) (by rw [h3.sz]; decide)
    have s8 := slot_ne (d := 9) (x := .int .i64 0) s8 (by decide)
    generalize (a3.put (some 9) (.int .i64 0)) = a4 at h4 s8 s9
    subst hrr
    exact hX.done (hX.ret (hK ch a4 v _ A c h4.df s8 s9 hl k0))
  | d + 1, k, hkd, A, c, cur, ch, a, v, h, s11, hr, hl, hc, ht, hg, k0, hrr => by
    rw [iterP9_step] at hrr
    refine run_round h s11 (by omega) hr hl (rval_of hcr) hs hc ht hg k0 (fun h0 => ?_) (fun h0 C a' v' A' c' h' s11' hl' k' => ?_) hN
    · rw [if_neg h0] at hrr
      rw [hrr]; exact hK
    · rw [if_pos h0] at hrr
      have hX : Walk Tryd.prog SR gR sR (MS Tryd.prog SR gR sR F [] (some C)) := MS.walk ctxR
      exact hX.again (run_loop hcr hs hN hK d (k + 1) (by omega) h' s11' (hr.kp eqv_rul k') hl' (step9_valid (rval_of hcr) hc h0) (ht.kp k' hg) (hg.kp k') (k0.trans k') hrr)
theorem run_ms {RA WA : Option Addr} {rc wc : Nat} {rs : List Rul} {ms : List Mod} {s n : Int} {ch : Option Nat} {v : World} (hr : SlAt pRul (Old v) v RA rc rs) (hm : SlAt pMod (Old v) v WA wc ms) (hsm : Small rs) (hs : Fits .i64 s) (hn : Fits .i64 n) (hbd : ms.length ≤ 10000) (hbd2 : ∀ m ∈ ms, m.args.length ≤ 1000) (ht : TabAt v) (hg : GAt v)
    (hk : RunK F cs v (pRun9 rs s ms n)) :
    MS Tryd.prog SR gR sR F [] ch (Frame.enter Tryd.prog 13 #[.slice RA rs.length rc, .int .i64 s, .slice WA ms.length wc, .int .i64 n] .normal) cs v := by
  refine run_head hr hm hsm hn hbd hbd2 ht hg hk fun N a v' A c hN hnN hc hf hd hsz q0 q1 q11 q32 q33 hl k => ?_
  have hX : Walk Tryd.prog SR gR sR (MS Tryd.prog SR gR sR F [] ch) := MS.walk ctxR
  refine hX.block (hX.loop (run_loop hc hs hN hk N 0 (by omega) ⟨hsz, hd, q0, q1, q32, q33⟩ q11 (hr.kp eqv_rul k) hl (begin9_valid hf) (ht.kp k hg) (hg.kp k) k ?_))
  subst hnN
  unfold pRun9
  rw [if_pos hc, if_pos hf, if_neg (by omega), Int.toNat_natCast]
end
end Go.Proofs.YtlipmagkplbkdaaDoor

/-! Lit -/
namespace Go.Proofs.YtlipmagkplbkdaaDoor
open Go Go.Conc Go.RowKit
end Go.Proofs.YtlipmagkplbkdaaDoor
