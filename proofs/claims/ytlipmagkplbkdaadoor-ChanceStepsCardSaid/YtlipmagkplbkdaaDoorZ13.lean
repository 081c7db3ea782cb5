/-
  Several texts in one.
-/
import Derived.Test.YtlipmagkplbkdaaDoorZ6
import Derived.Test.YtlipmagkplbkdaaDoorZ11
/-! M12 -/
namespace Go.Proofs.YtlipmagkplbkdaaDoor
open Go Go.Conc Go.RowKit
set_option linter.unusedVariables false
set_option linter.unusedSimpArgs false
theorem slAt_cut9 {α : Type} {E : Rp α} {F : Nat → Prop} {w : World} {A : Option Addr} {cap : Nat} {xs : List α} (h : SlAt E F w A cap xs) {l : Nat} (h1 : l ≤ xs.length) :
    SlAt E F w (if cap = l then A else A.map (·.add (l * E.n))) (cap - l) (xs.drop l) := by
  have hle := h.le
  refine ⟨by rw [List.length_drop]; omega, by have := h.mx; omega, fun hn => ?_, fun i x hx => ?_⟩
  · by_cases hc : cap = l
    · omega
    · rw [if_neg hc] at hn
      have := h.nil (by cases A with | none => rfl | some a => cases hn)
      omega
  · have hi' := (List.getElem?_eq_some_iff.1 hx).1
    rw [List.length_drop] at hi'
    rw [List.getElem?_drop] at hx
    obtain ⟨b, o, cs, rfl, h3, h4, h5⟩ := h.el _ _ hx
    refine ⟨b, o + l * E.n, cs, ?_, h3, h4, fun j c hc => ?_⟩
    · rw [if_neg (by omega)]
      rw [Option.map_some, Addr.add_lit]
    · rw [Nat.add_assoc o, ← Nat.add_mul]; exact h5 j c hc
theorem slAt_take9 {α : Type} {E : Rp α} {F : Nat → Prop} {w : World} {A : Option Addr} {cap : Nat} {xs : List α} (h : SlAt E F w A cap xs) (i : Nat) : SlAt E F w A cap (xs.take i) :=
  ⟨Nat.le_trans (List.length_take_le' i xs) h.le, h.mx, h.nil, fun j x hx => h.el j x (by
    rw [List.getElem?_take] at hx
    split at hx
    · exact hx
    · cases hx)⟩
def part9 (l : List Cel) (i : Nat) : List Cel := (l.drop (i * l.length / 3)).take ((i + 1) * l.length / 3 - i * l.length / 3)
theorem part9_ends (n i : Nat) (hi : i ≤ 2) : i * n / 3 ≤ (i + 1) * n / 3 ∧ (i + 1) * n / 3 ≤ n := by
  rcases (by omega : i = 0 ∨ i = 1 ∨ i = 2) with rfl | rfl | rfl <;> omega
theorem part9_len (l : List Cel) (i : Nat) (hi : i ≤ 2) : (part9 l i).length = (i + 1) * l.length / 3 - i * l.length / 3 := by
  have := part9_ends l.length i hi
  unfold part9
  rw [List.length_take, List.length_drop]
  omega
theorem part9_join (l : List Cel) : part9 l 0 ++ (part9 l 1 ++ part9 l 2) = l := by
  have e1 : part9 l 2 = l.drop (2 * l.length / 3) := by
    unfold part9
    exact List.take_of_length_le (by rw [List.length_drop]; omega)
  have e2 : part9 l 1 ++ part9 l 2 = l.drop (1 * l.length / 3) := by
    rw [e1]
    unfold part9
    have hh : l.drop (2 * l.length / 3) = (l.drop (1 * l.length / 3)).drop ((1 + 1) * l.length / 3 - 1 * l.length / 3) := by
      rw [List.drop_drop]; congr 1; omega
    rw [hh, List.take_append_drop]
  rw [e2]
  unfold part9
  rw [show 0 * l.length / 3 = 0 by omega, List.drop_zero, show (0 + 1) * l.length / 3 - 0 = 1 * l.length / 3 by omega, List.take_append_drop]
theorem part9_mem {l : List Cel} {i : Nat} {x : Cel} (h : x ∈ part9 l i) : x ∈ l := by
  unfold part9 at h
  exact List.mem_of_mem_drop (List.mem_of_mem_take h)
def zs9 (rs : List Rul) (s : Int) (l : List Cel) (i : Nat) : List Cel := (manyR9 rs s (part9 l i)).1
def es9 (rs : List Rul) (s : Int) (l : List Cel) (i : Nat) : Int := (manyR9 rs s (part9 l i)).2
theorem es9_eq (rs : List Rul) (s : Int) (l : List Cel) (i : Nat) : es9 rs s l i = errL rs s (part9 l i) := by
  unfold es9 manyR9
  split
  · rfl
  · rename_i h; exact (Classical.not_not.1 h).symm
theorem zs9_ok {rs : List Rul} {s : Int} {l : List Cel} {i : Nat} (h : errL rs s (part9 l i) = 0) : zs9 rs s l i = allL rs s (part9 l i) := by
  unfold zs9; rw [manyR9_ok h]
theorem gather9 (rs : List Rul) (s : Int) (l : List Cel) : gather (zs9 rs s l) 3 = zs9 rs s l 0 ++ (zs9 rs s l 1 ++ zs9 rs s l 2) := by
  rw [gather_next, gather_next, gather_next]
  show ([] ++ _ ++ _) ++ _ = _
  rw [List.nil_append, List.append_assoc]
theorem gather9_len {rs : List Rul} (hv : RVal rs) (s : Int) {l : List Cel} (hl : l.length ≤ 2100) : ∀ i, i ≤ 3 → (gather (zs9 rs s l) i).length ≤ 1000000 := by
  have hz : ∀ i, i ≤ 2 → (zs9 rs s l i).length ≤ 2100 * 20 := fun i hi => by
    have h1 := manyR9_len hv s (part9 l i)
    have h2 := part9_len l i hi
    have h3 := part9_ends l.length i hi
    show (manyR9 rs s (part9 l i)).1.length ≤ _
    omega
  have g : ∀ i, i ≤ 3 → (gather (zs9 rs s l) i).length ≤ i * (2100 * 20) := by
    intro i
    induction i with
    | zero => intro _; show ([] : List Cel).length ≤ _; simp
    | succ i ih =>
      intro hi
      rw [gather_next, List.length_append]
      have := ih (by omega)
      have := hz i (by omega)
      omega
  intro i hi
  have := g i hi
  omega
theorem stepOut9 (rs : List Rul) (s : Int) (l : List Cel) : stepOut (zs9 rs s l) (es9 rs s l) = stepR9 rs s l := by
  have hj := part9_join l
  have he : errL rs s l = if errL rs s (part9 l 0) ≠ 0 then errL rs s (part9 l 0) else if errL rs s (part9 l 1) ≠ 0 then errL rs s (part9 l 1) else errL rs s (part9 l 2) := by
    conv => lhs; rw [← hj]
    rw [errL_app, errL_app]
  unfold stepOut
  rw [es9_eq, es9_eq, es9_eq]
  by_cases h0 : errL rs s (part9 l 0) ≠ 0
  · rw [if_pos h0]
    rw [if_pos h0] at he
    rw [stepR9_err (by rw [he]; exact h0), he]
  · rw [if_neg h0]
    rw [if_neg h0] at he
    by_cases h1 : errL rs s (part9 l 1) ≠ 0
    · rw [if_pos h1]
      rw [if_pos h1] at he
      rw [stepR9_err (by rw [he]; exact h1), he]
    · rw [if_neg h1]
      rw [if_neg h1] at he
      by_cases h2 : errL rs s (part9 l 2) ≠ 0
      · rw [if_pos h2, stepR9_err (by rw [he]; exact h2), he]
      · rw [if_neg h2]
        have hz : gather (zs9 rs s l) 3 = allL rs s l := by
          rw [gather9, zs9_ok (Classical.not_not.1 h0), zs9_ok (Classical.not_not.1 h1), zs9_ok (Classical.not_not.1 h2)]
          conv => rhs; rw [← hj]
          rw [allL_app, allL_app]
        rw [hz]
        have e0 : errL rs s l = 0 := he.trans (Classical.not_not.1 h2)
        unfold stepR9
        rw [e0]
        rfl
theorem TabAt.kp {v v' : World} (h : TabAt v) (k : Kp v v') (hg : GAt v) : TabAt v' := by
  obtain ⟨g, hg1, hg2⟩ := hg
  unfold TabAt Lib.TabIs World.var? at h ⊢
  rw [hg1] at h ⊢
  simp only [Option.bind_some] at h ⊢
  cases hv : v.heap[g]? with
  | none => rw [hv] at h; cases h
  | some o =>
    rw [hv] at h
    cases o with
    | cells cs t fz =>
      have h := Option.some.inj h
      have hc : ∀ i, v.cell? ⟨g, i, none⟩ = cs[i]? := fun i => by unfold World.cell?; simp [hv]
      have hc' : ∀ i, v'.cell? ⟨g, i, none⟩ = cs[i]? := fun i => (k.cell ⟨g, i, none⟩ hg2).trans (hc i)
      have h0 : ∃ x, cs[0]? = some x := by rw [h]; exact ⟨_, rfl⟩
      obtain ⟨x, hx⟩ := h0
      have hx' := (hc' 0).trans hx
      unfold World.cell? at hx'
      cases hv' : v'.heap[g]? with
      | none => simp [hv'] at hx'
      | some o' =>
        cases o' with
        | cells cs' t' fz' =>
          have : ∀ i, cs'[i]? = cs[i]? := fun i => by
            have := hc' i
            unfold World.cell? at this
            simpa [hv'] using this
          show some cs' = _
          rw [show cs' = cs from Array.ext_getElem? this, h]
        | _ => simp [hv'] at hx'
    | _ => cases h
theorem GAt.kp {v v' : World} (h : GAt v) (k : Kp v v') : GAt v' := by
  obtain ⟨g, h1, h2⟩ := h
  exact ⟨g, h1, Nat.lt_of_lt_of_le h2 k.size⟩
theorem Gw.of {v v' : World} (h : Below v.heap.size v v') : Gw v v' := ⟨h.size, fun k hk => h.block k hk⟩
section
variable {F : Value → Prop} {cs : List Frame}
end
end Go.Proofs.YtlipmagkplbkdaaDoor

/-! M13 -/
namespace Go.Proofs.YtlipmagkplbkdaaDoor
open Go Go.Conc Go.RowKit
set_option linter.unusedVariables false
set_option linter.unusedSimpArgs false
noncomputable def runB : Code := match Tryd.f13.body with | some c => c | none => .skip
noncomputable def runT : Code := match runB with | .seq _ (.seq _ (.seq _ (.seq _ (.seq _ (.seq _ a))))) => a | _ => .skip
def bR : Frame := { (default : Frame) with fn := 13, kind := .normal }
section
variable {F : Value → Prop} {cs : List Frame}
def RunK (F : Value → Prop) (cs : List Frame) (v0 : World) (r : List Cel × Int) : Prop := ∀ ch a' v' todo A c, a'.defers = [] → slot a' 8 (.slice A r.1.length c) → slot a' 9 (.int .i64 r.2) → SlAt pCel (Old v') v' A c r.1 → Kp v0 v' → MS Tryd.prog SR gR sR F [] ch { bR.at a' todo with mode := .returning } cs v'
theorem RunK.err {v0 : World} {r : List Cel × Int} {x : Int} (h : RunK F cs v0 r) (hr : r = ([], x)) {ch : Option Nat} {a' : Act} {v' : World} {todo : List Item} (hd : a'.defers = []) (h8 : slot a' 8 (.slice none 0 0)) (h9 : slot a' 9 (.int .i64 x)) (k : Kp v0 v') : MS Tryd.prog SR gR sR F [] ch { bR.at a' todo with mode := .returning } cs v' := by
  subst hr
  exact h ch a' v' todo none 0 hd h8 h9 slat_nil k
end
end Go.Proofs.YtlipmagkplbkdaaDoor

/-! M14 -/
namespace Go.Proofs.YtlipmagkplbkdaaDoor
open Go Go.Conc Go.RowKit
set_option linter.unusedVariables false
set_option linter.unusedSimpArgs false
noncomputable def rop15 : Array Oper := match runT with | .seq (.region _ o _) _ => o | _ => #[]
theorem runT_eq : runT = .seq (.region 15 rop15 false) .ret := by kernel_rfl
section
variable {P : Program} {o : Oper} {w : World}
theorem run_extractX (ev : Operand → Value) (x : Operand) (i : Nat) (ho : o.op = .extract x i) {vs : Array Value} {u : Value} (hx : ev x = .tuple vs) (hi : vs[i]? = some u) : (execOp ev o).run P w = .ok (.value u) w := by
  unfold execOp
  simp only [ho, hx, Instr.extract, hi]
  rfl
theorem results_two {fn : Func} {p q : Tmp} (h : fn.results = #[.tmp p, .tmp q]) (tmps : Array Value) : (results fn tmps).run P w = .ok (.tuple #[tmps.getD p undef, tmps.getD q undef]) w := by
  simp only [results, h]
  simp [Sem.run_bind, Result.andThen]
theorem results_one {fn : Func} {p : Tmp} (h : fn.results = #[.tmp p]) (tmps : Array Value) : (results fn tmps).run P w = .ok (tmps.getD p undef) w := by
  simp only [results, h]
  simp [Sem.run_bind, Result.andThen]
end
structure RnS (RA : Option Addr) (rn rc : Nat) (s : Int) (N k : Nat) (a : Act) : Prop where
  sz : a.tmps.size = 47
  df : a.defers = []
  s0 : slot a 0 (.slice RA rn rc)
  s1 : slot a 1 (.int .i64 s)
  s32 : slot a 32 (.int .i64 N)
  s33 : slot a 33 (.int .i64 k)
theorem RnS.put {RA : Option Addr} {rn rc : Nat} {s : Int} {N k : Nat} {a : Act} (h : RnS RA rn rc s N k a) (d : Nat) (x : Value) (hd : d ≠ 0 ∧ d ≠ 1 ∧ d ≠ 32 ∧ d ≠ 33) : RnS RA rn rc s N k (a.put (some d) x) :=
  ⟨size_put h.sz, h.df, slot_ne h.s0 hd.1, slot_ne h.s1 hd.2.1, slot_ne h.s32 hd.2.2.1, slot_ne h.s33 hd.2.2.2⟩
section
variable {F : Value → Prop} {cs : List Frame} {kk : List Item}
end
end Go.Proofs.YtlipmagkplbkdaaDoor

/-! Lit -/
namespace Go.Proofs.YtlipmagkplbkdaaDoor
open Go Go.Conc Go.RowKit
end Go.Proofs.YtlipmagkplbkdaaDoor
