/-
  Several texts in one.
-/
import Derived.Test.YtlipmagkplbkdaaDoorZ14
import Derived.Laws.Rows
import Derived.Test.YtlipmagkplbkdaaDoorZ15
/-! Nb9 -/
namespace Go.Proofs.YtlipmagkplbkdaaDoor
open Go.RowKit
set_option linter.unusedVariables false
set_option linter.unusedSimpArgs false
def vecV (n : Nat) (f : Nat → Value) : Array Value := ((List.range n).map f).toArray
theorem vecV_get {n i : Nat} (f : Nat → Value) (hi : i < n) : (vecV n f)[i]? = some (f i) := by unfold vecV; simp [hi]
theorem vecV_set (n k : Nat) (f : Nat → Value) (x : Value) : (vecV n f).setIfInBounds k x = vecV n (fun i => if i = k then x else f i) := by
  unfold vecV
  apply Array.ext_getElem?
  intro i
  rw [Array.getElem?_setIfInBounds]
  by_cases hi : i < n <;> by_cases hik : k = i
  · subst hik; simp [hi]
  · have : ¬ i = k := fun e => hik e.symm
    simp [hi, hik, this]
  · subst hik; simp [hi]
  · simp [hi, hik]
theorem vecV_made (n : Nat) (x : Value) : madeCells #[x] n = vecV n (fun _ => x) := by
  unfold madeCells vecV
  apply Array.ext_getElem?
  intro i
  by_cases hi : i < n <;> simp [hi, Nat.mod_one]
structure Prt (w : World) (g : Nat) (rs : List Rul) (s : Int) (l : List Cel) (D : Nat → Prop) (T : Nat → Value) : Prop where
  top : Blk w g 26 (vecV l.length T)
  row : ∀ i c, l[i]? = some c → D i → ∃ A cap, T i = .slice A (succR rs s c).1.length cap ∧ SlAt pCel (fun q => g < q ∧ q < w.heap.size) w A cap (succR rs s c).1
theorem Prt.same {w w' : World} {g : Nat} {rs : List Rul} {s : Int} {l : List Cel} {D : Nat → Prop} {T : Nat → Value} (h : Prt w g rs s l D T) (hb : Below w.heap.size w w') : Prt w' g rs s l D T := by
  refine ⟨h.top.same (hb.block _ h.top.lt), fun i c hc hd => ?_⟩
  obtain ⟨A, cap, h1, h2⟩ := h.row i c hc hd
  have hz := hb.size
  exact ⟨A, cap, h1, (h2.keep fun q hq => hb.block q hq.2).wide fun q hq => ⟨hq.1, by omega⟩⟩
theorem Prt.put {w : World} {g : Nat} {rs : List Rul} {s : Int} {l : List Cel} {D : Nat → Prop} {T : Nat → Value} (h : Prt w g rs s l D T) {k : Nat} {c : Cel} (hk : l[k]? = some c) {A : Option Addr} {cap : Nat} (hs : SlAt pCel (fun q => g < q ∧ q < w.heap.size) w A cap (succR rs s c).1) :
    Prt (w.setCell ⟨g, k, none⟩ (.slice A (succR rs s c).1.length cap)) g rs s l (fun i => D i ∨ i = k) (fun i => if i = k then .slice A (succR rs s c).1.length cap else T i) := by
  have hz : (w.setCell ⟨g, k, none⟩ (.slice A (succR rs s c).1.length cap)).heap.size = w.heap.size := by unfold World.setCell; simp
  have hkeep : ∀ q, (g < q ∧ q < w.heap.size) → (w.setCell ⟨g, k, none⟩ (.slice A (succR rs s c).1.length cap)).heap[q]? = w.heap[q]? := fun q hq => by
    unfold World.setCell; rw [Array.getElem?_modify, if_neg (by simp; omega)]
  refine ⟨?_, fun i c' hc hd => ?_⟩
  · have := h.top.set k (.slice A (succR rs s c).1.length cap)
    rwa [vecV_set] at this
  · by_cases hik : i = k
    · subst hik
      rw [hk] at hc
      cases hc
      exact ⟨A, cap, by simp, by rw [hz]; exact hs.keep hkeep⟩
    · obtain ⟨A', cap', h1, h2⟩ := h.row i c' hc (hd.resolve_right hik)
      exact ⟨A', cap', by simp [hik, h1], by rw [hz]; exact h2.keep hkeep⟩
structure Wst (rs : List Rul) (s : Int) (l : List Cel) (D : Nat → Prop) (e : Int) (ws : Nat) : Prop where
  le : ws ≤ l.length
  ok : ∀ i c, i < ws → l[i]? = some c → D i → (succR rs s c).2 = 0
  none : ws = l.length → e = 0
  at_ : ∀ c, l[ws]? = some c → e = (succR rs s c).2 ∧ e ≠ 0
theorem Wst.start (rs : List Rul) (s : Int) (l : List Cel) : Wst rs s l (fun _ => False) 0 l.length :=
  ⟨Nat.le_refl _, fun _ _ _ _ h => h.elim, fun _ => rfl, fun c h => by rw [List.getElem?_eq_none (Nat.le_refl _)] at h; cases h⟩
theorem Wst.keep {rs : List Rul} {s : Int} {l : List Cel} {D : Nat → Prop} {e : Int} {ws k : Nat} {c : Cel} (h : Wst rs s l D e ws) (hk : l[k]? = some c) (hn : (succR rs s c).2 = 0 ∨ ¬ k < ws) : Wst rs s l (fun i => D i ∨ i = k) e ws := by
  refine ⟨h.le, fun i c' hi hc hd => ?_, h.none, h.at_⟩
  rcases hd with hd | rfl
  · exact h.ok i c' hi hc hd
  · rw [hk] at hc; cases hc
    exact hn.resolve_right (fun h => h hi)
theorem Wst.turn {rs : List Rul} {s : Int} {l : List Cel} {D : Nat → Prop} {e : Int} {ws k : Nat} {c : Cel} (h : Wst rs s l D e ws) (hk : l[k]? = some c) (h0 : (succR rs s c).2 ≠ 0) (hlt : k < ws) : Wst rs s l (fun i => D i ∨ i = k) (succR rs s c).2 k := by
  have hkl := (List.getElem?_eq_some_iff.1 hk).1
  refine ⟨by omega, fun i c' hi hc hd => ?_, fun e => by omega, fun c' hc => ?_⟩
  · rcases hd with hd | rfl
    · exact h.ok i c' (by omega) hc hd
    · exact absurd hi (Nat.lt_irrefl _)
  · rw [hk] at hc; cases hc
    exact ⟨rfl, h0⟩
theorem errL_upto {rs : List Rul} {s : Int} {l : List Cel} {ws : Nat} (h : ∀ i c, i < ws → l[i]? = some c → (succR rs s c).2 = 0) : ∀ k, k ≤ ws → k ≤ l.length → errL rs s (l.take k) = 0
  | 0, _, _ => rfl
  | k + 1, h1, h2 => by
    have hc : l[k]? = some (l[k]'(by omega)) := List.getElem?_eq_getElem (by omega)
    rw [errL_snoc hc (errL_upto h k (by omega) (by omega))]
    exact h k _ (by omega) hc
theorem Wst.done {rs : List Rul} {s : Int} {l : List Cel} {D : Nat → Prop} {e : Int} {ws : Nat} (h : Wst rs s l D e ws) (hD : ∀ i, i < l.length → D i) : errL rs s l = e := by
  have hok : ∀ i c, i < ws → l[i]? = some c → (succR rs s c).2 = 0 := fun i c hi hc => h.ok i c hi hc (hD i (List.getElem?_eq_some_iff.1 hc).1)
  have h0 := errL_upto hok ws (Nat.le_refl _) h.le
  by_cases hn : ws = l.length
  · rw [h.none hn]
    rw [hn, List.take_length] at h0
    exact h0
  · have hlt : ws < l.length := by have := h.le; omega
    have hc : l[ws]? = some l[ws] := List.getElem?_eq_getElem hlt
    obtain ⟨h1, h2⟩ := h.at_ _ hc
    have h3 := errL_snoc hc h0
    rw [errL_take (by rw [h3, ← h1]; exact h2), h3, h1]
def trn9 (off n j : Nat) : Nat := (j + off) % n
theorem trn9_all {off n : Nat} (ho : off < n) {k : Nat} (hk : k < n) : ∃ j, j < n ∧ trn9 off n j = k := by
  unfold trn9
  by_cases h : off ≤ k
  · exact ⟨k - off, by omega, by rw [Nat.sub_add_cancel h, Nat.mod_eq_of_lt hk]⟩
  · refine ⟨k + n - off, by omega, ?_⟩
    rw [Nat.sub_add_cancel (by omega), Nat.add_mod_right, Nat.mod_eq_of_lt hk]
end Go.Proofs.YtlipmagkplbkdaaDoor

/-! Nc9 -/
namespace Go.Proofs.YtlipmagkplbkdaaDoor
open Go Go.Conc Go.RowKit
set_option linter.unusedVariables false
set_option linter.unusedSimpArgs false
set_option maxRecDepth 100000 in
theorem act_lit124 {a : Act} (hd : a.defers = []) (hz : a.tmps.size = 124) : a = { tmps := #[a.tmps.getD 0 undef, a.tmps.getD 1 undef, a.tmps.getD 2 undef, a.tmps.getD 3 undef, a.tmps.getD 4 undef, a.tmps.getD 5 undef, a.tmps.getD 6 undef, a.tmps.getD 7 undef, a.tmps.getD 8 undef, a.tmps.getD 9 undef, a.tmps.getD 10 undef, a.tmps.getD 11 undef, a.tmps.getD 12 undef, a.tmps.getD 13 undef, a.tmps.getD 14 undef, a.tmps.getD 15 undef, a.tmps.getD 16 undef, a.tmps.getD 17 undef, a.tmps.getD 18 undef, a.tmps.getD 19 undef, a.tmps.getD 20 undef, a.tmps.getD 21 undef, a.tmps.getD 22 undef, a.tmps.getD 23 undef, a.tmps.getD 24 undef, a.tmps.getD 25 undef, a.tmps.getD 26 undef, a.tmps.getD 27 undef, a.tmps.getD 28 undef, a.tmps.getD 29 undef, a.tmps.getD 30 undef, a.tmps.getD 31 undef, a.tmps.getD 32 undef, a.tmps.getD 33 undef, a.tmps.getD 34 undef, a.tmps.getD 35 undef, a.tmps.getD 36 undef, a.tmps.getD 37 undef, a.tmps.getD 38 undef, a.tmps.getD 39 undef, a.tmps.getD 40 undef, a.tmps.getD 41 undef, a.tmps.getD 42 undef, a.tmps.getD 43 undef, a.tmps.getD 44 undef, a.tmps.getD 45 undef, a.tmps.getD 46 undef, a.tmps.getD 47 undef, a.tmps.getD 48 undef, a.tmps.getD 49 undef, a.tmps.getD 50 undef, a.tmps.getD 51 undef, a.tmps.getD 52 undef, a.tmps.getD 53 undef, a.tmps.getD 54 undef, a.tmps.getD 55 undef, a.tmps.getD 56 undef, a.tmps.getD 57 undef, a.tmps.getD 58 undef, a.tmps.getD 59 undef, a.tmps.getD 60 undef, a.tmps.getD 61 undef, a.tmps.getD 62 undef, a.tmps.getD 63 undef, a.tmps.getD 64 undef, a.tmps.getD 65 undef, a.tmps.getD 66 undef, a.tmps.getD 67 undef, a.tmps.getD 68 undef, a.tmps.getD 69 undef, a.tmps.getD 70 undef, a.tmps.getD 71 undef, a.tmps.getD 72 undef, a.tmps.getD 73 undef, a.tmps.getD 74 undef, a.tmps.getD 75 undef, a.tmps.getD 76 undef, a.tmps.getD 77 undef, a.tmps.getD 78 undef, a.tmps.getD 79 undef, a.tmps.getD 80 undef, a.tmps.getD 81 undef, a.tmps.getD 82 undef, a.tmps.getD 83 undef, a.tmps.getD 84 undef, a.tmps.getD 85 undef, a.tmps.getD 86 undef, a.tmps.getD 87 undef, a.tmps.getD 88 undef, a.tmps.getD 89 undef, a.tmps.getD 90 undef, a.tmps.getD 91 undef, a.tmps.getD 92 undef, a.tmps.getD 93 undef, a.tmps.getD 94 undef, a.tmps.getD 95 undef, a.tmps.getD 96 undef, a.tmps.getD 97 undef, a.tmps.getD 98 undef, a.tmps.getD 99 undef, a.tmps.getD 100 undef, a.tmps.getD 101 undef, a.tmps.getD 102 undef, a.tmps.getD 103 undef, a.tmps.getD 104 undef, a.tmps.getD 105 undef, a.tmps.getD 106 undef, a.tmps.getD 107 undef, a.tmps.getD 108 undef, a.tmps.getD 109 undef, a.tmps.getD 110 undef, a.tmps.getD 111 undef, a.tmps.getD 112 undef, a.tmps.getD 113 undef, a.tmps.getD 114 undef, a.tmps.getD 115 undef, a.tmps.getD 116 undef, a.tmps.getD 117 undef, a.tmps.getD 118 undef, a.tmps.getD 119 undef, a.tmps.getD 120 undef, a.tmps.getD 121 undef, a.tmps.getD 122 undef, a.tmps.getD 123 undef], defers := [] } := by
  obtain ⟨tm, df⟩ := a
  obtain rfl : df = [] := hd
  have hz : tm.size = 124 := hz
  refine congrArg (fun t => ({ tmps := t, defers := [] } : Act)) ?_
  apply Array.ext
  · rw [hz]; rfl
  · intro i h1 h2
    rw [hz] at h1
    rw [show tm[i] = tm.getD i undef by rw [Array.getD_eq_getD_getElem?, Array.getElem?_eq_getElem (by omega)]; rfl]
    match i, h1 with
    | 0, _ => rfl
    | 1, _ => rfl
    | 2, _ => rfl
    | 3, _ => rfl
    | 4, _ => rfl
    | 5, _ => rfl
    | 6, _ => rfl
    | 7, _ => rfl
    | 8, _ => rfl
    | 9, _ => rfl
    | 10, _ => rfl
    | 11, _ => rfl
    | 12, _ => rfl
    | 13, _ => rfl
    | 14, _ => rfl
    | 15, _ => rfl
    | 16, _ => rfl
    | 17, _ => rfl
    | 18, _ => rfl
    | 19, _ => rfl
    | 20, _ => rfl
    | 21, _ => rfl
    | 22, _ => rfl
    | 23, _ => rfl
    | 24, _ => rfl
    | 25, _ => rfl
    | 26, _ => rfl
    | 27, _ => rfl
    | 28, _ => rfl
    | 29, _ => rfl
    | 30, _ => rfl
    | 31, _ => rfl
    | 32, _ => rfl
    | 33, _ => rfl
    | 34, _ => rfl
    | 35, _ => rfl
    | 36, _ => rfl
    | 37, _ => rfl
    | 38, _ => rfl
    | 39, _ => rfl
    | 40, _ => rfl
    | 41, _ => rfl
    | 42, _ => rfl
    | 43, _ => rfl
    | 44, _ => rfl
    | 45, _ => rfl
    | 46, _ => rfl
    | 47, _ => rfl
    | 48, _ => rfl
    | 49, _ => rfl
    | 50, _ => rfl
    | 51, _ => rfl
    | 52, _ => rfl
    | 53, _ => rfl
    | 54, _ => rfl
    | 55, _ => rfl
    | 56, _ => rfl
    | 57, _ => rfl
    | 58, _ => rfl
    | 59, _ => rfl
    | 60, _ => rfl
    | 61, _ => rfl
    | 62, _ => rfl
    | 63, _ => rfl
    | 64, _ => rfl
    | 65, _ => rfl
    | 66, _ => rfl
    | 67, _ => rfl
    | 68, _ => rfl
    | 69, _ => rfl
    | 70, _ => rfl
    | 71, _ => rfl
    | 72, _ => rfl
    | 73, _ => rfl
    | 74, _ => rfl
    | 75, _ => rfl
    | 76, _ => rfl
    | 77, _ => rfl
    | 78, _ => rfl
    | 79, _ => rfl
    | 80, _ => rfl
    | 81, _ => rfl
    | 82, _ => rfl
    | 83, _ => rfl
    | 84, _ => rfl
    | 85, _ => rfl
    | 86, _ => rfl
    | 87, _ => rfl
    | 88, _ => rfl
    | 89, _ => rfl
    | 90, _ => rfl
    | 91, _ => rfl
    | 92, _ => rfl
    | 93, _ => rfl
    | 94, _ => rfl
    | 95, _ => rfl
    | 96, _ => rfl
    | 97, _ => rfl
    | 98, _ => rfl
    | 99, _ => rfl
    | 100, _ => rfl
    | 101, _ => rfl
    | 102, _ => rfl
    | 103, _ => rfl
    | 104, _ => rfl
    | 105, _ => rfl
    | 106, _ => rfl
    | 107, _ => rfl
    | 108, _ => rfl
    | 109, _ => rfl
    | 110, _ => rfl
    | 111, _ => rfl
    | 112, _ => rfl
    | 113, _ => rfl
    | 114, _ => rfl
    | 115, _ => rfl
    | 116, _ => rfl
    | 117, _ => rfl
    | 118, _ => rfl
    | 119, _ => rfl
    | 120, _ => rfl
    | 121, _ => rfl
    | 122, _ => rfl
    | 123, _ => rfl
    | j + 124, h => exact absurd h (by omega)
noncomputable def ptB : Code := match Tryd.f8.body with | some c => c | none => .skip
theorem ptBody : Tryd.f8.body = some ptB := by kernel_rfl
noncomputable def ptR0 : Code := match ptB with | .seq a _ => a | _ => .skip
noncomputable def ptR1 : Code := match ptB with | .seq _ (.seq (.seq a _) _) => a | _ => .skip
noncomputable def ptO2 : Array Oper := match ptB with | .seq _ (.seq (.seq _ (.cond _ (.seq (.region _ o _) _) _)) _) => o | _ => #[]
noncomputable def ptR3 : Code := match ptB with | .seq _ (.seq _ (.seq a _)) => a | _ => .skip
noncomputable def ptR4 : Code := match ptB with | .seq _ (.seq _ (.seq _ (.seq a _))) => a | _ => .skip
noncomputable def ptR5 : Code := match ptB with | .seq _ (.seq _ (.seq _ (.seq _ (.seq a _)))) => a | _ => .skip
noncomputable def ptX : Code := match ptB with | .seq _ (.seq _ (.seq _ (.seq _ (.seq _ (.seq a _))))) => a | _ => .skip
noncomputable def ptR16 : Code := match ptB with | .seq _ (.seq _ (.seq _ (.seq _ (.seq _ (.seq _ (.seq a _)))))) => a | _ => .skip
noncomputable def ptY : Code := match ptB with | .seq _ (.seq _ (.seq _ (.seq _ (.seq _ (.seq _ (.seq _ (.seq a _))))))) => a | _ => .skip
noncomputable def ptO21 : Array Oper := match ptB with | .seq _ (.seq _ (.seq _ (.seq _ (.seq _ (.seq _ (.seq _ (.seq _ (.seq (.region _ o _) _)))))))) => o | _ => #[]
noncomputable def ptT : Code := match ptB with | .seq _ (.seq _ (.seq _ (.seq _ (.seq _ (.seq _ (.seq _ (.seq _ (.seq _ a)))))))) => a | _ => .skip
theorem ptB_eq : ptB = .seq ptR0 (.seq (.seq ptR1 (.cond (.tmp 23) (.seq (.region 2 ptO2 false) .ret) .skip)) (.seq ptR3 (.seq ptR4 (.seq ptR5 (.seq ptX (.seq ptR16 (.seq ptY (.seq (.region 21 ptO21 false) ptT)))))))) := by kernel_rfl
theorem ptTm (RA LA : Option Addr) (rc lc m1 m2 : Nat) (s first : Int) : (#[.slice RA m1 rc, .int .i64 s, .slice LA m2 lc, .int .i64 first] ++ Array.replicate (Tryd.f8.ntmps - (#[.slice RA m1 rc, .int .i64 s, .slice LA m2 lc, .int .i64 first] : Array Value).size) undef : Array Value) = #[.slice RA m1 rc, .int .i64 s, .slice LA m2 lc, .int .i64 first, undef, undef, undef, undef, undef, undef, undef, undef, undef, undef, undef, undef, undef, undef, undef, undef, undef, undef, undef, undef, undef, undef, undef, undef, undef, undef, undef, undef, undef, undef, undef, undef, undef, undef, undef, undef, undef, undef, undef, undef, undef, undef, undef, undef, undef, undef, undef, undef, undef, undef, undef, undef, undef, undef, undef, undef, undef, undef, undef, undef, undef, undef, undef, undef, undef, undef, undef, undef, undef, undef, undef, undef, undef, undef, undef, undef, undef, undef, undef, undef, undef, undef, undef, undef, undef, undef, undef, undef, undef, undef, undef, undef, undef, undef, undef, undef, undef, undef, undef, undef, undef, undef, undef, undef, undef, undef, undef, undef, undef, undef, undef, undef, undef, undef, undef, undef, undef, undef, undef, undef] := by kernel_rfl
theorem tokR0 : okC Tryd.prog gR sR ptR0 = true := by kernel_rfl
theorem tokR1 : okC Tryd.prog gR sR ptR1 = true := by kernel_rfl
theorem tokR3 : okC Tryd.prog gR sR ptR3 = true := by kernel_rfl
theorem tokR4 : okC Tryd.prog gR sR ptR4 = true := by kernel_rfl
theorem tokR5 : okC Tryd.prog gR sR ptR5 = true := by kernel_rfl
theorem tokX : okC Tryd.prog gR sR ptX = true := by kernel_rfl
theorem tokR16 : okC Tryd.prog gR sR ptR16 = true := by kernel_rfl
theorem tokY : okC Tryd.prog gR sR ptY = true := by kernel_rfl
def bPt : Frame := { (default : Frame) with fn := 8, kind := .normal }
theorem bPt_fn : ∃ fn, Tryd.prog.funcs[bPt.fn]? = some fn := ⟨Tryd.f8, Tryd.func8⟩
theorem Prt.at2 {v : World} {g : Nat} {rs : List Rul} {s : Int} {l : List Cel} {D : Nat → Prop} {T : Nat → Value} (h : Prt v g rs s l D T) (τ : Nat → Question → Nat) (d : Nat) : Prt (Go.Proofs.YtlipmagkplbkdaaDoor.at2 v τ d) g rs s l D T := ⟨h.top.same rfl, fun i c hc hd => by obtain ⟨A, cap, h1, h2⟩ := h.row i c hc hd; exact ⟨A, cap, h1, h2.keep fun _ _ => rfl⟩⟩
theorem Prt.sub {v : World} {g : Nat} {rs : List Rul} {s : Int} {l : List Cel} {D D' : Nat → Prop} {T : Nat → Value} (h : Prt v g rs s l D T) (hD : ∀ i, D' i → D i) : Prt v g rs s l D' T := ⟨h.top, fun i c hc hd => h.row i c hc (hD i hd)⟩
theorem Wst.sub {rs : List Rul} {s : Int} {l : List Cel} {D D' : Nat → Prop} {e : Int} {ws : Nat} (h : Wst rs s l D e ws) (hD : ∀ i, D' i → D i) : Wst rs s l D' e ws := ⟨h.le, fun i c hi hc hd => h.ok i c hi hc (hD i hd), h.none, h.at_⟩
theorem Kp.setC {v w : World} {g j : Nat} {x : Value} (h : Kp v w) (hg : v.heap.size ≤ g) : Kp v (w.setCell ⟨g, j, none⟩ x) := by
  refine ⟨by have := h.size; unfold World.setCell; simpa using this, fun a ha => (World.cell?_of_block ?_).trans (h.cell a ha)⟩
  unfold World.setCell
  rw [Array.getElem?_modify, if_neg (by simp; omega)]
def Trd9 (off n k : Nat) (q : Nat) : Prop := ∃ j, j < k ∧ trn9 off n j = q
theorem Trd9.snoc {off n k q : Nat} (h : Trd9 off n (k + 1) q) : Trd9 off n k q ∨ q = trn9 off n k := by
  obtain ⟨j, hj, rfl⟩ := h
  by_cases e : j = k
  · subst e; exact .inr rfl
  · exact .inl ⟨j, by omega, rfl⟩
section
variable {F : Value → Prop} {cs : List Frame}
set_option maxRecDepth 100000 in
set_option maxHeartbeats 4000000 in
theorem pt_x {RA LA : Option Addr} {rc lc g : Nat} {rs : List Rul} {l : List Cel} {s first : Int} {off : Nat} {ch : Option Nat} {v v0 : World} {a : Act} {T0 : Nat → Value} {rest : Code} (hz : a.tmps.size = 124) (hd : a.defers = []) (s0 : slot a 0 (.slice RA rs.length rc)) (s1 : slot a 1 (.int .i64 s)) (s2 : slot a 2 (.slice LA l.length lc)) (s3 : slot a 3 (.int .i64 first)) (s8 : slot a 8 (.bool false)) (s9 : slot a 9 (.slice (some ⟨g, 0, none⟩) l.length l.length)) (s10 : slot a 10 (.int .i64 0)) (s11 : slot a 11 (.int .i64 l.length))
    (hr : SlAt pRul (Old v0) v0 RA rc rs) (hl : SlAt pCel (Old v0) v0 LA lc l) (hs : Fits .i64 s) (hsm : Small rs) (hc0 : checkC rs = 0) (hcl : cellsR l = 0) (ht : TabAt v0) (hg : GAt v0) (k0 : Kp v0 v) (hgz : v0.heap.size ≤ g) (hp : Prt v g rs s l (fun _ => False) T0)
    (hoff : (0 ≤ first ∧ first < (l.length : Int) ∧ (off : Int) = first) ∨ (¬ (0 ≤ first ∧ first < (l.length : Int)) ∧ off = 0))
    (hk : ∀ a v' T, a.tmps.size = 124 → a.defers = [] → slot a 0 (.slice RA rs.length rc) → slot a 1 (.int .i64 s) → slot a 2 (.slice LA l.length lc) → slot a 8 (.bool false) → slot a 9 (.slice (some ⟨g, 0, none⟩) l.length l.length) → slot a 10 (.int .i64 (errL rs s l)) → Kp v0 v' → Prt v' g rs s l (fun i => i < l.length) T → MS Tryd.prog SR gR sR F [] ch (bPt.at a [.code rest]) cs v') :
    MS Tryd.prog SR gR sR F [] ch (bPt.at a [.code (.seq ptX rest)]) cs v := by
  have hX : Walk Tryd.prog SR gR sR (MS Tryd.prog SR gR sR F [] ch) := MS.walk ctxR
  have hlen := (cells_fine hcl).1
  rw [act_lit124 hd hz]
  rw [show (a.tmps.getD 0 undef) = _ from s0, show (a.tmps.getD 1 undef) = _ from s1, show (a.tmps.getD 2 undef) = _ from s2, show (a.tmps.getD 3 undef) = _ from s3, show (a.tmps.getD 8 undef) = _ from s8, show (a.tmps.getD 9 undef) = _ from s9, show (a.tmps.getD 10 undef) = _ from s10, show (a.tmps.getD 11 undef) = _ from s11]
  refine hX.seq (hX.wp ctxR rfl bPt_fn tokX fun τ d => ?_)
  have k1 : Kp v0 (Go.Proofs.YtlipmagkplbkdaaDoor.at2 v τ d) := k0.trans (Kp.at2 _ _ _)
  have hp1 := hp.at2 τ d
  generalize Go.Proofs.YtlipmagkplbkdaaDoor.at2 v τ d = v1 at k1 hp1 ⊢
  clear k0 hp s0 s1 s2 s3 s8 s9 s10 s11
  generalize (a.tmps.getD 4 undef) = j4
  generalize (a.tmps.getD 5 undef) = j5
  generalize (a.tmps.getD 6 undef) = j6
  generalize (a.tmps.getD 7 undef) = j7
  generalize (a.tmps.getD 12 undef) = j12
  generalize (a.tmps.getD 13 undef) = j13
  generalize (a.tmps.getD 14 undef) = j14
  generalize (a.tmps.getD 15 undef) = j15
  generalize (a.tmps.getD 16 undef) = j16
  generalize (a.tmps.getD 17 undef) = j17
  generalize (a.tmps.getD 18 undef) = j18
  generalize (a.tmps.getD 19 undef) = j19
  generalize (a.tmps.getD 20 undef) = j20
  generalize (a.tmps.getD 21 undef) = j21
  generalize (a.tmps.getD 22 undef) = j22
  generalize (a.tmps.getD 23 undef) = j23
  generalize (a.tmps.getD 24 undef) = j24
  generalize (a.tmps.getD 25 undef) = j25
  generalize (a.tmps.getD 26 undef) = j26
  generalize (a.tmps.getD 27 undef) = j27
  generalize (a.tmps.getD 28 undef) = j28
  generalize (a.tmps.getD 29 undef) = j29
  generalize (a.tmps.getD 30 undef) = j30
  generalize (a.tmps.getD 31 undef) = j31
  generalize (a.tmps.getD 32 undef) = j32
  generalize (a.tmps.getD 33 undef) = j33
  generalize (a.tmps.getD 34 undef) = j34
  generalize (a.tmps.getD 35 undef) = j35
  generalize (a.tmps.getD 36 undef) = j36
  generalize (a.tmps.getD 37 undef) = j37
  generalize (a.tmps.getD 38 undef) = j38
  generalize (a.tmps.getD 39 undef) = j39
  generalize (a.tmps.getD 40 undef) = j40
  generalize (a.tmps.getD 41 undef) = j41
  generalize (a.tmps.getD 42 undef) = j42
  generalize (a.tmps.getD 43 undef) = j43
  generalize (a.tmps.getD 44 undef) = j44
  generalize (a.tmps.getD 45 undef) = j45
  generalize (a.tmps.getD 46 undef) = j46
  generalize (a.tmps.getD 47 undef) = j47
  generalize (a.tmps.getD 48 undef) = j48
  generalize (a.tmps.getD 49 undef) = j49
  generalize (a.tmps.getD 50 undef) = j50
  generalize (a.tmps.getD 51 undef) = j51
  generalize (a.tmps.getD 52 undef) = j52
  generalize (a.tmps.getD 53 undef) = j53
  generalize (a.tmps.getD 54 undef) = j54
  generalize (a.tmps.getD 55 undef) = j55
  generalize (a.tmps.getD 56 undef) = j56
  generalize (a.tmps.getD 57 undef) = j57
  generalize (a.tmps.getD 58 undef) = j58
  generalize (a.tmps.getD 59 undef) = j59
  generalize (a.tmps.getD 60 undef) = j60
  generalize (a.tmps.getD 61 undef) = j61
  generalize (a.tmps.getD 62 undef) = j62
  generalize (a.tmps.getD 63 undef) = j63
  generalize (a.tmps.getD 64 undef) = j64
  generalize (a.tmps.getD 65 undef) = j65
  generalize (a.tmps.getD 66 undef) = j66
  generalize (a.tmps.getD 67 undef) = j67
  generalize (a.tmps.getD 68 undef) = j68
  generalize (a.tmps.getD 69 undef) = j69
  generalize (a.tmps.getD 70 undef) = j70
  generalize (a.tmps.getD 71 undef) = j71
  generalize (a.tmps.getD 72 undef) = j72
  generalize (a.tmps.getD 73 undef) = j73
  generalize (a.tmps.getD 74 undef) = j74
  generalize (a.tmps.getD 75 undef) = j75
  generalize (a.tmps.getD 76 undef) = j76
  generalize (a.tmps.getD 77 undef) = j77
  generalize (a.tmps.getD 78 undef) = j78
  generalize (a.tmps.getD 79 undef) = j79
  generalize (a.tmps.getD 80 undef) = j80
  generalize (a.tmps.getD 81 undef) = j81
  generalize (a.tmps.getD 82 undef) = j82
  generalize (a.tmps.getD 83 undef) = j83
  generalize (a.tmps.getD 84 undef) = j84
  generalize (a.tmps.getD 85 undef) = j85
  generalize (a.tmps.getD 86 undef) = j86
  generalize (a.tmps.getD 87 undef) = j87
  generalize (a.tmps.getD 88 undef) = j88
  generalize (a.tmps.getD 89 undef) = j89
  generalize (a.tmps.getD 90 undef) = j90
  generalize (a.tmps.getD 91 undef) = j91
  generalize (a.tmps.getD 92 undef) = j92
  generalize (a.tmps.getD 93 undef) = j93
  generalize (a.tmps.getD 94 undef) = j94
  generalize (a.tmps.getD 95 undef) = j95
  generalize (a.tmps.getD 96 undef) = j96
  generalize (a.tmps.getD 97 undef) = j97
  generalize (a.tmps.getD 98 undef) = j98
  generalize (a.tmps.getD 99 undef) = j99
  generalize (a.tmps.getD 100 undef) = j100
  generalize (a.tmps.getD 101 undef) = j101
  generalize (a.tmps.getD 102 undef) = j102
  generalize (a.tmps.getD 103 undef) = j103
  generalize (a.tmps.getD 104 undef) = j104
  generalize (a.tmps.getD 105 undef) = j105
  generalize (a.tmps.getD 106 undef) = j106
  generalize (a.tmps.getD 107 undef) = j107
  generalize (a.tmps.getD 108 undef) = j108
  generalize (a.tmps.getD 109 undef) = j109
  generalize (a.tmps.getD 110 undef) = j110
  generalize (a.tmps.getD 111 undef) = j111
  generalize (a.tmps.getD 112 undef) = j112
  generalize (a.tmps.getD 113 undef) = j113
  generalize (a.tmps.getD 114 undef) = j114
  generalize (a.tmps.getD 115 undef) = j115
  generalize (a.tmps.getD 116 undef) = j116
  generalize (a.tmps.getD 117 undef) = j117
  generalize (a.tmps.getD 118 undef) = j118
  generalize (a.tmps.getD 119 undef) = j119
  generalize (a.tmps.getD 120 undef) = j120
  generalize (a.tmps.getD 121 undef) = j121
  generalize (a.tmps.getD 122 undef) = j122
  generalize (a.tmps.getD 123 undef) = j123
  have hfirst : Fits .i64 first ∨ True := .inr trivial
  have Hr := Lib.hid hr; clear hr
  have Hl := Lib.hid hl; clear hl
  have Hk := Lib.hid hk; clear hk
  have HX := Lib.hid hX; clear hX
  have Ht := Lib.hid ht; clear ht
  have Hg := Lib.hid hg; clear hg
  have Hp1 := Lib.hid hp1; clear hp1
  have Hsm := Lib.hid hsm; clear hsm
  have Hc0 := Lib.hid hc0; clear hc0
  have Hcl := Lib.hid hcl; clear hcl
  have K1 := Lib.hid k1; clear k1
  dsimp only [ptX, ptB, Tryd.f8]
  rcases hoff with ⟨ho1, ho2, ho3⟩ | ⟨ho1, rfl⟩
  · go_wp2
    go_loopw [12, 10, 11] (fun i e ws wr => ∃ k : Nat, k ≤ l.length ∧ i = .int .i64 k ∧ ∃ (ev : Int) (wv : Nat) (T : Nat → Value), e = .int .i64 ev ∧ ws = .int .i64 wv ∧ Hid (Kp v0 wr) ∧ Hid (Prt wr g rs s l (Trd9 off l.length k) T) ∧ Hid (Wst rs s l (Trd9 off l.length k) ev wv)) (fun i _ _ _ => l.length - (intOf i).toNat)
    case atStart => exact ⟨0, Nat.zero_le _, rfl, 0, l.length, T0, rfl, rfl, K1, Hp1.out.sub (fun i h => by obtain ⟨j, h, _⟩ := h; exact absurd h (Nat.not_lt_zero _)), (Wst.start rs s l).sub (fun i h => by obtain ⟨j, h, _⟩ := h; exact absurd h (Nat.not_lt_zero _))⟩
    case round =>
      obtain ⟨k, hk', rfl, ev, wv, T, rfl, rfl, hkp, hpr, hws⟩ := hrel
      obtain ⟨wo, rfl⟩ : ∃ wo : World, wo = wr := ⟨_, rfl⟩
      by_cases hlt : k < l.length
      · obtain ⟨kk, htr⟩ : ∃ kk, trn9 off l.length k = kk := ⟨_, rfl⟩
        have hkl : kk < l.length := by rw [← htr]; exact Nat.mod_lt _ (by omega)
        have hm : ((k : Int) + first).tmod (l.length : Int) = (kk : Int) := by
          rw [← ho3, ← htr]
          rfl
        have hnz : ¬ ((l.length : Int) = 0) := by omega
        have hk0 : (0 : Int) ≤ (kk : Int) := by omega
        have hk1 : (kk : Int) < (l.length : Int) := by omega
        have Htr := Lib.hid htr; clear htr
        go_upto_region 12 with fail
        clear hm
        obtain ⟨b, o, A', dd, m, hdx, rfl, _, x0, x1, x2, _, hf8, hargs, _⟩ := (Hl.out.kp eqv_cel hkp.out).getCel hkl
        have gm : l[kk]? = some m := drop_get hdx.out
        have hmem : m ∈ l := List.mem_of_getElem? gm
        have hone := one_calls RA rc rs s m A' dd wo (Hr.out.kp eqv_rul hkp.out) hargs.out hf8 hs Hsm.out (cells_each Hcl.out m hmem).2 (Ht.out.kp hkp.out Hg.out) (Hg.out.kp hkp.out)
        have hon : oneR rs s m = succR rs s m := by unfold oneR; rw [if_pos Hc0.out, if_pos (by rw [(cells_fine Hcl.out).2.1 m hmem, (cells_each Hcl.out m hmem).1]; rfl)]
        rw [hon] at hone
        unfold CelsPost at hone
        obtain ⟨e1, he1⟩ : ∃ e1, (succR rs s m).2 = e1 := ⟨_, rfl⟩
        rw [he1] at hone
        obtain ⟨nx, hnx⟩ : ∃ nx, (succR rs s m).1.length = nx := ⟨_, rfl⟩
        rw [hnx] at hone
        have Hone := Lib.hid hone; clear hone
        have Gm := Lib.hid gm; clear gm
        have Hdx := Lib.hid hdx; clear hdx
        have Hargs := Lib.hid hargs; clear hargs
        have Hmem := Lib.hid hmem; clear hmem
        have Hon := Lib.hid hon; clear hon
        go_upto_region 13 with (go_at_call 27; refine Hone.out.mono ?_; rintro e w1 ⟨A6, c6, rfl, hs6, hb6⟩)
        have kw1 : Kp v0 w1 := hkp.out.trans (Kp.below hb6)
        have pw1 := hpr.out.same hb6
        have hgl := pw1.top.lt
        have hgl0 := hpr.out.top.lt
        have hcm : w1.cell? ⟨g, kk, none⟩ = some (T kk) := by rw [pw1.top.cell]; exact vecV_get T hkl
        have hfz : w1.frozen? ⟨g, kk, none⟩ = false := pw1.top.free kk
        have pput := pw1.put Gm.out (hs6.wide (F' := fun q => g < q ∧ q < w1.heap.size) fun q hq => ⟨by omega, hq.2⟩)
        rw [hnx] at pput
        have kput : Kp v0 (w1.setCell ⟨g, kk, none⟩ (.slice A6 nx c6)) := kw1.setC hgz
        have pput2 := pput.sub (D' := Trd9 off l.length (k + 1)) fun i hi => by have hq := hi.snoc; rwa [Htr.out] at hq
        have hw1 := he1
        clear hpr hkp pw1 hs6 hb6 x0 x1 x2 pput
        have Kw1 := Lib.hid kw1; clear kw1
        have Pput2 := Lib.hid pput2; clear pput2
        have Kput := Lib.hid kput; clear kput
        have Hnx := Lib.hid hnx; clear hnx
        by_cases h0 : e1 = 0
        · have e0 : (e1 != 0) = false := by simp [h0]
          have hws2 := (hws.out.keep Gm.out (.inl (he1.trans h0))).sub (D' := Trd9 off l.length (k + 1)) fun i hi => by have hq := hi.snoc; rwa [Htr.out] at hq
          have Hws2 := Lib.hid hws2; clear hws2
          have He1 := Lib.hid he1; clear he1
          clear hws h0 hw1
          go_wp2
          go_roundw
          case rel => exact ⟨k + 1, by omega, by go_num, ev, wv, _, rfl, rfl, Kput, Pput2, Hws2⟩
          case measure => simp [intOf]; omega
        · have e0 : (e1 != 0) = true := by simp [h0]
          by_cases hw : kk < wv
          · have hw' : (kk : Int) < (wv : Int) := by omega
            have hws2 := (hws.out.turn Gm.out (by rw [he1]; exact h0) hw).sub (D' := Trd9 off l.length (k + 1)) fun i hi => by have hq := hi.snoc; rwa [Htr.out] at hq
            rw [he1] at hws2
            have Hws2 := Lib.hid hws2; clear hws2
            have He1 := Lib.hid he1; clear he1
            clear hws h0 hw1 hw
            go_wp2
            go_roundw
            case rel => exact ⟨k + 1, by omega, by go_num, e1, kk, _, rfl, rfl, Kput, Pput2, Hws2⟩
            case measure => simp [intOf]; omega
          · have hw' : ¬ (kk : Int) < (wv : Int) := by omega
            have hws2 := (hws.out.keep Gm.out (.inr hw)).sub (D' := Trd9 off l.length (k + 1)) fun i hi => by have hq := hi.snoc; rwa [Htr.out] at hq
            have Hws2 := Lib.hid hws2; clear hws2
            have He1 := Lib.hid he1; clear he1
            clear hws h0 hw1 hw
            go_wp2
            go_roundw
            case rel => exact ⟨k + 1, by omega, by go_num, ev, wv, _, rfl, rfl, Kput, Pput2, Hws2⟩
            case measure => simp [intOf]; omega
      · have hlk : k = l.length := by omega
        subst hlk
        have hfin := (hws.out.done fun i hi => trn9_all (by omega) hi)
        have hpr2 := hpr.out.sub (D' := fun i => i < l.length) fun i hi => trn9_all (by omega) hi
        have Hfin := Lib.hid hfin; clear hfin
        have Hpr2 := Lib.hid hpr2; clear hpr2
        clear hws hpr
        go_wp2
        have hk2 := Hk.out
        rw [Hfin.out] at hk2
        exact hk2 _ _ _ rfl rfl rfl rfl rfl rfl rfl rfl hkp.out Hpr2.out
  · by_cases hf0 : 0 ≤ first
    · have hf1 : ¬ first < (l.length : Int) := fun h => ho1 ⟨hf0, h⟩
      clear ho1
      go_wp2
      go_loopw [12, 10, 11] (fun i e ws wr => ∃ k : Nat, k ≤ l.length ∧ i = .int .i64 k ∧ ∃ (ev : Int) (wv : Nat) (T : Nat → Value), e = .int .i64 ev ∧ ws = .int .i64 wv ∧ Hid (Kp v0 wr) ∧ Hid (Prt wr g rs s l (Trd9 0 l.length k) T) ∧ Hid (Wst rs s l (Trd9 0 l.length k) ev wv)) (fun i _ _ _ => l.length - (intOf i).toNat)
      case atStart => exact ⟨0, Nat.zero_le _, rfl, 0, l.length, T0, rfl, rfl, K1, Hp1.out.sub (fun i h => by obtain ⟨j, h, _⟩ := h; exact absurd h (Nat.not_lt_zero _)), (Wst.start rs s l).sub (fun i h => by obtain ⟨j, h, _⟩ := h; exact absurd h (Nat.not_lt_zero _))⟩
      case round =>
        obtain ⟨k, hk', rfl, ev, wv, T, rfl, rfl, hkp, hpr, hws⟩ := hrel
        obtain ⟨wo, rfl⟩ : ∃ wo : World, wo = wr := ⟨_, rfl⟩
        by_cases hlt : k < l.length
        · have htr : trn9 0 l.length k = k := Nat.mod_eq_of_lt hlt
          have hkl := hlt
          have hk0 : (0 : Int) ≤ (k : Int) := by omega
          have hk1 : (k : Int) < (l.length : Int) := by omega
          have Htr := Lib.hid htr; clear htr
          go_upto_region 12 with fail
          obtain ⟨b, o, A', dd, m, hdx, rfl, _, x0, x1, x2, _, hf8, hargs, _⟩ := (Hl.out.kp eqv_cel hkp.out).getCel hkl
          have gm : l[k]? = some m := drop_get hdx.out
          have hmem : m ∈ l := List.mem_of_getElem? gm
          have hone := one_calls RA rc rs s m A' dd wo (Hr.out.kp eqv_rul hkp.out) hargs.out hf8 hs Hsm.out (cells_each Hcl.out m hmem).2 (Ht.out.kp hkp.out Hg.out) (Hg.out.kp hkp.out)
          have hon : oneR rs s m = succR rs s m := by unfold oneR; rw [if_pos Hc0.out, if_pos (by rw [(cells_fine Hcl.out).2.1 m hmem, (cells_each Hcl.out m hmem).1]; rfl)]
          rw [hon] at hone
          unfold CelsPost at hone
          obtain ⟨e1, he1⟩ : ∃ e1, (succR rs s m).2 = e1 := ⟨_, rfl⟩
          rw [he1] at hone
          obtain ⟨nx, hnx⟩ : ∃ nx, (succR rs s m).1.length = nx := ⟨_, rfl⟩
          rw [hnx] at hone
          have Hone := Lib.hid hone; clear hone
          have Gm := Lib.hid gm; clear gm
          have Hdx := Lib.hid hdx; clear hdx
          have Hargs := Lib.hid hargs; clear hargs
          have Hmem := Lib.hid hmem; clear hmem
          have Hon := Lib.hid hon; clear hon
          go_upto_region 13 with (go_at_call 27; refine Hone.out.mono ?_; rintro e w1 ⟨A6, c6, rfl, hs6, hb6⟩)
          have kw1 : Kp v0 w1 := hkp.out.trans (Kp.below hb6)
          have pw1 := hpr.out.same hb6
          have hgl := pw1.top.lt
          have hgl0 := hpr.out.top.lt
          have hcm : w1.cell? ⟨g, k, none⟩ = some (T k) := by rw [pw1.top.cell]; exact vecV_get T hkl
          have hfz : w1.frozen? ⟨g, k, none⟩ = false := pw1.top.free k
          have pput := pw1.put Gm.out (hs6.wide (F' := fun q => g < q ∧ q < w1.heap.size) fun q hq => ⟨by omega, hq.2⟩)
          rw [hnx] at pput
          have kput : Kp v0 (w1.setCell ⟨g, k, none⟩ (.slice A6 nx c6)) := kw1.setC hgz
          have pput2 := pput.sub (D' := Trd9 0 l.length (k + 1)) fun i hi => by have hq := hi.snoc; rwa [Htr.out] at hq
          have hw1 := he1
          clear hpr hkp pw1 hs6 hb6 x0 x1 x2 pput
          have Kw1 := Lib.hid kw1; clear kw1
          have Pput2 := Lib.hid pput2; clear pput2
          have Kput := Lib.hid kput; clear kput
          have Hnx := Lib.hid hnx; clear hnx
          by_cases h0 : e1 = 0
          · have e0 : (e1 != 0) = false := by simp [h0]
            have hws2 := (hws.out.keep Gm.out (.inl (he1.trans h0))).sub (D' := Trd9 0 l.length (k + 1)) fun i hi => by have hq := hi.snoc; rwa [Htr.out] at hq
            have Hws2 := Lib.hid hws2; clear hws2
            have He1 := Lib.hid he1; clear he1
            clear hws h0 hw1
            go_wp2
            go_roundw
            case rel => exact ⟨k + 1, by omega, by go_num, ev, wv, _, rfl, rfl, Kput, Pput2, Hws2⟩
            case measure => simp [intOf]; omega
          · have e0 : (e1 != 0) = true := by simp [h0]
            by_cases hw : k < wv
            · have hw' : (k : Int) < (wv : Int) := by omega
              have hws2 := (hws.out.turn Gm.out (by rw [he1]; exact h0) hw).sub (D' := Trd9 0 l.length (k + 1)) fun i hi => by have hq := hi.snoc; rwa [Htr.out] at hq
              rw [he1] at hws2
              have Hws2 := Lib.hid hws2; clear hws2
              have He1 := Lib.hid he1; clear he1
              clear hws h0 hw1 hw
              go_wp2
              go_roundw
              case rel => exact ⟨k + 1, by omega, by go_num, e1, k, _, rfl, rfl, Kput, Pput2, Hws2⟩
              case measure => simp [intOf]; omega
            · have hw' : ¬ (k : Int) < (wv : Int) := by omega
              have hws2 := (hws.out.keep Gm.out (.inr hw)).sub (D' := Trd9 0 l.length (k + 1)) fun i hi => by have hq := hi.snoc; rwa [Htr.out] at hq
              have Hws2 := Lib.hid hws2; clear hws2
              have He1 := Lib.hid he1; clear he1
              clear hws h0 hw1 hw
              go_wp2
              go_roundw
              case rel => exact ⟨k + 1, by omega, by go_num, ev, wv, _, rfl, rfl, Kput, Pput2, Hws2⟩
              case measure => simp [intOf]; omega
        · have hlk : k = l.length := by omega
          subst hlk
          have hfin := (hws.out.done fun i hi => trn9_all (by omega) hi)
          have hpr2 := hpr.out.sub (D' := fun i => i < l.length) fun i hi => trn9_all (by omega) hi
          have Hfin := Lib.hid hfin; clear hfin
          have Hpr2 := Lib.hid hpr2; clear hpr2
          clear hws hpr
          go_wp2
          have hk2 := Hk.out
          rw [Hfin.out] at hk2
          exact hk2 _ _ _ rfl rfl rfl rfl rfl rfl rfl rfl hkp.out Hpr2.out
    · clear ho1
      go_wp2
      go_loopw [12, 10, 11] (fun i e ws wr => ∃ k : Nat, k ≤ l.length ∧ i = .int .i64 k ∧ ∃ (ev : Int) (wv : Nat) (T : Nat → Value), e = .int .i64 ev ∧ ws = .int .i64 wv ∧ Hid (Kp v0 wr) ∧ Hid (Prt wr g rs s l (Trd9 0 l.length k) T) ∧ Hid (Wst rs s l (Trd9 0 l.length k) ev wv)) (fun i _ _ _ => l.length - (intOf i).toNat)
      case atStart => exact ⟨0, Nat.zero_le _, rfl, 0, l.length, T0, rfl, rfl, K1, Hp1.out.sub (fun i h => by obtain ⟨j, h, _⟩ := h; exact absurd h (Nat.not_lt_zero _)), (Wst.start rs s l).sub (fun i h => by obtain ⟨j, h, _⟩ := h; exact absurd h (Nat.not_lt_zero _))⟩
      case round =>
        obtain ⟨k, hk', rfl, ev, wv, T, rfl, rfl, hkp, hpr, hws⟩ := hrel
        obtain ⟨wo, rfl⟩ : ∃ wo : World, wo = wr := ⟨_, rfl⟩
        by_cases hlt : k < l.length
        · have htr : trn9 0 l.length k = k := Nat.mod_eq_of_lt hlt
          have hkl := hlt
          have hk0 : (0 : Int) ≤ (k : Int) := by omega
          have hk1 : (k : Int) < (l.length : Int) := by omega
          have Htr := Lib.hid htr; clear htr
          go_upto_region 12 with fail
          obtain ⟨b, o, A', dd, m, hdx, rfl, _, x0, x1, x2, _, hf8, hargs, _⟩ := (Hl.out.kp eqv_cel hkp.out).getCel hkl
          have gm : l[k]? = some m := drop_get hdx.out
          have hmem : m ∈ l := List.mem_of_getElem? gm
          have hone := one_calls RA rc rs s m A' dd wo (Hr.out.kp eqv_rul hkp.out) hargs.out hf8 hs Hsm.out (cells_each Hcl.out m hmem).2 (Ht.out.kp hkp.out Hg.out) (Hg.out.kp hkp.out)
          have hon : oneR rs s m = succR rs s m := by unfold oneR; rw [if_pos Hc0.out, if_pos (by rw [(cells_fine Hcl.out).2.1 m hmem, (cells_each Hcl.out m hmem).1]; rfl)]
          rw [hon] at hone
          unfold CelsPost at hone
          obtain ⟨e1, he1⟩ : ∃ e1, (succR rs s m).2 = e1 := ⟨_, rfl⟩
          rw [he1] at hone
          obtain ⟨nx, hnx⟩ : ∃ nx, (succR rs s m).1.length = nx := ⟨_, rfl⟩
          rw [hnx] at hone
          have Hone := Lib.hid hone; clear hone
          have Gm := Lib.hid gm; clear gm
          have Hdx := Lib.hid hdx; clear hdx
          have Hargs := Lib.hid hargs; clear hargs
          have Hmem := Lib.hid hmem; clear hmem
          have Hon := Lib.hid hon; clear hon
          go_upto_region 13 with (go_at_call 27; refine Hone.out.mono ?_; rintro e w1 ⟨A6, c6, rfl, hs6, hb6⟩)
          have kw1 : Kp v0 w1 := hkp.out.trans (Kp.below hb6)
          have pw1 := hpr.out.same hb6
          have hgl := pw1.top.lt
          have hgl0 := hpr.out.top.lt
          have hcm : w1.cell? ⟨g, k, none⟩ = some (T k) := by rw [pw1.top.cell]; exact vecV_get T hkl
          have hfz : w1.frozen? ⟨g, k, none⟩ = false := pw1.top.free k
          have pput := pw1.put Gm.out (hs6.wide (F' := fun q => g < q ∧ q < w1.heap.size) fun q hq => ⟨by omega, hq.2⟩)
          rw [hnx] at pput
          have kput : Kp v0 (w1.setCell ⟨g, k, none⟩ (.slice A6 nx c6)) := kw1.setC hgz
          have pput2 := pput.sub (D' := Trd9 0 l.length (k + 1)) fun i hi => by have hq := hi.snoc; rwa [Htr.out] at hq
          have hw1 := he1
          clear hpr hkp pw1 hs6 hb6 x0 x1 x2 pput
          have Kw1 := Lib.hid kw1; clear kw1
          have Pput2 := Lib.hid pput2; clear pput2
          have Kput := Lib.hid kput; clear kput
          have Hnx := Lib.hid hnx; clear hnx
          by_cases h0 : e1 = 0
          · have e0 : (e1 != 0) = false := by simp [h0]
            have hws2 := (hws.out.keep Gm.out (.inl (he1.trans h0))).sub (D' := Trd9 0 l.length (k + 1)) fun i hi => by have hq := hi.snoc; rwa [Htr.out] at hq
            have Hws2 := Lib.hid hws2; clear hws2
            have He1 := Lib.hid he1; clear he1
            clear hws h0 hw1
            go_wp2
            go_roundw
            case rel => exact ⟨k + 1, by omega, by go_num, ev, wv, _, rfl, rfl, Kput, Pput2, Hws2⟩
            case measure => simp [intOf]; omega
          · have e0 : (e1 != 0) = true := by simp [h0]
            by_cases hw : k < wv
            · have hw' : (k : Int) < (wv : Int) := by omega
              have hws2 := (hws.out.turn Gm.out (by rw [he1]; exact h0) hw).sub (D' := Trd9 0 l.length (k + 1)) fun i hi => by have hq := hi.snoc; rwa [Htr.out] at hq
              rw [he1] at hws2
              have Hws2 := Lib.hid hws2; clear hws2
              have He1 := Lib.hid he1; clear he1
              clear hws h0 hw1 hw
              go_wp2
              go_roundw
              case rel => exact ⟨k + 1, by omega, by go_num, e1, k, _, rfl, rfl, Kput, Pput2, Hws2⟩
              case measure => simp [intOf]; omega
            · have hw' : ¬ (k : Int) < (wv : Int) := by omega
              have hws2 := (hws.out.keep Gm.out (.inr hw)).sub (D' := Trd9 0 l.length (k + 1)) fun i hi => by have hq := hi.snoc; rwa [Htr.out] at hq
              have Hws2 := Lib.hid hws2; clear hws2
              have He1 := Lib.hid he1; clear he1
              clear hws h0 hw1 hw
              go_wp2
              go_roundw
              case rel => exact ⟨k + 1, by omega, by go_num, ev, wv, _, rfl, rfl, Kput, Pput2, Hws2⟩
              case measure => simp [intOf]; omega
        · have hlk : k = l.length := by omega
          subst hlk
          have hfin := (hws.out.done fun i hi => trn9_all (by omega) hi)
          have hpr2 := hpr.out.sub (D' := fun i => i < l.length) fun i hi => trn9_all (by omega) hi
          have Hfin := Lib.hid hfin; clear hfin
          have Hpr2 := Lib.hid hpr2; clear hpr2
          clear hws hpr
          go_wp2
          have hk2 := Hk.out
          rw [Hfin.out] at hk2
          exact hk2 _ _ _ rfl rfl rfl rfl rfl rfl rfl rfl hkp.out Hpr2.out
end
end Go.Proofs.YtlipmagkplbkdaaDoor

/-! Nd9 -/
namespace Go.Proofs.YtlipmagkplbkdaaDoor
open Go Go.Conc Go.RowKit
set_option linter.unusedVariables false
set_option linter.unusedSimpArgs false
theorem info_slC : (Tryd.prog.info? 26).map (fun i => (i.zero, i.size, i.bytes)) = some (some (.slice none 0 0), 1, 24) := by kernel_rfl
section
variable {F : Value → Prop} {cs : List Frame}
set_option maxRecDepth 100000 in
set_option maxHeartbeats 4000000 in
theorem pt_y {RA LA : Option Addr} {rc lc g : Nat} {rs : List Rul} {l : List Cel} {s : Int} {ch : Option Nat} {v v0 : World} {a : Act} {T : Nat → Value} {rest : Code} {ev : Int} (hz : a.tmps.size = 124) (hd : a.defers = []) (s0 : slot a 0 (.slice RA rs.length rc)) (s1 : slot a 1 (.int .i64 s)) (s2 : slot a 2 (.slice LA l.length lc)) (s8 : slot a 8 (.bool false)) (s9 : slot a 9 (.slice (some ⟨g, 0, none⟩) l.length l.length)) (s10 : slot a 10 (.int .i64 ev))
    (hv : RVal rs) (hll : l.length ≤ 2000) (k0 : Kp v0 v) (hp : Prt v g rs s l (fun i => i < l.length) T)
    (hk : ∀ a v' Z zc, a.tmps.size = 124 → a.defers = [] → slot a 0 (.slice RA rs.length rc) → slot a 1 (.int .i64 s) → slot a 2 (.slice LA l.length lc) → slot a 8 (.bool false) → slot a 10 (.int .i64 ev) → slot a 16 (.slice Z (allL rs s l).length zc) → SlAt pCel (Old v') v' Z zc (allL rs s l) → Kp v0 v' → MS Tryd.prog SR gR sR F [] ch (bPt.at a [.code rest]) cs v') :
    MS Tryd.prog SR gR sR F [] ch (bPt.at a [.code (.seq ptR16 (.seq ptY rest))]) cs v := by
  have hX : Walk Tryd.prog SR gR sR (MS Tryd.prog SR gR sR F [] ch) := MS.walk ctxR
  rw [act_lit124 hd hz]
  rw [show (a.tmps.getD 0 undef) = _ from s0, show (a.tmps.getD 1 undef) = _ from s1, show (a.tmps.getD 2 undef) = _ from s2, show (a.tmps.getD 8 undef) = _ from s8, show (a.tmps.getD 9 undef) = _ from s9, show (a.tmps.getD 10 undef) = _ from s10]
  refine hX.seq (hX.wp ctxR rfl bPt_fn tokR16 fun τ d => ?_)
  have k1 : Kp v0 (Go.Proofs.YtlipmagkplbkdaaDoor.at2 v τ d) := k0.trans (Kp.at2 _ _ _)
  have hp1 := hp.at2 τ d
  generalize Go.Proofs.YtlipmagkplbkdaaDoor.at2 v τ d = v1 at k1 hp1 ⊢
  clear k0 hp s0 s1 s2 s8 s9 s10
  generalize (a.tmps.getD 3 undef) = j3
  generalize (a.tmps.getD 4 undef) = j4
  generalize (a.tmps.getD 5 undef) = j5
  generalize (a.tmps.getD 6 undef) = j6
  generalize (a.tmps.getD 7 undef) = j7
  generalize (a.tmps.getD 11 undef) = j11
  generalize (a.tmps.getD 12 undef) = j12
  generalize (a.tmps.getD 13 undef) = j13
  generalize (a.tmps.getD 14 undef) = j14
  generalize (a.tmps.getD 15 undef) = j15
  generalize (a.tmps.getD 16 undef) = j16
  generalize (a.tmps.getD 17 undef) = j17
  generalize (a.tmps.getD 18 undef) = j18
  generalize (a.tmps.getD 19 undef) = j19
  generalize (a.tmps.getD 20 undef) = j20
  generalize (a.tmps.getD 21 undef) = j21
  generalize (a.tmps.getD 22 undef) = j22
  generalize (a.tmps.getD 23 undef) = j23
  generalize (a.tmps.getD 24 undef) = j24
  generalize (a.tmps.getD 25 undef) = j25
  generalize (a.tmps.getD 26 undef) = j26
  generalize (a.tmps.getD 27 undef) = j27
  generalize (a.tmps.getD 28 undef) = j28
  generalize (a.tmps.getD 29 undef) = j29
  generalize (a.tmps.getD 30 undef) = j30
  generalize (a.tmps.getD 31 undef) = j31
  generalize (a.tmps.getD 32 undef) = j32
  generalize (a.tmps.getD 33 undef) = j33
  generalize (a.tmps.getD 34 undef) = j34
  generalize (a.tmps.getD 35 undef) = j35
  generalize (a.tmps.getD 36 undef) = j36
  generalize (a.tmps.getD 37 undef) = j37
  generalize (a.tmps.getD 38 undef) = j38
  generalize (a.tmps.getD 39 undef) = j39
  generalize (a.tmps.getD 40 undef) = j40
  generalize (a.tmps.getD 41 undef) = j41
  generalize (a.tmps.getD 42 undef) = j42
  generalize (a.tmps.getD 43 undef) = j43
  generalize (a.tmps.getD 44 undef) = j44
  generalize (a.tmps.getD 45 undef) = j45
  generalize (a.tmps.getD 46 undef) = j46
  generalize (a.tmps.getD 47 undef) = j47
  generalize (a.tmps.getD 48 undef) = j48
  generalize (a.tmps.getD 49 undef) = j49
  generalize (a.tmps.getD 50 undef) = j50
  generalize (a.tmps.getD 51 undef) = j51
  generalize (a.tmps.getD 52 undef) = j52
  generalize (a.tmps.getD 53 undef) = j53
  generalize (a.tmps.getD 54 undef) = j54
  generalize (a.tmps.getD 55 undef) = j55
  generalize (a.tmps.getD 56 undef) = j56
  generalize (a.tmps.getD 57 undef) = j57
  generalize (a.tmps.getD 58 undef) = j58
  generalize (a.tmps.getD 59 undef) = j59
  generalize (a.tmps.getD 60 undef) = j60
  generalize (a.tmps.getD 61 undef) = j61
  generalize (a.tmps.getD 62 undef) = j62
  generalize (a.tmps.getD 63 undef) = j63
  generalize (a.tmps.getD 64 undef) = j64
  generalize (a.tmps.getD 65 undef) = j65
  generalize (a.tmps.getD 66 undef) = j66
  generalize (a.tmps.getD 67 undef) = j67
  generalize (a.tmps.getD 68 undef) = j68
  generalize (a.tmps.getD 69 undef) = j69
  generalize (a.tmps.getD 70 undef) = j70
  generalize (a.tmps.getD 71 undef) = j71
  generalize (a.tmps.getD 72 undef) = j72
  generalize (a.tmps.getD 73 undef) = j73
  generalize (a.tmps.getD 74 undef) = j74
  generalize (a.tmps.getD 75 undef) = j75
  generalize (a.tmps.getD 76 undef) = j76
  generalize (a.tmps.getD 77 undef) = j77
  generalize (a.tmps.getD 78 undef) = j78
  generalize (a.tmps.getD 79 undef) = j79
  generalize (a.tmps.getD 80 undef) = j80
  generalize (a.tmps.getD 81 undef) = j81
  generalize (a.tmps.getD 82 undef) = j82
  generalize (a.tmps.getD 83 undef) = j83
  generalize (a.tmps.getD 84 undef) = j84
  generalize (a.tmps.getD 85 undef) = j85
  generalize (a.tmps.getD 86 undef) = j86
  generalize (a.tmps.getD 87 undef) = j87
  generalize (a.tmps.getD 88 undef) = j88
  generalize (a.tmps.getD 89 undef) = j89
  generalize (a.tmps.getD 90 undef) = j90
  generalize (a.tmps.getD 91 undef) = j91
  generalize (a.tmps.getD 92 undef) = j92
  generalize (a.tmps.getD 93 undef) = j93
  generalize (a.tmps.getD 94 undef) = j94
  generalize (a.tmps.getD 95 undef) = j95
  generalize (a.tmps.getD 96 undef) = j96
  generalize (a.tmps.getD 97 undef) = j97
  generalize (a.tmps.getD 98 undef) = j98
  generalize (a.tmps.getD 99 undef) = j99
  generalize (a.tmps.getD 100 undef) = j100
  generalize (a.tmps.getD 101 undef) = j101
  generalize (a.tmps.getD 102 undef) = j102
  generalize (a.tmps.getD 103 undef) = j103
  generalize (a.tmps.getD 104 undef) = j104
  generalize (a.tmps.getD 105 undef) = j105
  generalize (a.tmps.getD 106 undef) = j106
  generalize (a.tmps.getD 107 undef) = j107
  generalize (a.tmps.getD 108 undef) = j108
  generalize (a.tmps.getD 109 undef) = j109
  generalize (a.tmps.getD 110 undef) = j110
  generalize (a.tmps.getD 111 undef) = j111
  generalize (a.tmps.getD 112 undef) = j112
  generalize (a.tmps.getD 113 undef) = j113
  generalize (a.tmps.getD 114 undef) = j114
  generalize (a.tmps.getD 115 undef) = j115
  generalize (a.tmps.getD 116 undef) = j116
  generalize (a.tmps.getD 117 undef) = j117
  generalize (a.tmps.getD 118 undef) = j118
  generalize (a.tmps.getD 119 undef) = j119
  generalize (a.tmps.getD 120 undef) = j120
  generalize (a.tmps.getD 121 undef) = j121
  generalize (a.tmps.getD 122 undef) = j122
  generalize (a.tmps.getD 123 undef) = j123
  have hn0 : (allL rs s (l.take 0)).length = 0 := rfl
  have Hk := Lib.hid hk; clear hk
  have HX := Lib.hid hX; clear hX
  have Hp1 := Lib.hid hp1; clear hp1
  have K1 := Lib.hid k1; clear k1
  have Hv := Lib.hid hv; clear hv
  have Hn0 := Lib.hid hn0; clear hn0
  dsimp only [ptR16, ptB, Tryd.f8]
  go_wp2
  refine HX.out.seq (HX.out.wp ctxR rfl bPt_fn tokY fun τ d => ?_)
  have k2 : Kp v0 (Go.Proofs.YtlipmagkplbkdaaDoor.at2 v1 τ d) := K1.out.trans (Kp.at2 _ _ _)
  have hp2 := Hp1.out.at2 τ d
  generalize Go.Proofs.YtlipmagkplbkdaaDoor.at2 v1 τ d = v2 at k2 hp2 ⊢
  clear K1 Hp1
  have K2 := Lib.hid k2; clear k2
  have Hp2 := Lib.hid hp2; clear hp2
  dsimp only [ptY, ptB, Tryd.f8]
  go_wp2
  go_loopw [17, 16] (fun i out wr => ∃ (k n : Nat) (Ao : Option Addr) (co : Nat), k ≤ l.length ∧ i = .int .i64 k ∧ out = .slice Ao n co ∧ Hid (Below v2.heap.size v2 wr) ∧ v2.heap.size ≤ wr.heap.size ∧ Hid ((allL rs s (l.take k)).length = n) ∧
    Hid (Own pCel 51 v2.heap.size (g < ·) wr (.slice Ao n co) (allL rs s (l.take k)))) (fun i _ _ => l.length - (intOf i).toNat)
  case atStart => exact ⟨0, 0, none, 0, Nat.zero_le _, rfl, rfl, Below.refl _ _, Nat.le_refl _, Hn0, Own.nil⟩
  case round =>
    obtain ⟨k, n, Ao, co, hk, rfl, rfl, hb, hsz, hn, how⟩ := hrel
    obtain ⟨wo, rfl⟩ : ∃ wo : World, wo = wr := ⟨_, rfl⟩
    by_cases hlt : k < l.length
    case neg =>
      obtain rfl : k = l.length := by omega
      have hn' := hn.out
      have how' := how.out
      rw [List.take_length] at hn' how'
      have hsl := how'.sl'.2.wide (F' := Old wo) fun q hq => hq.2
      have hk2 := Hk.out
      rw [hn'] at hk2
      have k3 := K2.out.trans (Kp.below hb.out)
      have Hk2 := Lib.hid hk2; clear hk2
      have Hsl := Lib.hid hsl; clear hsl
      have K3 := Lib.hid k3; clear k3
      clear hn' how' hn how hb
      go_wp2
      exact Hk2.out _ _ Ao co rfl rfl rfl rfl rfl rfl rfl rfl Hsl.out K3.out
    case pos =>
      have hxk : l[k]? = some (l[k]'hlt) := List.getElem?_eq_getElem hlt
      generalize l[k]'hlt = x at hxk
      obtain ⟨A4, c4, hT, hs4⟩ := Hp2.out.row k x hxk hlt
      have hnl : n ≤ k * 20 := by have h1 := allL_len Hv.out s (l.take k); rw [hn.out, List.length_take] at h1; omega
      have hlen20 := succR_len Hv.out s x
      have has := allL_snoc (rs := rs) (s := s) hxk
      have hk0 : (0 : Int) ≤ (k : Int) := Int.natCast_nonneg _
      have hk1 : (k : Int) < (l.length : Int) := by omega
      generalize (succR rs s x).1 = sl at hT hs4 hlen20 has
      have pw := (Hp2.out.same hb.out).top
      have hcm : wo.cell? ⟨g, k, none⟩ = some (.slice A4 sl.length c4) := by rw [pw.cell, vecV_get T hlt, hT]
      have hs4 : SlAt pCel (fun q => g < q ∧ q < v2.heap.size) wo A4 c4 sl := hs4.keep fun q hq => hb.out.block q hq.2
      have hF : ∀ q, (g < q ∧ q < v2.heap.size) → g < q ∧ q < wo.heap.size ∧ some q ≠ (Value.slice Ao n co).ownBlock := fun q hq => ⟨hq.1, by omega, fun he => by have := (how.out.lt q he.symm).1; omega⟩
      have hlk : (allL rs s (l.take k) ++ sl).length = n + sl.length := by rw [List.length_append, hn.out]
      have hrk : Room (n + sl.length) := room_of (by omega)
      have Hs4 := Lib.hid hs4; clear hs4
      have HF := Lib.hid hF; clear hF
      have Hlk := Lib.hid hlk; clear hlk
      have Hrk := Lib.hid hrk; clear hrk
      have Has := Lib.hid has; clear has
      have Hxk := Lib.hid hxk; clear hxk
      clear hT pw
      go_wp2_with (at_builtin; refine wpList_catG (E := pCel) (xs := allL rs s (l.take k)) (v := .slice Ao n co) (base := v2.heap.size) (G := (g < ·)) 26 51 (.agg #[.string ByteArray.empty, .int .u8 0, .slice none 0 0]) 48 (.tmp 80) (.tmp 84) rfl rfl Tryd.underlying26 info_cel rfl (by decide) rfl how.out A4 c4 sl rfl _ Hs4.out HF.out (n + sl.length) Hlk.out Hrk.out (by decide) hsz ?_; intro A6 c6 w6 hown6 hg6)
      go_roundw
      case rel =>
        have hz6 := hg6.out.bel.size
        refine ⟨k + 1, n + sl.length, A6, c6, hlt, by go_num, rfl, hb.out.trans hg6.out.bel, by omega, ?_, ?_⟩
        · unfold Hid; rw [Has.out]; exact Hlk.out
        · unfold Hid; rw [Has.out]; exact hown6.out
      case measure => simp [intOf]; omega
end
end Go.Proofs.YtlipmagkplbkdaaDoor

/-! Ne9 -/
namespace Go.Proofs.YtlipmagkplbkdaaDoor
open Go Go.Conc Go.RowKit
set_option linter.unusedVariables false
set_option linter.unusedSimpArgs false
noncomputable def ptO22 : Array Oper := match ptT with | .seq (.seq (.region _ o _) _) _ => o | _ => #[]
noncomputable def ptO23 : Array Oper := match ptT with | .seq (.seq _ (.cond _ (.seq (.region _ o _) _) _)) _ => o | _ => #[]
noncomputable def ptO24 : Array Oper := match ptT with | .seq _ (.seq (.seq (.region _ o _) _) _) => o | _ => #[]
noncomputable def ptO25 : Array Oper := match ptT with | .seq _ (.seq (.seq _ (.cond _ (.seq (.region _ o _) _) _)) _) => o | _ => #[]
noncomputable def ptO26 : Array Oper := match ptT with | .seq _ (.seq _ (.seq (.region _ o _) _)) => o | _ => #[]
theorem ptT_eq : ptT = .seq (.seq (.region 22 ptO22 false) (.cond (.tmp 94) (.seq (.region 23 ptO23 false) .ret) .skip)) (.seq (.seq (.region 24 ptO24 false) (.cond (.tmp 103) (.seq (.region 25 ptO25 false) .ret) .skip)) (.seq (.region 26 ptO26 false) .ret)) := by kernel_rfl
theorem ptz2 : List.range ptO2.size = [0, 1] := by kernel_rfl
theorem ptz21 : List.range ptO21.size = [0, 1, 2, 3, 4, 5, 6, 7, 8] := by kernel_rfl
theorem ptz22 : List.range ptO22.size = [0, 1] := by kernel_rfl
theorem ptz23 : List.range ptO23.size = [0, 1, 2, 3, 4, 5, 6] := by kernel_rfl
theorem ptz24 : List.range ptO24.size = [0, 1, 2] := by kernel_rfl
theorem ptz25 : List.range ptO25.size = [0, 1, 2, 3, 4, 5] := by kernel_rfl
theorem ptz26 : List.range ptO26.size = [0, 1, 2, 3, 4, 5, 6, 7, 8, 9, 10, 11, 12, 13, 14, 15] := by kernel_rfl
theorem dec_zero9 : decide ((0 : Int) = 0) = true := rfl
theorem pt_fin {ch : Option Nat} {a : Act} {v : World} {todo : List Item} (hd : a.defers = []) (h8 : slot a 8 (.bool true)) : MS Tryd.prog SR gR sR (· = .bool true) [] ch { bPt.at a todo with mode := .returning } [] v := by
  refine MS.fin (x := .bool true) rfl hd rfl Tryd.func8 (fun τ d => ?_) (by kernel_rfl) rfl
  refine (results_one (p := 8) rfl _).trans ?_
  show Result.ok (a.tmps.getD 8 undef) _ = _
  rw [show (a.tmps.getD 8 undef) = _ from h8]
set_option maxRecDepth 100000 in
set_option maxHeartbeats 4000000 in
theorem pt_two {ch : Option Nat} {v v0 : World} {a : Act} {k : List Item} (hz : a.tmps.size = 124) (hd : a.defers = []) (ht : TabAt v0) (hg : GAt v0) (k0 : Kp v0 v) :
    MS Tryd.prog SR gR sR (· = .bool true) [] ch (bPt.at a (.code (.seq (.region 2 ptO2 false) .ret) :: k)) [] v := by
  have hXX : ∀ ch, Walk Tryd.prog SR gR sR (MS Tryd.prog SR gR sR (· = .bool true) [] ch) := fun ch => MS.walk ctxR
  have hX := hXX ch
  refine hX.seq (hX.region ?_)
  rw [ptz2]
  refine MS.enter ctxR (show ptO2[0]? = some _ from rfl) rfl rfl (by kernel_rfl) ⟨_, _, Tryd.func33, alBody, by kernel_rfl⟩ ?_
  show MS Tryd.prog SR gR sR (· = .bool true) [] _ (Frame.enter Tryd.prog 33 ((#[] : Array Operand).map a.eval) .normal) _ v
  rw [map_none]
  refine alive_ms (ht.kp k0 hg) (hg.kp k0) ?_
  intro ch a' va1 todo hd' q0 kk
  have hX := hXX ch
  refine hX.back' (x := .bool true) rfl rfl Tryd.func33 (show ptO2[0]? = some _ from rfl) (fun τ d => (results_one (p := 0) rfl _).trans (congrArg (fun z => Result.ok z _) (show (a'.tmps.getD 0 undef) = _ from q0))) ?_
  show MS Tryd.prog SR gR sR (· = .bool true) [] ch (bPt.at (a.put (some 24) (.bool true)) _) [] va1
  have k0 := k0.trans kk
  clear kk
  have hd : (a.put (some 24) (.bool true)).defers = [] := hd
  have s24 := slot_same (a := a) (d := 24) (x := .bool true) (by rw [hz]; decide)
  have hz : (a.put (some 24) (.bool true)).tmps.size = 124 := size_put hz
  generalize (a.put (some 24) (.bool true)) = y2 at hz hd s24 ⊢
  refine hX.val (v' := va1) (some 8) (.bool true) (show ptO2[1]? = some _ from rfl) (by kernel_rfl) rfl rfl (fun τ d => run_moveX y2.eval (.tmp 24) (.inr rfl) s24) ?_
  have hd : (y2.put (some 8) (.bool true)).defers = [] := hd
  clear s24
  have s8 := slot_same (a := y2) (d := 8) (x := .bool true) (by rw [hz]; decide)
  have hz : (y2.put (some 8) (.bool true)).tmps.size = 124 := size_put hz
  generalize (y2.put (some 8) (.bool true)) = y3 at hz hd s8 ⊢
  exact hX.done (hX.ret (pt_fin hd s8))
set_option maxRecDepth 100000 in
set_option maxHeartbeats 4000000 in
theorem pt_step {RA LA Z : Option Addr} {rc lc zc : Nat} {rs : List Rul} {l al : List Cel} {s ev : Int} {ch : Option Nat} {v v0 : World} {a : Act} (hz : a.tmps.size = 124) (hd : a.defers = []) (s0 : slot a 0 (.slice RA rs.length rc)) (s1 : slot a 1 (.int .i64 s)) (s2 : slot a 2 (.slice LA l.length lc)) (s10 : slot a 10 (.int .i64 ev)) (s16 : slot a 16 (.slice Z al.length zc))
    (hr : SlAt pRul (Old v) v RA rc rs) (hl : SlAt pCel (Old v) v LA lc l) (hal : SlAt pCel (Old v) v Z zc al) (hsm : Small rs) (hs : Fits .i64 s) (ht : TabAt v0) (hg : GAt v0) (k0 : Kp v0 v)
    (hk : ∀ ch a v' X xc, a.tmps.size = 124 → a.defers = [] → slot a 10 (.int .i64 ev) → slot a 16 (.slice Z al.length zc) → slot a 18 (.slice X (rStep9 rs s l).1.length xc) → slot a 19 (.int .i64 (rStep9 rs s l).2) → SlAt pCel (Old v') v' X xc (rStep9 rs s l).1 → SlAt pCel (Old v') v' Z zc al → Kp v0 v' → MS Tryd.prog SR gR sR (· = .bool true) [] ch (bPt.at a [.code ptT]) [] v') :
    MS Tryd.prog SR gR sR (· = .bool true) [] ch (bPt.at a [.code (.seq (.region 21 ptO21 false) ptT)]) [] v := by
  have hXX : ∀ ch, Walk Tryd.prog SR gR sR (MS Tryd.prog SR gR sR (· = .bool true) [] ch) := fun ch => MS.walk ctxR
  have hX := hXX ch
  refine hX.seq (hX.region ?_)
  rw [ptz21]
  refine hX.val (v' := v) (some 87) (.slice RA rs.length rc) (show ptO21[0]? = some _ from rfl) (by kernel_rfl) rfl rfl (fun τ d => run_moveX a.eval (.tmp 0) (.inl rfl) s0) ?_
  have hd : (a.put (some 87) (.slice RA rs.length rc)).defers = [] := hd
  clear s0
  have s1 := slot_ne (d := 87) (x := .slice RA rs.length rc) s1 (by decide)
  have s2 := slot_ne (d := 87) (x := .slice RA rs.length rc) s2 (by decide)
  have s10 := slot_ne (d := 87) (x := .slice RA rs.length rc) s10 (by decide)
  have s16 := slot_ne (d := 87) (x := .slice RA rs.length rc) s16 (by decide)
  have s87 := slot_same (a := a) (d := 87) (x := .slice RA rs.length rc) (by rw [hz]; decide)
  have hz : (a.put (some 87) (.slice RA rs.length rc)).tmps.size = 124 := size_put hz
  generalize (a.put (some 87) (.slice RA rs.length rc)) = y1 at hz hd s1 s2 s10 s16 s87 ⊢
  refine hX.val (v' := v) (some 88) (.int .i64 s) (show ptO21[1]? = some _ from rfl) (by kernel_rfl) rfl rfl (fun τ d => run_moveX y1.eval (.tmp 1) (.inl rfl) s1) ?_
  have hd : (y1.put (some 88) (.int .i64 s)).defers = [] := hd
  clear s1
  have s2 := slot_ne (d := 88) (x := .int .i64 s) s2 (by decide)
  have s10 := slot_ne (d := 88) (x := .int .i64 s) s10 (by decide)
  have s16 := slot_ne (d := 88) (x := .int .i64 s) s16 (by decide)
  have s87 := slot_ne (d := 88) (x := .int .i64 s) s87 (by decide)
  have s88 := slot_same (a := y1) (d := 88) (x := .int .i64 s) (by rw [hz]; decide)
  have hz : (y1.put (some 88) (.int .i64 s)).tmps.size = 124 := size_put hz
  generalize (y1.put (some 88) (.int .i64 s)) = y2 at hz hd s2 s10 s16 s87 s88 ⊢
  refine hX.val (v' := v) (some 89) (.slice LA l.length lc) (show ptO21[2]? = some _ from rfl) (by kernel_rfl) rfl rfl (fun τ d => run_moveX y2.eval (.tmp 2) (.inl rfl) s2) ?_
  have hd : (y2.put (some 89) (.slice LA l.length lc)).defers = [] := hd
  clear s2
  have s10 := slot_ne (d := 89) (x := .slice LA l.length lc) s10 (by decide)
  have s16 := slot_ne (d := 89) (x := .slice LA l.length lc) s16 (by decide)
  have s87 := slot_ne (d := 89) (x := .slice LA l.length lc) s87 (by decide)
  have s88 := slot_ne (d := 89) (x := .slice LA l.length lc) s88 (by decide)
  have s89 := slot_same (a := y2) (d := 89) (x := .slice LA l.length lc) (by rw [hz]; decide)
  have hz : (y2.put (some 89) (.slice LA l.length lc)).tmps.size = 124 := size_put hz
  generalize (y2.put (some 89) (.slice LA l.length lc)) = y3 at hz hd s10 s16 s87 s88 s89 ⊢
  refine MS.enter ctxR (show ptO21[3]? = some _ from rfl) rfl rfl (by kernel_rfl) ⟨_, _, Tryd.func26, stBody, by kernel_rfl⟩ ?_
  have hargs : (#[.tmp 87, .tmp 88, .tmp 89] : Array Operand).map y3.eval = #[.slice RA rs.length rc, .int .i64 s, .slice LA l.length lc] := by
    simp only [List.map_toArray, List.map_cons, List.map_nil]
    rw [show y3.eval (.tmp 87) = _ from s87, show y3.eval (.tmp 88) = _ from s88, show y3.eval (.tmp 89) = _ from s89]
  show MS Tryd.prog SR gR sR (· = .bool true) [] _ (Frame.enter Tryd.prog 26 ((#[.tmp 87, .tmp 88, .tmp 89] : Array Operand).map y3.eval) .normal) _ v
  rw [hargs]
  refine lst_ms hr hl hsm hs (ht.kp k0 hg) (hg.kp k0) ?_
  intro ch a' v' todo X xc hd' q6 q7 hsl kk
  have hX := hXX ch
  refine hX.back' (x := .tuple #[.slice X (rStep9 rs s l).1.length xc, .int .i64 (rStep9 rs s l).2]) rfl rfl Tryd.func26 (show ptO21[3]? = some _ from rfl) (fun τ d => ?_) ?_
  · refine (results_two (p := 6) (q := 7) rfl _).trans ?_
    show Result.ok (Value.tuple #[a'.tmps.getD 6 undef, a'.tmps.getD 7 undef]) _ = _
    rw [show (a'.tmps.getD 6 undef) = _ from q6, show (a'.tmps.getD 7 undef) = _ from q7]
  show MS Tryd.prog SR gR sR (· = .bool true) [] ch (bPt.at (y3.put (some 90) (.tuple #[.slice X (rStep9 rs s l).1.length xc, .int .i64 (rStep9 rs s l).2])) _) [] v'
  have hd : (y3.put (some 90) (.tuple #[.slice X (rStep9 rs s l).1.length xc, .int .i64 (rStep9 rs s l).2])).defers = [] := hd
  have s10 := slot_ne (d := 90) (x := .tuple #[.slice X (rStep9 rs s l).1.length xc, .int .i64 (rStep9 rs s l).2]) s10 (by decide)
  have s16 := slot_ne (d := 90) (x := .tuple #[.slice X (rStep9 rs s l).1.length xc, .int .i64 (rStep9 rs s l).2]) s16 (by decide)
  clear s87
  clear s88
  clear s89
  have s90 := slot_same (a := y3) (d := 90) (x := .tuple #[.slice X (rStep9 rs s l).1.length xc, .int .i64 (rStep9 rs s l).2]) (by rw [hz]; decide)
  have hz : (y3.put (some 90) (.tuple #[.slice X (rStep9 rs s l).1.length xc, .int .i64 (rStep9 rs s l).2])).tmps.size = 124 := size_put hz
  generalize (y3.put (some 90) (.tuple #[.slice X (rStep9 rs s l).1.length xc, .int .i64 (rStep9 rs s l).2])) = y4 at hz hd s10 s16 s90 ⊢
  refine hX.val (v' := v') (some 86) (.tuple #[.slice X (rStep9 rs s l).1.length xc, .int .i64 (rStep9 rs s l).2]) (show ptO21[4]? = some _ from rfl) (by kernel_rfl) rfl rfl (fun τ d => run_moveX y4.eval (.tmp 90) (.inl rfl) s90) ?_
  have hd : (y4.put (some 86) (.tuple #[.slice X (rStep9 rs s l).1.length xc, .int .i64 (rStep9 rs s l).2])).defers = [] := hd
  have s10 := slot_ne (d := 86) (x := .tuple #[.slice X (rStep9 rs s l).1.length xc, .int .i64 (rStep9 rs s l).2]) s10 (by decide)
  have s16 := slot_ne (d := 86) (x := .tuple #[.slice X (rStep9 rs s l).1.length xc, .int .i64 (rStep9 rs s l).2]) s16 (by decide)
  clear s90
  have s86 := slot_same (a := y4) (d := 86) (x := .tuple #[.slice X (rStep9 rs s l).1.length xc, .int .i64 (rStep9 rs s l).2]) (by rw [hz]; decide)
  have hz : (y4.put (some 86) (.tuple #[.slice X (rStep9 rs s l).1.length xc, .int .i64 (rStep9 rs s l).2])).tmps.size = 124 := size_put hz
  generalize (y4.put (some 86) (.tuple #[.slice X (rStep9 rs s l).1.length xc, .int .i64 (rStep9 rs s l).2])) = y5 at hz hd s10 s16 s86 ⊢
  refine hX.val (v' := v') (some 91) (.slice X (rStep9 rs s l).1.length xc) (show ptO21[5]? = some _ from rfl) (by kernel_rfl) rfl rfl (fun τ d => run_extractX y5.eval (.tmp 86) 0 rfl s86 rfl) ?_
  have hd : (y5.put (some 91) (.slice X (rStep9 rs s l).1.length xc)).defers = [] := hd
  have s10 := slot_ne (d := 91) (x := .slice X (rStep9 rs s l).1.length xc) s10 (by decide)
  have s16 := slot_ne (d := 91) (x := .slice X (rStep9 rs s l).1.length xc) s16 (by decide)
  have s86 := slot_ne (d := 91) (x := .slice X (rStep9 rs s l).1.length xc) s86 (by decide)
  have s91 := slot_same (a := y5) (d := 91) (x := .slice X (rStep9 rs s l).1.length xc) (by rw [hz]; decide)
  have hz : (y5.put (some 91) (.slice X (rStep9 rs s l).1.length xc)).tmps.size = 124 := size_put hz
  generalize (y5.put (some 91) (.slice X (rStep9 rs s l).1.length xc)) = y6 at hz hd s10 s16 s86 s91 ⊢
  refine hX.val (v' := v') (some 92) (.int .i64 (rStep9 rs s l).2) (show ptO21[6]? = some _ from rfl) (by kernel_rfl) rfl rfl (fun τ d => run_extractX y6.eval (.tmp 86) 1 rfl s86 rfl) ?_
  have hd : (y6.put (some 92) (.int .i64 (rStep9 rs s l).2)).defers = [] := hd
  have s10 := slot_ne (d := 92) (x := .int .i64 (rStep9 rs s l).2) s10 (by decide)
  have s16 := slot_ne (d := 92) (x := .int .i64 (rStep9 rs s l).2) s16 (by decide)
  clear s86
  have s91 := slot_ne (d := 92) (x := .int .i64 (rStep9 rs s l).2) s91 (by decide)
  have s92 := slot_same (a := y6) (d := 92) (x := .int .i64 (rStep9 rs s l).2) (by rw [hz]; decide)
  have hz : (y6.put (some 92) (.int .i64 (rStep9 rs s l).2)).tmps.size = 124 := size_put hz
  generalize (y6.put (some 92) (.int .i64 (rStep9 rs s l).2)) = y7 at hz hd s10 s16 s91 s92 ⊢
  refine hX.val (v' := v') (some 18) (.slice X (rStep9 rs s l).1.length xc) (show ptO21[7]? = some _ from rfl) (by kernel_rfl) rfl rfl (fun τ d => run_moveX y7.eval (.tmp 91) (.inr rfl) s91) ?_
  have hd : (y7.put (some 18) (.slice X (rStep9 rs s l).1.length xc)).defers = [] := hd
  have s10 := slot_ne (d := 18) (x := .slice X (rStep9 rs s l).1.length xc) s10 (by decide)
  have s16 := slot_ne (d := 18) (x := .slice X (rStep9 rs s l).1.length xc) s16 (by decide)
  clear s91
  have s92 := slot_ne (d := 18) (x := .slice X (rStep9 rs s l).1.length xc) s92 (by decide)
  have s18 := slot_same (a := y7) (d := 18) (x := .slice X (rStep9 rs s l).1.length xc) (by rw [hz]; decide)
  have hz : (y7.put (some 18) (.slice X (rStep9 rs s l).1.length xc)).tmps.size = 124 := size_put hz
  generalize (y7.put (some 18) (.slice X (rStep9 rs s l).1.length xc)) = y8 at hz hd s10 s16 s18 s92 ⊢
  refine hX.val (v' := v') (some 19) (.int .i64 (rStep9 rs s l).2) (show ptO21[8]? = some _ from rfl) (by kernel_rfl) rfl rfl (fun τ d => run_moveX y8.eval (.tmp 92) (.inr rfl) s92) ?_
  have hd : (y8.put (some 19) (.int .i64 (rStep9 rs s l).2)).defers = [] := hd
  have s10 := slot_ne (d := 19) (x := .int .i64 (rStep9 rs s l).2) s10 (by decide)
  have s16 := slot_ne (d := 19) (x := .int .i64 (rStep9 rs s l).2) s16 (by decide)
  have s18 := slot_ne (d := 19) (x := .int .i64 (rStep9 rs s l).2) s18 (by decide)
  clear s92
  have s19 := slot_same (a := y8) (d := 19) (x := .int .i64 (rStep9 rs s l).2) (by rw [hz]; decide)
  have hz : (y8.put (some 19) (.int .i64 (rStep9 rs s l).2)).tmps.size = 124 := size_put hz
  generalize (y8.put (some 19) (.int .i64 (rStep9 rs s l).2)) = y9 at hz hd s10 s16 s18 s19 ⊢
  exact hX.done (hk _ _ _ X xc hz hd s10 s16 s18 s19 hsl (hal.kp eqv_cel kk) (k0.trans kk))
set_option maxRecDepth 100000 in
set_option maxHeartbeats 4000000 in
theorem pt_err {ch : Option Nat} {v v0 : World} {a : Act} {X Z : Option Addr} {xc zc : Nat} {x al : List Cel} {e ev : Int} (hz : a.tmps.size = 124) (hd : a.defers = []) (s10 : slot a 10 (.int .i64 ev)) (s16 : slot a 16 (.slice Z al.length zc)) (s18 : slot a 18 (.slice X x.length xc)) (s19 : slot a 19 (.int .i64 e)) (hx : SlAt pCel (Old v) v X xc x) (hal : SlAt pCel (Old v) v Z zc al) (ht : TabAt v0) (hg : GAt v0) (k0 : Kp v0 v) (h1 : decide (ev ≠ 0) = true) (h2 : decide (e = ev) = true) :
    MS Tryd.prog SR gR sR (· = .bool true) [] ch (bPt.at a [.code ptT]) [] v := by
  have hXX : ∀ ch, Walk Tryd.prog SR gR sR (MS Tryd.prog SR gR sR (· = .bool true) [] ch) := fun ch => MS.walk ctxR
  have hX := hXX ch
  rw [ptT_eq]
  refine hX.seq (hX.seq (hX.region ?_))
  rw [ptz22]
  refine hX.val (v' := v) (some 93) (.int .i64 ev) (show ptO22[0]? = some _ from rfl) (by kernel_rfl) rfl rfl (fun τ d => run_moveX a.eval (.tmp 10) (.inl rfl) s10) ?_
  have hd : (a.put (some 93) (.int .i64 ev)).defers = [] := hd
  have s10 := slot_ne (d := 93) (x := .int .i64 ev) s10 (by decide)
  clear s16
  clear s18
  have s19 := slot_ne (d := 93) (x := .int .i64 ev) s19 (by decide)
  have s93 := slot_same (a := a) (d := 93) (x := .int .i64 ev) (by rw [hz]; decide)
  have hz : (a.put (some 93) (.int .i64 ev)).tmps.size = 124 := size_put hz
  generalize (a.put (some 93) (.int .i64 ev)) = y22_1 at hz hd s10 s19 s93 ⊢
  refine hX.val (v' := v) (some 94) (.bool true) (show ptO22[1]? = some _ from rfl) (by kernel_rfl) rfl rfl (fun τ d => (run_neq y22_1.eval 27 27 (.tmp 93) _ rfl Tryd.underlying27 (m := ev) s93 (n := 0) rfl).trans (by rw [h1])) ?_
  have hd : (y22_1.put (some 94) (.bool true)).defers = [] := hd
  have s10 := slot_ne (d := 94) (x := .bool true) s10 (by decide)
  have s19 := slot_ne (d := 94) (x := .bool true) s19 (by decide)
  clear s93
  have s94 := slot_same (a := y22_1) (d := 94) (x := .bool true) (by rw [hz]; decide)
  have hz : (y22_1.put (some 94) (.bool true)).tmps.size = 124 := size_put hz
  generalize (y22_1.put (some 94) (.bool true)) = y22_2 at hz hd s10 s19 s94 ⊢
  refine hX.done (hX.cond (t := true) rfl s94 (hX.seq (hX.region ?_)))
  rw [ptz23]
  refine hX.val (v' := v) (some 95) (.int .i64 e) (show ptO23[0]? = some _ from rfl) (by kernel_rfl) rfl rfl (fun τ d => run_moveX y22_2.eval (.tmp 19) (.inl rfl) s19) ?_
  have hd : (y22_2.put (some 95) (.int .i64 e)).defers = [] := hd
  have s10 := slot_ne (d := 95) (x := .int .i64 e) s10 (by decide)
  clear s19
  clear s94
  have s95 := slot_same (a := y22_2) (d := 95) (x := .int .i64 e) (by rw [hz]; decide)
  have hz : (y22_2.put (some 95) (.int .i64 e)).tmps.size = 124 := size_put hz
  generalize (y22_2.put (some 95) (.int .i64 e)) = y23_1 at hz hd s10 s95 ⊢
  refine hX.val (v' := v) (some 96) (.int .i64 ev) (show ptO23[1]? = some _ from rfl) (by kernel_rfl) rfl rfl (fun τ d => run_moveX y23_1.eval (.tmp 10) (.inl rfl) s10) ?_
  have hd : (y23_1.put (some 96) (.int .i64 ev)).defers = [] := hd
  clear s10
  have s95 := slot_ne (d := 96) (x := .int .i64 ev) s95 (by decide)
  have s96 := slot_same (a := y23_1) (d := 96) (x := .int .i64 ev) (by rw [hz]; decide)
  have hz : (y23_1.put (some 96) (.int .i64 ev)).tmps.size = 124 := size_put hz
  generalize (y23_1.put (some 96) (.int .i64 ev)) = y23_2 at hz hd s95 s96 ⊢
  refine hX.val (v' := v) (some 97) (.bool true) (show ptO23[2]? = some _ from rfl) (by kernel_rfl) rfl rfl (fun τ d => (run_eql y23_2.eval 27 27 (.tmp 95) (.tmp 96) rfl Tryd.underlying27 (m := e) s95 (n := ev) s96).trans (by rw [h2])) ?_
  have hd : (y23_2.put (some 97) (.bool true)).defers = [] := hd
  clear s95
  clear s96
  have s97 := slot_same (a := y23_2) (d := 97) (x := .bool true) (by rw [hz]; decide)
  have hz : (y23_2.put (some 97) (.bool true)).tmps.size = 124 := size_put hz
  generalize (y23_2.put (some 97) (.bool true)) = y23_3 at hz hd s97 ⊢
  refine hX.val (v' := v) (some 98) (.bool true) (show ptO23[3]? = some _ from rfl) (by kernel_rfl) rfl rfl (fun τ d => run_moveX y23_3.eval (.tmp 97) (.inl rfl) s97) ?_
  have hd : (y23_3.put (some 98) (.bool true)).defers = [] := hd
  clear s97
  have s98 := slot_same (a := y23_3) (d := 98) (x := .bool true) (by rw [hz]; decide)
  have hz : (y23_3.put (some 98) (.bool true)).tmps.size = 124 := size_put hz
  generalize (y23_3.put (some 98) (.bool true)) = y23_4 at hz hd s98 ⊢
  refine MS.enter ctxR (show ptO23[4]? = some _ from rfl) (wanted_yes rfl (show ptO23[3]? = some _ from rfl) rfl s98) rfl (by kernel_rfl) ⟨_, _, Tryd.func33, alBody, by kernel_rfl⟩ ?_
  show MS Tryd.prog SR gR sR (· = .bool true) [] _ (Frame.enter Tryd.prog 33 ((#[] : Array Operand).map y23_4.eval) .normal) _ v
  rw [map_none]
  refine alive_ms (ht.kp k0 hg) (hg.kp k0) ?_
  intro ch a' va5 todo hd' q0 kk
  have hX := hXX ch
  refine hX.back' (x := .bool true) rfl rfl Tryd.func33 (show ptO23[4]? = some _ from rfl) (fun τ d => (results_one (p := 0) rfl _).trans (congrArg (fun z => Result.ok z _) (show (a'.tmps.getD 0 undef) = _ from q0))) ?_
  show MS Tryd.prog SR gR sR (· = .bool true) [] ch (bPt.at (y23_4.put (some 99) (.bool true)) _) [] va5
  have k0 := k0.trans kk
  clear kk
  have hd : (y23_4.put (some 99) (.bool true)).defers = [] := hd
  have s98 := slot_ne (d := 99) (x := .bool true) s98 (by decide)
  have s99 := slot_same (a := y23_4) (d := 99) (x := .bool true) (by rw [hz]; decide)
  have hz : (y23_4.put (some 99) (.bool true)).tmps.size = 124 := size_put hz
  generalize (y23_4.put (some 99) (.bool true)) = y23_6 at hz hd s98 s99 ⊢
  refine hX.val (v' := va5) (some 100) (.bool true) (show ptO23[5]? = some _ from rfl) (by kernel_rfl) rfl rfl (fun τ d => run_pickT y23_6.eval (.tmp 98) (.tmp 99) _ rfl s98 s99) ?_
  have hd : (y23_6.put (some 100) (.bool true)).defers = [] := hd
  clear s98
  clear s99
  have s100 := slot_same (a := y23_6) (d := 100) (x := .bool true) (by rw [hz]; decide)
  have hz : (y23_6.put (some 100) (.bool true)).tmps.size = 124 := size_put hz
  generalize (y23_6.put (some 100) (.bool true)) = y23_7 at hz hd s100 ⊢
  refine hX.val (v' := va5) (some 8) (.bool true) (show ptO23[6]? = some _ from rfl) (by kernel_rfl) rfl rfl (fun τ d => run_moveX y23_7.eval (.tmp 100) (.inr rfl) s100) ?_
  have hd : (y23_7.put (some 8) (.bool true)).defers = [] := hd
  clear s100
  have s8 := slot_same (a := y23_7) (d := 8) (x := .bool true) (by rw [hz]; decide)
  have hz : (y23_7.put (some 8) (.bool true)).tmps.size = 124 := size_put hz
  generalize (y23_7.put (some 8) (.bool true)) = y23_8 at hz hd s8 ⊢
  exact hX.done (hX.ret (pt_fin hd s8))
set_option maxRecDepth 100000 in
set_option maxHeartbeats 4000000 in
theorem pt_many {ch : Option Nat} {v v0 : World} {a : Act} {X Z : Option Addr} {xc zc : Nat} {x al : List Cel} {e ev : Int} (hz : a.tmps.size = 124) (hd : a.defers = []) (s10 : slot a 10 (.int .i64 ev)) (s16 : slot a 16 (.slice Z al.length zc)) (s18 : slot a 18 (.slice X x.length xc)) (s19 : slot a 19 (.int .i64 e)) (hx : SlAt pCel (Old v) v X xc x) (hal : SlAt pCel (Old v) v Z zc al) (ht : TabAt v0) (hg : GAt v0) (k0 : Kp v0 v) (h1 : decide (ev ≠ 0) = false) (h2 : decide ((2000 : Int) < ((al.length : Nat) : Int)) = true) (h3 : decide (e = 4) = true) :
    MS Tryd.prog SR gR sR (· = .bool true) [] ch (bPt.at a [.code ptT]) [] v := by
  have hXX : ∀ ch, Walk Tryd.prog SR gR sR (MS Tryd.prog SR gR sR (· = .bool true) [] ch) := fun ch => MS.walk ctxR
  have hX := hXX ch
  rw [ptT_eq]
  refine hX.seq (hX.seq (hX.region ?_))
  rw [ptz22]
  refine hX.val (v' := v) (some 93) (.int .i64 ev) (show ptO22[0]? = some _ from rfl) (by kernel_rfl) rfl rfl (fun τ d => run_moveX a.eval (.tmp 10) (.inl rfl) s10) ?_
  have hd : (a.put (some 93) (.int .i64 ev)).defers = [] := hd
  clear s10
  have s16 := slot_ne (d := 93) (x := .int .i64 ev) s16 (by decide)
  clear s18
  have s19 := slot_ne (d := 93) (x := .int .i64 ev) s19 (by decide)
  have s93 := slot_same (a := a) (d := 93) (x := .int .i64 ev) (by rw [hz]; decide)
  have hz : (a.put (some 93) (.int .i64 ev)).tmps.size = 124 := size_put hz
  generalize (a.put (some 93) (.int .i64 ev)) = y22_1 at hz hd s16 s19 s93 ⊢
  refine hX.val (v' := v) (some 94) (.bool false) (show ptO22[1]? = some _ from rfl) (by kernel_rfl) rfl rfl (fun τ d => (run_neq y22_1.eval 27 27 (.tmp 93) _ rfl Tryd.underlying27 (m := ev) s93 (n := 0) rfl).trans (by rw [h1])) ?_
  have hd : (y22_1.put (some 94) (.bool false)).defers = [] := hd
  have s16 := slot_ne (d := 94) (x := .bool false) s16 (by decide)
  have s19 := slot_ne (d := 94) (x := .bool false) s19 (by decide)
  clear s93
  have s94 := slot_same (a := y22_1) (d := 94) (x := .bool false) (by rw [hz]; decide)
  have hz : (y22_1.put (some 94) (.bool false)).tmps.size = 124 := size_put hz
  generalize (y22_1.put (some 94) (.bool false)) = y22_2 at hz hd s16 s19 s94 ⊢
  refine hX.done (hX.cond (t := false) rfl s94 (hX.skip ?_))
  refine hX.seq (hX.seq (hX.region ?_))
  rw [ptz24]
  refine hX.val (v' := v) (some 101) (.slice Z al.length zc) (show ptO24[0]? = some _ from rfl) (by kernel_rfl) rfl rfl (fun τ d => run_moveX y22_2.eval (.tmp 16) (.inl rfl) s16) ?_
  have hd : (y22_2.put (some 101) (.slice Z al.length zc)).defers = [] := hd
  clear s16
  have s19 := slot_ne (d := 101) (x := .slice Z al.length zc) s19 (by decide)
  clear s94
  have s101 := slot_same (a := y22_2) (d := 101) (x := .slice Z al.length zc) (by rw [hz]; decide)
  have hz : (y22_2.put (some 101) (.slice Z al.length zc)).tmps.size = 124 := size_put hz
  generalize (y22_2.put (some 101) (.slice Z al.length zc)) = y24_1 at hz hd s19 s101 ⊢
  refine hX.val (v' := v) (some 102) (.int .i64 ((al.length : Nat) : Int)) (show ptO24[1]? = some _ from rfl) (by kernel_rfl) rfl rfl (fun τ d => run_len y24_1.eval 26 51 (.tmp 101) rfl Tryd.underlying26 s101) ?_
  have hd : (y24_1.put (some 102) (.int .i64 ((al.length : Nat) : Int))).defers = [] := hd
  have s19 := slot_ne (d := 102) (x := .int .i64 ((al.length : Nat) : Int)) s19 (by decide)
  clear s101
  have s102 := slot_same (a := y24_1) (d := 102) (x := .int .i64 ((al.length : Nat) : Int)) (by rw [hz]; decide)
  have hz : (y24_1.put (some 102) (.int .i64 ((al.length : Nat) : Int))).tmps.size = 124 := size_put hz
  generalize (y24_1.put (some 102) (.int .i64 ((al.length : Nat) : Int))) = y24_2 at hz hd s19 s102 ⊢
  refine hX.val (v' := v) (some 103) (.bool true) (show ptO24[2]? = some _ from rfl) (by kernel_rfl) rfl rfl (fun τ d => (run_gtr y24_2.eval 3 3 (.tmp 102) _ rfl Tryd.underlying3 (m := ((al.length : Nat) : Int)) s102 (n := 2000) rfl).trans (by rw [h2])) ?_
  have hd : (y24_2.put (some 103) (.bool true)).defers = [] := hd
  have s19 := slot_ne (d := 103) (x := .bool true) s19 (by decide)
  clear s102
  have s103 := slot_same (a := y24_2) (d := 103) (x := .bool true) (by rw [hz]; decide)
  have hz : (y24_2.put (some 103) (.bool true)).tmps.size = 124 := size_put hz
  generalize (y24_2.put (some 103) (.bool true)) = y24_3 at hz hd s19 s103 ⊢
  refine hX.done (hX.cond (t := true) rfl s103 (hX.seq (hX.region ?_)))
  rw [ptz25]
  refine hX.val (v' := v) (some 104) (.int .i64 e) (show ptO25[0]? = some _ from rfl) (by kernel_rfl) rfl rfl (fun τ d => run_moveX y24_3.eval (.tmp 19) (.inl rfl) s19) ?_
  have hd : (y24_3.put (some 104) (.int .i64 e)).defers = [] := hd
  clear s19
  clear s103
  have s104 := slot_same (a := y24_3) (d := 104) (x := .int .i64 e) (by rw [hz]; decide)
  have hz : (y24_3.put (some 104) (.int .i64 e)).tmps.size = 124 := size_put hz
  generalize (y24_3.put (some 104) (.int .i64 e)) = y25_1 at hz hd s104 ⊢
  refine hX.val (v' := v) (some 105) (.bool true) (show ptO25[1]? = some _ from rfl) (by kernel_rfl) rfl rfl (fun τ d => (run_eql y25_1.eval 27 27 (.tmp 104) _ rfl Tryd.underlying27 (m := e) s104 (n := 4) rfl).trans (by rw [h3])) ?_
  have hd : (y25_1.put (some 105) (.bool true)).defers = [] := hd
  clear s104
  have s105 := slot_same (a := y25_1) (d := 105) (x := .bool true) (by rw [hz]; decide)
  have hz : (y25_1.put (some 105) (.bool true)).tmps.size = 124 := size_put hz
  generalize (y25_1.put (some 105) (.bool true)) = y25_2 at hz hd s105 ⊢
  refine hX.val (v' := v) (some 106) (.bool true) (show ptO25[2]? = some _ from rfl) (by kernel_rfl) rfl rfl (fun τ d => run_moveX y25_2.eval (.tmp 105) (.inl rfl) s105) ?_
  have hd : (y25_2.put (some 106) (.bool true)).defers = [] := hd
  clear s105
  have s106 := slot_same (a := y25_2) (d := 106) (x := .bool true) (by rw [hz]; decide)
  have hz : (y25_2.put (some 106) (.bool true)).tmps.size = 124 := size_put hz
  generalize (y25_2.put (some 106) (.bool true)) = y25_3 at hz hd s106 ⊢
  refine MS.enter ctxR (show ptO25[3]? = some _ from rfl) (wanted_yes rfl (show ptO25[2]? = some _ from rfl) rfl s106) rfl (by kernel_rfl) ⟨_, _, Tryd.func33, alBody, by kernel_rfl⟩ ?_
  show MS Tryd.prog SR gR sR (· = .bool true) [] _ (Frame.enter Tryd.prog 33 ((#[] : Array Operand).map y25_3.eval) .normal) _ v
  rw [map_none]
  refine alive_ms (ht.kp k0 hg) (hg.kp k0) ?_
  intro ch a' va4 todo hd' q0 kk
  have hX := hXX ch
  refine hX.back' (x := .bool true) rfl rfl Tryd.func33 (show ptO25[3]? = some _ from rfl) (fun τ d => (results_one (p := 0) rfl _).trans (congrArg (fun z => Result.ok z _) (show (a'.tmps.getD 0 undef) = _ from q0))) ?_
  show MS Tryd.prog SR gR sR (· = .bool true) [] ch (bPt.at (y25_3.put (some 107) (.bool true)) _) [] va4
  have k0 := k0.trans kk
  clear kk
  have hd : (y25_3.put (some 107) (.bool true)).defers = [] := hd
  have s106 := slot_ne (d := 107) (x := .bool true) s106 (by decide)
  have s107 := slot_same (a := y25_3) (d := 107) (x := .bool true) (by rw [hz]; decide)
  have hz : (y25_3.put (some 107) (.bool true)).tmps.size = 124 := size_put hz
  generalize (y25_3.put (some 107) (.bool true)) = y25_5 at hz hd s106 s107 ⊢
  refine hX.val (v' := va4) (some 108) (.bool true) (show ptO25[4]? = some _ from rfl) (by kernel_rfl) rfl rfl (fun τ d => run_pickT y25_5.eval (.tmp 106) (.tmp 107) _ rfl s106 s107) ?_
  have hd : (y25_5.put (some 108) (.bool true)).defers = [] := hd
  clear s106
  clear s107
  have s108 := slot_same (a := y25_5) (d := 108) (x := .bool true) (by rw [hz]; decide)
  have hz : (y25_5.put (some 108) (.bool true)).tmps.size = 124 := size_put hz
  generalize (y25_5.put (some 108) (.bool true)) = y25_6 at hz hd s108 ⊢
  refine hX.val (v' := va4) (some 8) (.bool true) (show ptO25[5]? = some _ from rfl) (by kernel_rfl) rfl rfl (fun τ d => run_moveX y25_6.eval (.tmp 108) (.inr rfl) s108) ?_
  have hd : (y25_6.put (some 8) (.bool true)).defers = [] := hd
  clear s108
  have s8 := slot_same (a := y25_6) (d := 8) (x := .bool true) (by rw [hz]; decide)
  have hz : (y25_6.put (some 8) (.bool true)).tmps.size = 124 := size_put hz
  generalize (y25_6.put (some 8) (.bool true)) = y25_7 at hz hd s8 ⊢
  exact hX.done (hX.ret (pt_fin hd s8))
set_option maxRecDepth 100000 in
set_option maxHeartbeats 4000000 in
theorem pt_same {ch : Option Nat} {v v0 : World} {a : Act} {X Z : Option Addr} {xc zc : Nat} {x al : List Cel} {e ev : Int} (hz : a.tmps.size = 124) (hd : a.defers = []) (s10 : slot a 10 (.int .i64 ev)) (s16 : slot a 16 (.slice Z al.length zc)) (s18 : slot a 18 (.slice X x.length xc)) (s19 : slot a 19 (.int .i64 e)) (hx : SlAt pCel (Old v) v X xc x) (hal : SlAt pCel (Old v) v Z zc al) (ht : TabAt v0) (hg : GAt v0) (k0 : Kp v0 v) (h1 : decide (ev ≠ 0) = false) (h2 : decide ((2000 : Int) < ((al.length : Nat) : Int)) = false) (h3 : decide (e = 0) = true) (h4 : (x == al) = true) (h5 : cellsR x = 0) :
    MS Tryd.prog SR gR sR (· = .bool true) [] ch (bPt.at a [.code ptT]) [] v := by
  have hXX : ∀ ch, Walk Tryd.prog SR gR sR (MS Tryd.prog SR gR sR (· = .bool true) [] ch) := fun ch => MS.walk ctxR
  have hX := hXX ch
  rw [ptT_eq]
  refine hX.seq (hX.seq (hX.region ?_))
  rw [ptz22]
  refine hX.val (v' := v) (some 93) (.int .i64 ev) (show ptO22[0]? = some _ from rfl) (by kernel_rfl) rfl rfl (fun τ d => run_moveX a.eval (.tmp 10) (.inl rfl) s10) ?_
  have hd : (a.put (some 93) (.int .i64 ev)).defers = [] := hd
  clear s10
  have s16 := slot_ne (d := 93) (x := .int .i64 ev) s16 (by decide)
  have s18 := slot_ne (d := 93) (x := .int .i64 ev) s18 (by decide)
  have s19 := slot_ne (d := 93) (x := .int .i64 ev) s19 (by decide)
  have s93 := slot_same (a := a) (d := 93) (x := .int .i64 ev) (by rw [hz]; decide)
  have hz : (a.put (some 93) (.int .i64 ev)).tmps.size = 124 := size_put hz
  generalize (a.put (some 93) (.int .i64 ev)) = y22_1 at hz hd s16 s18 s19 s93 ⊢
  refine hX.val (v' := v) (some 94) (.bool false) (show ptO22[1]? = some _ from rfl) (by kernel_rfl) rfl rfl (fun τ d => (run_neq y22_1.eval 27 27 (.tmp 93) _ rfl Tryd.underlying27 (m := ev) s93 (n := 0) rfl).trans (by rw [h1])) ?_
  have hd : (y22_1.put (some 94) (.bool false)).defers = [] := hd
  have s16 := slot_ne (d := 94) (x := .bool false) s16 (by decide)
  have s18 := slot_ne (d := 94) (x := .bool false) s18 (by decide)
  have s19 := slot_ne (d := 94) (x := .bool false) s19 (by decide)
  clear s93
  have s94 := slot_same (a := y22_1) (d := 94) (x := .bool false) (by rw [hz]; decide)
  have hz : (y22_1.put (some 94) (.bool false)).tmps.size = 124 := size_put hz
  generalize (y22_1.put (some 94) (.bool false)) = y22_2 at hz hd s16 s18 s19 s94 ⊢
  refine hX.done (hX.cond (t := false) rfl s94 (hX.skip ?_))
  refine hX.seq (hX.seq (hX.region ?_))
  rw [ptz24]
  refine hX.val (v' := v) (some 101) (.slice Z al.length zc) (show ptO24[0]? = some _ from rfl) (by kernel_rfl) rfl rfl (fun τ d => run_moveX y22_2.eval (.tmp 16) (.inl rfl) s16) ?_
  have hd : (y22_2.put (some 101) (.slice Z al.length zc)).defers = [] := hd
  have s16 := slot_ne (d := 101) (x := .slice Z al.length zc) s16 (by decide)
  have s18 := slot_ne (d := 101) (x := .slice Z al.length zc) s18 (by decide)
  have s19 := slot_ne (d := 101) (x := .slice Z al.length zc) s19 (by decide)
  clear s94
  have s101 := slot_same (a := y22_2) (d := 101) (x := .slice Z al.length zc) (by rw [hz]; decide)
  have hz : (y22_2.put (some 101) (.slice Z al.length zc)).tmps.size = 124 := size_put hz
  generalize (y22_2.put (some 101) (.slice Z al.length zc)) = y24_1 at hz hd s16 s18 s19 s101 ⊢
  refine hX.val (v' := v) (some 102) (.int .i64 ((al.length : Nat) : Int)) (show ptO24[1]? = some _ from rfl) (by kernel_rfl) rfl rfl (fun τ d => run_len y24_1.eval 26 51 (.tmp 101) rfl Tryd.underlying26 s101) ?_
  have hd : (y24_1.put (some 102) (.int .i64 ((al.length : Nat) : Int))).defers = [] := hd
  have s16 := slot_ne (d := 102) (x := .int .i64 ((al.length : Nat) : Int)) s16 (by decide)
  have s18 := slot_ne (d := 102) (x := .int .i64 ((al.length : Nat) : Int)) s18 (by decide)
  have s19 := slot_ne (d := 102) (x := .int .i64 ((al.length : Nat) : Int)) s19 (by decide)
  clear s101
  have s102 := slot_same (a := y24_1) (d := 102) (x := .int .i64 ((al.length : Nat) : Int)) (by rw [hz]; decide)
  have hz : (y24_1.put (some 102) (.int .i64 ((al.length : Nat) : Int))).tmps.size = 124 := size_put hz
  generalize (y24_1.put (some 102) (.int .i64 ((al.length : Nat) : Int))) = y24_2 at hz hd s16 s18 s19 s102 ⊢
  refine hX.val (v' := v) (some 103) (.bool false) (show ptO24[2]? = some _ from rfl) (by kernel_rfl) rfl rfl (fun τ d => (run_gtr y24_2.eval 3 3 (.tmp 102) _ rfl Tryd.underlying3 (m := ((al.length : Nat) : Int)) s102 (n := 2000) rfl).trans (by rw [h2])) ?_
  have hd : (y24_2.put (some 103) (.bool false)).defers = [] := hd
  have s16 := slot_ne (d := 103) (x := .bool false) s16 (by decide)
  have s18 := slot_ne (d := 103) (x := .bool false) s18 (by decide)
  have s19 := slot_ne (d := 103) (x := .bool false) s19 (by decide)
  clear s102
  have s103 := slot_same (a := y24_2) (d := 103) (x := .bool false) (by rw [hz]; decide)
  have hz : (y24_2.put (some 103) (.bool false)).tmps.size = 124 := size_put hz
  generalize (y24_2.put (some 103) (.bool false)) = y24_3 at hz hd s16 s18 s19 s103 ⊢
  refine hX.done (hX.cond (t := false) rfl s103 (hX.skip ?_))
  refine hX.seq (hX.region ?_)
  rw [ptz26]
  refine hX.val (v' := v) (some 109) (.int .i64 e) (show ptO26[0]? = some _ from rfl) (by kernel_rfl) rfl rfl (fun τ d => run_moveX y24_3.eval (.tmp 19) (.inl rfl) s19) ?_
  have hd : (y24_3.put (some 109) (.int .i64 e)).defers = [] := hd
  have s16 := slot_ne (d := 109) (x := .int .i64 e) s16 (by decide)
  have s18 := slot_ne (d := 109) (x := .int .i64 e) s18 (by decide)
  clear s19
  clear s103
  have s109 := slot_same (a := y24_3) (d := 109) (x := .int .i64 e) (by rw [hz]; decide)
  have hz : (y24_3.put (some 109) (.int .i64 e)).tmps.size = 124 := size_put hz
  generalize (y24_3.put (some 109) (.int .i64 e)) = y26_1 at hz hd s16 s18 s109 ⊢
  refine hX.val (v' := v) (some 110) (.bool true) (show ptO26[1]? = some _ from rfl) (by kernel_rfl) rfl rfl (fun τ d => (run_eql y26_1.eval 27 27 (.tmp 109) _ rfl Tryd.underlying27 (m := e) s109 (n := 0) rfl).trans (by rw [h3])) ?_
  have hd : (y26_1.put (some 110) (.bool true)).defers = [] := hd
  have s16 := slot_ne (d := 110) (x := .bool true) s16 (by decide)
  have s18 := slot_ne (d := 110) (x := .bool true) s18 (by decide)
  clear s109
  have s110 := slot_same (a := y26_1) (d := 110) (x := .bool true) (by rw [hz]; decide)
  have hz : (y26_1.put (some 110) (.bool true)).tmps.size = 124 := size_put hz
  generalize (y26_1.put (some 110) (.bool true)) = y26_2 at hz hd s16 s18 s110 ⊢
  refine hX.val (v' := v) (some 111) (.bool true) (show ptO26[2]? = some _ from rfl) (by kernel_rfl) rfl rfl (fun τ d => run_moveX y26_2.eval (.tmp 110) (.inl rfl) s110) ?_
  have hd : (y26_2.put (some 111) (.bool true)).defers = [] := hd
  have s16 := slot_ne (d := 111) (x := .bool true) s16 (by decide)
  have s18 := slot_ne (d := 111) (x := .bool true) s18 (by decide)
  clear s110
  have s111 := slot_same (a := y26_2) (d := 111) (x := .bool true) (by rw [hz]; decide)
  have hz : (y26_2.put (some 111) (.bool true)).tmps.size = 124 := size_put hz
  generalize (y26_2.put (some 111) (.bool true)) = y26_3 at hz hd s16 s18 s111 ⊢
  refine hX.valG (v' := v) (some 112) (.slice X x.length xc) (show ptO26[3]? = some _ from rfl) (by kernel_rfl) (wanted_yes rfl (show ptO26[2]? = some _ from rfl) rfl s111) rfl (fun τ d => run_moveX y26_3.eval (.tmp 18) (.inl rfl) s18) ?_
  have hd : (y26_3.put (some 112) (.slice X x.length xc)).defers = [] := hd
  have s16 := slot_ne (d := 112) (x := .slice X x.length xc) s16 (by decide)
  have s18 := slot_ne (d := 112) (x := .slice X x.length xc) s18 (by decide)
  have s111 := slot_ne (d := 112) (x := .slice X x.length xc) s111 (by decide)
  have s112 := slot_same (a := y26_3) (d := 112) (x := .slice X x.length xc) (by rw [hz]; decide)
  have hz : (y26_3.put (some 112) (.slice X x.length xc)).tmps.size = 124 := size_put hz
  generalize (y26_3.put (some 112) (.slice X x.length xc)) = y26_4 at hz hd s16 s18 s111 s112 ⊢
  refine hX.valG (v' := v) (some 113) (.slice Z al.length zc) (show ptO26[4]? = some _ from rfl) (by kernel_rfl) (wanted_yes rfl (show ptO26[2]? = some _ from rfl) rfl s111) rfl (fun τ d => run_moveX y26_4.eval (.tmp 16) (.inl rfl) s16) ?_
  have hd : (y26_4.put (some 113) (.slice Z al.length zc)).defers = [] := hd
  clear s16
  have s18 := slot_ne (d := 113) (x := .slice Z al.length zc) s18 (by decide)
  have s111 := slot_ne (d := 113) (x := .slice Z al.length zc) s111 (by decide)
  have s112 := slot_ne (d := 113) (x := .slice Z al.length zc) s112 (by decide)
  have s113 := slot_same (a := y26_4) (d := 113) (x := .slice Z al.length zc) (by rw [hz]; decide)
  have hz : (y26_4.put (some 113) (.slice Z al.length zc)).tmps.size = 124 := size_put hz
  generalize (y26_4.put (some 113) (.slice Z al.length zc)) = y26_5 at hz hd s18 s111 s112 s113 ⊢
  refine hX.calls ctxR (f := 15) (args := #[.slice X x.length xc, .slice Z al.length zc]) (show ptO26[5]? = some _ from rfl) (by kernel_rfl) (wanted_yes rfl (show ptO26[2]? = some _ from rfl) rfl s111) (show LR.contains 15 = true by kernel_rfl) (fun τ d => Eq.trans (b := .ok (.enter 15 #[y26_5.eval (.tmp 112), y26_5.eval (.tmp 113)]) (Go.Proofs.YtlipmagkplbkdaaDoor.at2 v τ d)) (by kernel_rfl) (by rw [show y26_5.eval (.tmp 112) = _ from s112, show y26_5.eval (.tmp 113) = _ from s113])) (fun τ d => ?_)
  have hsc := sameC_calls X Z xc zc x al (Go.Proofs.YtlipmagkplbkdaaDoor.at2 v τ d) (hx.kp eqv_cel (Kp.at2 v τ d)) (hal.kp eqv_cel (Kp.at2 v τ d))
  unfold BoolPost at hsc
  rw [h4] at hsc
  refine hsc.mono ?_
  rintro e' w' ⟨rfl, hb⟩
  have hx := (hx.kp eqv_cel (Kp.at2 v τ d)).kp eqv_cel (Kp.below hb)
  have k0 := (k0.trans (Kp.at2 v τ d)).trans (Kp.below hb)
  refine ⟨_, rfl, ?_⟩
  show MS Tryd.prog SR gR sR (· = .bool true) [] ch (bPt.at (y26_5.put (some 114) (.bool true)) _) [] w'
  have hd : (y26_5.put (some 114) (.bool true)).defers = [] := hd
  have s18 := slot_ne (d := 114) (x := .bool true) s18 (by decide)
  have s111 := slot_ne (d := 114) (x := .bool true) s111 (by decide)
  clear s112
  clear s113
  have s114 := slot_same (a := y26_5) (d := 114) (x := .bool true) (by rw [hz]; decide)
  have hz : (y26_5.put (some 114) (.bool true)).tmps.size = 124 := size_put hz
  generalize (y26_5.put (some 114) (.bool true)) = y26_6 at hz hd s18 s111 s114 ⊢
  refine hX.val (v' := w') (some 115) (.bool true) (show ptO26[6]? = some _ from rfl) (by kernel_rfl) rfl rfl (fun τ d => run_pickT y26_6.eval (.tmp 111) (.tmp 114) _ rfl s111 s114) ?_
  have hd : (y26_6.put (some 115) (.bool true)).defers = [] := hd
  have s18 := slot_ne (d := 115) (x := .bool true) s18 (by decide)
  clear s111
  clear s114
  have s115 := slot_same (a := y26_6) (d := 115) (x := .bool true) (by rw [hz]; decide)
  have hz : (y26_6.put (some 115) (.bool true)).tmps.size = 124 := size_put hz
  generalize (y26_6.put (some 115) (.bool true)) = y26_7 at hz hd s18 s115 ⊢
  refine hX.val (v' := w') (some 116) (.bool true) (show ptO26[7]? = some _ from rfl) (by kernel_rfl) rfl rfl (fun τ d => run_moveX y26_7.eval (.tmp 115) (.inl rfl) s115) ?_
  have hd : (y26_7.put (some 116) (.bool true)).defers = [] := hd
  have s18 := slot_ne (d := 116) (x := .bool true) s18 (by decide)
  clear s115
  have s116 := slot_same (a := y26_7) (d := 116) (x := .bool true) (by rw [hz]; decide)
  have hz : (y26_7.put (some 116) (.bool true)).tmps.size = 124 := size_put hz
  generalize (y26_7.put (some 116) (.bool true)) = y26_8 at hz hd s18 s116 ⊢
  refine hX.valG (v' := w') (some 117) (.slice X x.length xc) (show ptO26[8]? = some _ from rfl) (by kernel_rfl) (wanted_yes rfl (show ptO26[7]? = some _ from rfl) rfl s116) rfl (fun τ d => run_moveX y26_8.eval (.tmp 18) (.inl rfl) s18) ?_
  have hd : (y26_8.put (some 117) (.slice X x.length xc)).defers = [] := hd
  clear s18
  have s116 := slot_ne (d := 117) (x := .slice X x.length xc) s116 (by decide)
  have s117 := slot_same (a := y26_8) (d := 117) (x := .slice X x.length xc) (by rw [hz]; decide)
  have hz : (y26_8.put (some 117) (.slice X x.length xc)).tmps.size = 124 := size_put hz
  generalize (y26_8.put (some 117) (.slice X x.length xc)) = y26_9 at hz hd s116 s117 ⊢
  refine hX.calls ctxR (f := 23) (args := #[.slice X x.length xc]) (show ptO26[9]? = some _ from rfl) (by kernel_rfl) (wanted_yes rfl (show ptO26[7]? = some _ from rfl) rfl s116) (show LR.contains 23 = true by kernel_rfl) (fun τ d => Eq.trans (b := .ok (.enter 23 #[y26_9.eval (.tmp 117)]) (Go.Proofs.YtlipmagkplbkdaaDoor.at2 w' τ d)) (by kernel_rfl) (by rw [show y26_9.eval (.tmp 117) = _ from s117])) (fun τ d => ?_)
  have hcc := cells_calls X xc x (Go.Proofs.YtlipmagkplbkdaaDoor.at2 w' τ d) (hx.kp eqv_cel (Kp.at2 w' τ d))
  unfold IntPost at hcc
  rw [h5] at hcc
  refine hcc.mono ?_
  rintro e'' w'' ⟨rfl, hb2⟩
  have k0 := (k0.trans (Kp.at2 w' τ d)).trans (Kp.below hb2)
  refine ⟨_, rfl, ?_⟩
  show MS Tryd.prog SR gR sR (· = .bool true) [] ch (bPt.at (y26_9.put (some 118) (.int .i64 0)) _) [] w''
  have hd : (y26_9.put (some 118) (.int .i64 0)).defers = [] := hd
  have s116 := slot_ne (d := 118) (x := .int .i64 0) s116 (by decide)
  clear s117
  have s118 := slot_same (a := y26_9) (d := 118) (x := .int .i64 0) (by rw [hz]; decide)
  have hz : (y26_9.put (some 118) (.int .i64 0)).tmps.size = 124 := size_put hz
  generalize (y26_9.put (some 118) (.int .i64 0)) = y26_10 at hz hd s116 s118 ⊢
  refine hX.valG (v' := w'') (some 119) (.bool true) (show ptO26[10]? = some _ from rfl) (by kernel_rfl) (wanted_yes rfl (show ptO26[7]? = some _ from rfl) rfl s116) rfl (fun τ d => (run_eql y26_10.eval 27 27 (.tmp 118) _ rfl Tryd.underlying27 (m := 0) s118 (n := 0) rfl).trans (by rw [dec_zero9])) ?_
  have hd : (y26_10.put (some 119) (.bool true)).defers = [] := hd
  have s116 := slot_ne (d := 119) (x := .bool true) s116 (by decide)
  clear s118
  have s119 := slot_same (a := y26_10) (d := 119) (x := .bool true) (by rw [hz]; decide)
  have hz : (y26_10.put (some 119) (.bool true)).tmps.size = 124 := size_put hz
  generalize (y26_10.put (some 119) (.bool true)) = y26_11 at hz hd s116 s119 ⊢
  refine hX.val (v' := w'') (some 120) (.bool true) (show ptO26[11]? = some _ from rfl) (by kernel_rfl) rfl rfl (fun τ d => run_pickT y26_11.eval (.tmp 116) (.tmp 119) _ rfl s116 s119) ?_
  have hd : (y26_11.put (some 120) (.bool true)).defers = [] := hd
  clear s116
  clear s119
  have s120 := slot_same (a := y26_11) (d := 120) (x := .bool true) (by rw [hz]; decide)
  have hz : (y26_11.put (some 120) (.bool true)).tmps.size = 124 := size_put hz
  generalize (y26_11.put (some 120) (.bool true)) = y26_12 at hz hd s120 ⊢
  refine hX.val (v' := w'') (some 121) (.bool true) (show ptO26[12]? = some _ from rfl) (by kernel_rfl) rfl rfl (fun τ d => run_moveX y26_12.eval (.tmp 120) (.inl rfl) s120) ?_
  have hd : (y26_12.put (some 121) (.bool true)).defers = [] := hd
  clear s120
  have s121 := slot_same (a := y26_12) (d := 121) (x := .bool true) (by rw [hz]; decide)
  have hz : (y26_12.put (some 121) (.bool true)).tmps.size = 124 := size_put hz
  generalize (y26_12.put (some 121) (.bool true)) = y26_13 at hz hd s121 ⊢
  refine MS.enter ctxR (show ptO26[13]? = some _ from rfl) (wanted_yes rfl (show ptO26[12]? = some _ from rfl) rfl s121) rfl (by kernel_rfl) ⟨_, _, Tryd.func33, alBody, by kernel_rfl⟩ ?_
  show MS Tryd.prog SR gR sR (· = .bool true) [] _ (Frame.enter Tryd.prog 33 ((#[] : Array Operand).map y26_13.eval) .normal) _ w''
  rw [map_none]
  refine alive_ms (ht.kp k0 hg) (hg.kp k0) ?_
  intro ch a' va14 todo hd' q0 kk
  have hX := hXX ch
  refine hX.back' (x := .bool true) rfl rfl Tryd.func33 (show ptO26[13]? = some _ from rfl) (fun τ d => (results_one (p := 0) rfl _).trans (congrArg (fun z => Result.ok z _) (show (a'.tmps.getD 0 undef) = _ from q0))) ?_
  show MS Tryd.prog SR gR sR (· = .bool true) [] ch (bPt.at (y26_13.put (some 122) (.bool true)) _) [] va14
  have k0 := k0.trans kk
  clear kk
  have hd : (y26_13.put (some 122) (.bool true)).defers = [] := hd
  have s121 := slot_ne (d := 122) (x := .bool true) s121 (by decide)
  have s122 := slot_same (a := y26_13) (d := 122) (x := .bool true) (by rw [hz]; decide)
  have hz : (y26_13.put (some 122) (.bool true)).tmps.size = 124 := size_put hz
  generalize (y26_13.put (some 122) (.bool true)) = y26_15 at hz hd s121 s122 ⊢
  refine hX.val (v' := va14) (some 123) (.bool true) (show ptO26[14]? = some _ from rfl) (by kernel_rfl) rfl rfl (fun τ d => run_pickT y26_15.eval (.tmp 121) (.tmp 122) _ rfl s121 s122) ?_
  have hd : (y26_15.put (some 123) (.bool true)).defers = [] := hd
  clear s121
  clear s122
  have s123 := slot_same (a := y26_15) (d := 123) (x := .bool true) (by rw [hz]; decide)
  have hz : (y26_15.put (some 123) (.bool true)).tmps.size = 124 := size_put hz
  generalize (y26_15.put (some 123) (.bool true)) = y26_16 at hz hd s123 ⊢
  refine hX.val (v' := va14) (some 8) (.bool true) (show ptO26[15]? = some _ from rfl) (by kernel_rfl) rfl rfl (fun τ d => run_moveX y26_16.eval (.tmp 123) (.inr rfl) s123) ?_
  have hd : (y26_16.put (some 8) (.bool true)).defers = [] := hd
  clear s123
  have s8 := slot_same (a := y26_16) (d := 8) (x := .bool true) (by rw [hz]; decide)
  have hz : (y26_16.put (some 8) (.bool true)).tmps.size = 124 := size_put hz
  generalize (y26_16.put (some 8) (.bool true)) = y26_17 at hz hd s8 ⊢
  exact hX.done (hX.ret (pt_fin hd s8))
set_option maxRecDepth 100000 in
set_option maxHeartbeats 4000000 in
theorem pt_ms {RA LA : Option Addr} {rc lc : Nat} {rs : List Rul} {l : List Cel} {s first : Int} {v : World} (hr : SlAt pRul (Old v) v RA rc rs) (hl : SlAt pCel (Old v) v LA lc l) (hs : Fits .i64 s) (hfi : Fits .i64 first) (ht : TabAt v) (hg : GAt v) :
    MS Tryd.prog SR gR sR (· = .bool true) [] none (Frame.enter Tryd.prog 8 #[.slice RA rs.length rc, .int .i64 s, .slice LA l.length lc, .int .i64 first] .normal) [] v := by
  have hX : Walk Tryd.prog SR gR sR (MS Tryd.prog SR gR sR (· = .bool true) [] none) := MS.walk ctxR
  have hll0 := hl.lenle
  rw [enter_eq Tryd.func8 ptBody, ptB_eq, ptTm]
  show MS Tryd.prog SR gR sR (· = .bool true) [] none (bPt.at _ _) [] v
  refine hX.seq (hX.wp ctxR rfl bPt_fn tokR0 fun τ d => ?_)
  have k1 : Kp v (Go.Proofs.YtlipmagkplbkdaaDoor.at2 v τ d) := Kp.at2 _ _ _
  generalize Go.Proofs.YtlipmagkplbkdaaDoor.at2 v τ d = v1 at k1 ⊢
  have Hr := Lib.hid hr; clear hr
  have Hl := Lib.hid hl; clear hl
  have HX := Lib.hid hX; clear hX
  have Ht := Lib.hid ht; clear ht
  have Hg := Lib.hid hg; clear hg
  dsimp only [ptR0, ptB, Tryd.f8]
  go_wp2
  refine HX.out.seq (HX.out.seq (HX.out.wp ctxR rfl bPt_fn tokR1 fun τ d => ?_))
  have k2 : Kp v (Go.Proofs.YtlipmagkplbkdaaDoor.at2 v1 τ d) := k1.trans (Kp.at2 _ _ _)
  generalize Go.Proofs.YtlipmagkplbkdaaDoor.at2 v1 τ d = v2 at k2 ⊢
  clear k1
  have hva := valid_calls RA LA rc lc rs l v2 (Hr.out.kp eqv_rul k2) (Hl.out.kp eqv_cel k2)
  unfold BoolPost at hva
  dsimp only [ptR1, ptB, Tryd.f8]
  cases hv : validB rs l
  case false =>
    rw [hv] at hva
    have Hva := Lib.hid hva; clear hva
    have Hv := Lib.hid hv; clear hv
    go_wp2_with (go_at_call 30; refine Hva.out.mono ?_; rintro e w3 ⟨rfl, hb3⟩)
    refine HX.out.cond (t := true) rfl rfl ?_
    exact pt_two rfl rfl Ht.out Hg.out (k2.trans (Kp.below hb3))
  rw [hv] at hva
  obtain ⟨g1, c1, g2, c2⟩ := validB_true hv
  have hsm := small_of g1
  have hlen := (cells_fine c2).1
  have Hv := Lib.hid hv; clear hv
  have G1 := Lib.hid g1; clear g1
  have G2 := Lib.hid g2; clear g2
  have C1 := Lib.hid c1; clear c1
  have C2 := Lib.hid c2; clear c2
  have Hsm := Lib.hid hsm; clear hsm
  have Hva := Lib.hid hva; clear hva
  go_wp2_with (go_at_call 30; refine Hva.out.mono ?_; rintro e w3 ⟨rfl, hb3⟩)
  refine HX.out.cond (t := false) rfl rfl (HX.out.skip ?_)
  have k3 := k2.trans (Kp.below hb3)
  clear hb3 k2
  refine HX.out.seq (HX.out.wp ctxR rfl bPt_fn tokR3 fun τ d => ?_)
  have k4 : Kp v (Go.Proofs.YtlipmagkplbkdaaDoor.at2 w3 τ d) := k3.trans (Kp.at2 _ _ _)
  generalize Go.Proofs.YtlipmagkplbkdaaDoor.at2 w3 τ d = v4 at k4 ⊢
  clear k3
  have hmk := fun (wx : World) => run_make_row' (P := Tryd.prog) 73 26 (.slice none 0 0) 24 Tryd.underlying73 info_slC rfl .i64 .i64 l.length (by omega) (by omega) wx
  rw [vecV_made] at hmk
  have hp0 : Prt (v4.alloc (.cells (vecV l.length fun _ => .slice none 0 0) 26)) v4.heap.size rs s l (fun _ => False) (fun _ => .slice none 0 0) := ⟨Blk.new _ _ _, fun _ _ _ h => h.elim⟩
  have k5 : Kp v (v4.alloc (.cells (vecV l.length fun _ => .slice none 0 0) 26)) := k4.trans (Kp.below ((Below.refl _ _).alloc (Nat.le_refl _) _))
  have hgz := k4.size
  have K4 := Lib.hid k4; clear k4
  have Hp0 := Lib.hid hp0; clear hp0
  have K5 := Lib.hid k5; clear k5
  dsimp only [ptR3, ptB, Tryd.f8]
  go_wp2
  clear hmk
  generalize (v4.alloc (.cells (vecV l.length fun _ => .slice none 0 0) 26)) = v5 at Hp0 K5 ⊢
  generalize v4.heap.size = g at Hp0 hgz ⊢
  refine HX.out.seq (HX.out.wp ctxR rfl bPt_fn tokR4 fun τ d => ?_)
  have k6 : Kp v (Go.Proofs.YtlipmagkplbkdaaDoor.at2 v5 τ d) := K5.out.trans (Kp.at2 _ _ _)
  have hp1 := Hp0.out.at2 τ d
  generalize Go.Proofs.YtlipmagkplbkdaaDoor.at2 v5 τ d = v6 at k6 hp1 ⊢
  clear K5 Hp0 K4
  have K6 := Lib.hid k6; clear k6
  have Hp1 := Lib.hid hp1; clear hp1
  dsimp only [ptR4, ptB, Tryd.f8]
  go_wp2
  refine HX.out.seq (HX.out.wp ctxR rfl bPt_fn tokR5 fun τ d => ?_)
  have k7 : Kp v (Go.Proofs.YtlipmagkplbkdaaDoor.at2 v6 τ d) := K6.out.trans (Kp.at2 _ _ _)
  have hp2 := Hp1.out.at2 τ d
  generalize Go.Proofs.YtlipmagkplbkdaaDoor.at2 v6 τ d = v7 at k7 hp2 ⊢
  clear K6 Hp1
  have K7 := Lib.hid k7; clear k7
  have Hp2 := Lib.hid hp2; clear hp2
  dsimp only [ptR5, ptB, Tryd.f8]
  go_wp2
  obtain ⟨off, hoff⟩ : ∃ off : Nat, (0 ≤ first ∧ first < (l.length : Int) ∧ (off : Int) = first) ∨ (¬ (0 ≤ first ∧ first < (l.length : Int)) ∧ off = 0) := by
    by_cases h : 0 ≤ first ∧ first < (l.length : Int)
    · exact ⟨first.toNat, .inl ⟨h.1, h.2, by omega⟩⟩
    · exact ⟨0, .inr ⟨h, rfl⟩⟩
  have hrv := rval_of C1.out
  refine pt_x (off := off) rfl rfl rfl rfl rfl rfl rfl rfl rfl rfl Hr.out Hl.out hs Hsm.out C1.out C2.out Ht.out Hg.out K7.out hgz Hp2.out hoff ?_
  clear Hp2 K7
  intro a8 v8 T8 hz hd s0 s1 s2 s8 s9 s10 k8 hp8
  refine pt_y hz hd s0 s1 s2 s8 s9 s10 hrv hlen k8 hp8 ?_
  clear s0 s1 s2 s8 s9 s10 hp8 k8 hz hd
  intro a9 v9 Z zc hz hd s0 s1 s2 s8 s10 s16 hal k9
  refine pt_step hz hd s0 s1 s2 s10 s16 (Hr.out.kp eqv_rul k9) (Hl.out.kp eqv_cel k9) hal Hsm.out hs Ht.out Hg.out k9 ?_
  clear s0 s1 s2 s8 s10 s16 hal k9 hz hd
  have hst : rStep9 rs s l = stepR9 rs s l := by unfold rStep9; rw [if_pos C1.out, if_pos C2.out]
  rw [hst]
  intro ch a v' X xc hz hd s10 s16 s18 s19 hx hal k5
  by_cases h0 : errL rs s l = 0
  · have hd0 : decide (errL rs s l ≠ 0) = false := by simp [h0]
    by_cases h2 : 2000 < (allL rs s l).length
    · refine pt_many hz hd s10 s16 s18 s19 hx hal Ht.out Hg.out k5 hd0 (decide_eq_true (by omega)) (decide_eq_true ?_)
      rw [stepR9_many h0 h2]
    · have e0 := stepR9_ok h0 h2
      have hcv := step9_valid (s := s) hrv C2.out (by rw [e0])
      refine pt_same hz hd s10 s16 s18 s19 hx hal Ht.out Hg.out k5 hd0 (decide_eq_false (by omega)) (decide_eq_true ?_) ?_ hcv
      · rw [e0]
      · rw [e0]; exact beq_self_eq_true _
  · refine pt_err hz hd s10 s16 s18 s19 hx hal Ht.out Hg.out k5 (by simp [h0]) (decide_eq_true ?_)
    rw [stepR9_err h0]
end Go.Proofs.YtlipmagkplbkdaaDoor
