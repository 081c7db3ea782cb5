/-
  Layer 17: the hull of a track; the walk of the program's Hull.
-/
import Derived.Test.YtldccpmnboebmaaDoorVs
namespace Go.Proofs.YtldccpmnboebmaaDoor
open Go.RowKit Go.Sort
set_option linter.unusedVariables false

def minI (x y : Int) : Int := if y < x then y else x
def maxI (x y : Int) : Int := if x < y then y else x
def minV (a b : V3) : V3 := (minI a.1 b.1, minI a.2.1 b.2.1, minI a.2.2 b.2.2)
def maxV (a b : V3) : V3 := (maxI a.1 b.1, maxI a.2.1 b.2.1, maxI a.2.2 b.2.2)
abbrev Box := V3 × V3
def boxV (s : Box) (v : V3) : Box := (minV s.1 v, maxV s.2 v)
def hullF : Box → List Ln → Box
  | s, [] => s
  | s, l :: r => hullF (boxV (boxV s l.fr) l.to) r
def hullT (t : Trk) : Box × Int := if checkT t = 0 then (match t.lines with | [] => (((0, 0, 0), (0, 0, 0)), 6) | l :: r => (hullF (l.fr, l.fr) (l :: r), 0)) else (((0, 0, 0), (0, 0, 0)), checkT t)
theorem hullF_to (l : Ln) (r : List Ln) : hullF (l.to, l.to) (l :: r) = hullF (l.fr, l.fr) (l :: r) := by
  have h : boxV (boxV (l.to, l.to) l.fr) l.to = boxV (boxV (l.fr, l.fr) l.fr) l.to := by
    have hm : ∀ x y : Int, minI (minI y x) y = minI (minI x x) y := fun x y => by unfold minI; repeat' split <;> omega
    have hM : ∀ x y : Int, maxI (maxI y x) y = maxI (maxI x x) y := fun x y => by unfold maxI; repeat' split <;> omega
    unfold boxV minV maxV
    simp only [hm, hM]
  show hullF (boxV (boxV (l.to, l.to) l.fr) l.to) r = hullF (boxV (boxV (l.fr, l.fr) l.fr) l.to) r
  rw [h]
def HullErr (r : Box × Int) (w : World) (e : Ending) (w' : World) : Prop := e = .returned (.tuple #[.agg #[.int .i64 r.1.1.1, .int .i64 r.1.1.2.1, .int .i64 r.1.1.2.2], .agg #[.int .i64 r.1.2.1, .int .i64 r.1.2.2.1, .int .i64 r.1.2.2.2], .int .i64 r.2]) ∧ RowKit.Below w.heap.size w w'
theorem results_vec2_tmp {fn : Func} {p q u : Tmp} {ty : TypeId} (h : fn.results = #[.cell p ty, .cell q ty, .tmp u]) (tmps : Array Value) (P : Program) (w : World) (g k : Nat) (t : TypeId) (cs ds : Array Value) {fs}
    (hp : tmps.getD p undef = .pointer (some ⟨g, 0, none⟩)) (hq : tmps.getD q undef = .pointer (some ⟨k, 0, none⟩)) (hg : Blk w g t cs) (hk : Blk w k t ds) (hu : P.underlying ty = some (.struct fs)) (hi : (P.info? ty).map (·.size) = some cs.size) (hi2 : (P.info? ty).map (·.size) = some ds.size) :
    (results fn tmps).run P w = .ok (.tuple #[.agg cs, .agg ds, tmps.getD u undef]) w := by
  rw [Array.getD_eq_getD_getElem?] at hp hq
  simp only [results, h]
  simp [Sem.run_bind, Result.andThen, hp, hq, asAddr, run_loadVar_row w g t ty cs (0, 0) _ hg hu rfl hi, run_loadVar_row w k t ty ds (0, 0) _ hk hu rfl hi2]
section
variable {P : Program} {w : World} {a b c : Int}
theorem run_min2 (ev : Operand → Value) (o : Oper) (x y : Operand) (ts : Array TypeId) (ho : o.op = .call { callee := .builtin .min, args := #[x, y], argTypes := ts }) (hx : ev x = .int .i64 a) (hy : ev y = .int .i64 b) : (execOp ev o).run P w = .ok (.value (.int .i64 (minI a b))) w := by
  obtain ⟨dst, op, tt, ps, af, gd⟩ := o
  simp only at ho
  subst ho
  simp [go_sem, hx, hy, minI]
  all_goals (split <;> omega)
theorem run_max2 (ev : Operand → Value) (o : Oper) (x y : Operand) (ts : Array TypeId) (ho : o.op = .call { callee := .builtin .max, args := #[x, y], argTypes := ts }) (hx : ev x = .int .i64 a) (hy : ev y = .int .i64 b) : (execOp ev o).run P w = .ok (.value (.int .i64 (maxI a b))) w := by
  obtain ⟨dst, op, tt, ps, af, gd⟩ := o
  simp only at ho
  subst ho
  simp [go_sem, hx, hy, maxI]
  all_goals (split <;> omega)
theorem run_min3 (ev : Operand → Value) (o : Oper) (x y z : Operand) (ts : Array TypeId) (ho : o.op = .call { callee := .builtin .min, args := #[x, y, z], argTypes := ts }) (hx : ev x = .int .i64 a) (hy : ev y = .int .i64 b) (hz : ev z = .int .i64 c) : (execOp ev o).run P w = .ok (.value (.int .i64 (minI (minI a b) c))) w := by
  obtain ⟨dst, op, tt, ps, af, gd⟩ := o
  simp only at ho
  subst ho
  simp [go_sem, hx, hy, hz, minI]
  try rfl
theorem run_max3 (ev : Operand → Value) (o : Oper) (x y z : Operand) (ts : Array TypeId) (ho : o.op = .call { callee := .builtin .max, args := #[x, y, z], argTypes := ts }) (hx : ev x = .int .i64 a) (hy : ev y = .int .i64 b) (hz : ev z = .int .i64 c) : (execOp ev o).run P w = .ok (.value (.int .i64 (maxI (maxI a b) c))) w := by
  obtain ⟨dst, op, tt, ps, af, gd⟩ := o
  simp only at ho
  subst ho
  simp [go_sem, hx, hy, hz, maxI]
  try rfl
end
def set3 (w : World) (g : Nat) (v0 v1 v2 : Value) : World := ((w.setCell ⟨g, 0, none⟩ v0).setCell ⟨g, 1, none⟩ v1).setCell ⟨g, 2, none⟩ v2
theorem Blk.set3 {w : World} {g : Nat} {t : TypeId} {a0 a1 a2 : Value} (h : Blk w g t #[a0, a1, a2]) (v0 v1 v2 : Value) : Blk (set3 w g v0 v1 v2) g t #[v0, v1, v2] :=
  ((h.set 0 v0).set 1 v1).set 2 v2
theorem set3_other (w : World) (g k : Nat) (v0 v1 v2 : Value) (h : k ≠ g) : (set3 w g v0 v1 v2).heap[k]? = w.heap[k]? := by
  unfold set3
  rw [Below.heap_setCell _ _ _ _ h, Below.heap_setCell _ _ _ _ h, Below.heap_setCell _ _ _ _ h]
theorem set3_below {B : Nat} {a w : World} (h : RowKit.Below B a w) {g : Nat} (hg : B ≤ g) (v0 v1 v2 : Value) : RowKit.Below B a (set3 w g v0 v1 v2) :=
  ((h.setCell (p := ⟨g, 0, none⟩) hg v0).setCell (p := ⟨g, 1, none⟩) hg v1).setCell (p := ⟨g, 2, none⟩) hg v2
theorem blk_drew {w : World} {g : Nat} {t : TypeId} {cs : Array Value} (h : Blk w g t cs) : Blk w.drew g t cs := h
theorem two3 {w w0 : World} {g k B : Nat} {t : TypeId} {a0 a1 a2 b0 b1 b2 : Value} (h1 : Blk w g t #[a0, a1, a2]) (h2 : Blk w k t #[b0, b1, b2]) (hne : g ≠ k) (hb : RowKit.Below B w0 w) (hg : B ≤ g) (hk : B ≤ k) (v0 v1 v2 u0 u1 u2 : Value) :
    Blk (set3 (set3 w g v0 v1 v2) k u0 u1 u2).drew g t #[v0, v1, v2] ∧ Blk (set3 (set3 w g v0 v1 v2) k u0 u1 u2).drew k t #[u0, u1, u2] ∧ RowKit.Below B w0 (set3 (set3 w g v0 v1 v2) k u0 u1 u2).drew :=
  ⟨blk_drew ((h1.set3 v0 v1 v2).same (set3_other _ _ _ _ _ _ hne)), blk_drew ((h2.same (set3_other _ _ _ _ _ _ (Ne.symm hne))).set3 u0 u1 u2), below_drew (set3_below (set3_below hb hg _ _ _) hk _ _ _)⟩
def stH (s : Box) (l : Ln) : Nat → Box
  | 0 => s
  | 1 => boxV s l.fr
  | _ => boxV (boxV s l.fr) l.to
def vOf (l : Ln) : Nat → V3
  | 0 => l.fr
  | _ => l.to
theorem stH_succ (s : Box) (l : Ln) {j : Nat} (h : j < 2) : stH s l (j + 1) = boxV (stH s l j) (vOf l j) := by
  rcases (show j = 0 ∨ j = 1 from by omega) with rfl | rfl <;> rfl

set_option maxRecDepth 100000 in
set_option maxHeartbeats 8000000 in
theorem hull_calls (A : Option Addr) (c : Nat) (B : Option Addr) (d : Nat) (t : Trk) (w : World) (hl : SlAt pLn (Old w) w A c t.lines) (hm : SlAt pMk (Old w) w B d t.marks) : Calls Tryd.prog 21 #[.agg #[.slice A t.lines.length c, .slice B t.marks.length d, .int .u8 t.fr.1, .int .i64 t.fr.2.1, .int .i64 t.fr.2.2.1, .int .i64 t.fr.2.2.2, .int .i64 t.drawn]] w (HullErr (hullT t) w) := by
  have q1 := hl.lenle
  have q2 := hm.lenle
  obtain ⟨W, hW⟩ : ∃ W, W = ((w.alloc (.cells #[.slice A t.lines.length c, .slice B t.marks.length d, .int .u8 t.fr.1, .int .i64 t.fr.2.1, .int .i64 t.fr.2.2.1, .int .i64 t.fr.2.2.2, .int .i64 t.drawn] 36)).alloc (.cells #[.int .i64 0, .int .i64 0, .int .i64 0] 24)).alloc (.cells #[.int .i64 0, .int .i64 0, .int .i64 0] 24) := ⟨_, rfl⟩
  have b0 : Blk W w.heap.size 36 #[.slice A t.lines.length c, .slice B t.marks.length d, .int .u8 t.fr.1, .int .i64 t.fr.2.1, .int .i64 t.fr.2.2.1, .int .i64 t.fr.2.2.2, .int .i64 t.drawn] := by rw [hW]; exact ((Blk.new w _ _).alloc _).alloc _
  have b1 : Blk W (w.heap.size + 1) 24 #[.int .i64 0, .int .i64 0, .int .i64 0] := by
    rw [hW]
    have := (Blk.new (w.alloc (.cells #[.slice A t.lines.length c, .slice B t.marks.length d, .int .u8 t.fr.1, .int .i64 t.fr.2.1, .int .i64 t.fr.2.2.1, .int .i64 t.fr.2.2.2, .int .i64 t.drawn] 36)) 24 #[.int .i64 0, .int .i64 0, .int .i64 0]).alloc (.cells #[.int .i64 0, .int .i64 0, .int .i64 0] 24)
    simpa using this
  have b2 : Blk W (w.heap.size + 1 + 1) 24 #[.int .i64 0, .int .i64 0, .int .i64 0] := by
    rw [hW]
    have := Blk.new ((w.alloc (.cells #[.slice A t.lines.length c, .slice B t.marks.length d, .int .u8 t.fr.1, .int .i64 t.fr.2.1, .int .i64 t.fr.2.2.1, .int .i64 t.fr.2.2.2, .int .i64 t.drawn] 36)).alloc (.cells #[.int .i64 0, .int .i64 0, .int .i64 0] 24)) 24 #[.int .i64 0, .int .i64 0, .int .i64 0]
    simpa using this
  have t0 : RowKit.Below w.heap.size w W := by rw [hW]; exact al3
  have zW : W.heap.size = w.heap.size + 3 := by rw [hW]; simp
  have f1 := fun W' (h : RowKit.Below w.heap.size w W') => checked_calls A c B d t W' (hl.later h) (hm.later h)
  have hr : hullT t = if checkT t = 0 then (match t.lines with | [] => (((0, 0, 0), (0, 0, 0)), 6) | l :: r => (hullF (l.fr, l.fr) (l :: r), 0)) else (((0, 0, 0), (0, 0, 0)), checkT t) := rfl
  obtain ⟨z, hz⟩ : ∃ z, checkT t = z := ⟨_, rfl⟩
  rw [hz] at f1 hr
  have B0 := Lib.hid b0; clear b0
  have B1 := Lib.hid b1; clear b1
  have B2 := Lib.hid b2; clear b2
  have T0 := Lib.hid t0; clear t0
  have Hl := Lib.hid hl; clear hl
  have Hm := Lib.hid hm; clear hm
  have F1 := Lib.hid f1; clear f1
  have Hr := Lib.hid hr; clear hr
  have Hz := Lib.hid hz; clear hz
  have y0 := B0.out.cell 0
  have y1 := B0.out.cell 1
  have y2 := B0.out.cell 2
  have y3 := B0.out.cell 3
  have y4 := B0.out.cell 4
  have y5 := B0.out.cell 5
  have y6 := B0.out.cell 6
  go_enter Tryd.func21, Tryd.ntmps21
  go_wp2_with fail
  (try rw [← hW])
  have HW := Lib.hid hW; clear hW
  refine (F1.out _ T0.out).mono ?_
  rintro e w1 ⟨rfl, d1⟩
  have k0 := B0.out.same (d1.block _ B0.out.lt)
  have k1 := B1.out.same (d1.block _ B1.out.lt)
  have k2 := B2.out.same (d1.block _ B2.out.lt)
  have t1 := T0.out.trans (d1.mono T0.out.size)
  have zw1 := d1.size
  clear y0 y1 y2 y3 y4 y5 y6 d1
  by_cases h0 : z = 0
  case neg =>
    have h0' : (z != 0) = true := by simpa using h0
    have hr1 := Hr.out
    rw [if_neg h0] at hr1
    have k1' := blk_row (cs := #[.int .i64 0, .int .i64 0, .int .i64 0]) k1
    have k2' := k2.same (setRow_other w1 (w.heap.size + 1) (w.heap.size + 1 + 1) #[.int .i64 0, .int .i64 0, .int .i64 0] (by omega))
    have t1' := row_below (g := w.heap.size + 1) t1 (by omega) #[.int .i64 0, .int .i64 0, .int .i64 0]
    have k1'' := k1'.same (setRow_other (w1.setRow (w.heap.size + 1) #[.int .i64 0, .int .i64 0, .int .i64 0]) (w.heap.size + 1 + 1) (w.heap.size + 1) #[.int .i64 0, .int .i64 0, .int .i64 0] (by omega))
    have k2'' := blk_row (cs := #[.int .i64 0, .int .i64 0, .int .i64 0]) k2'
    have t2' := row_below (g := w.heap.size + 1 + 1) t1' (by omega) #[.int .i64 0, .int .i64 0, .int .i64 0]
    have Hr1 := Lib.hid hr1; clear hr1
    have K1'' := Lib.hid k1''; clear k1''
    have K2'' := Lib.hid k2''; clear k2''
    have T2' := Lib.hid t2'; clear t2'
    have T1 := Lib.hid t1; clear t1
    have T1' := Lib.hid t1'; clear t1'
    have K1' := Lib.hid k1'; clear k1'
    go_wp2_with ((with_reducible show wpList _ _ _ (Oper.mk none _ _ _ _ _ :: _) _ _); first | refine wpList_storeG 24 (.tmp 2) (.tmp 14) _ #[.int .i64 0, .int .i64 0, .int .i64 0] rfl rfl rfl rfl k1 (by kernel_rfl) rfl (by simp [Value.oneCell']) rfl ?_ | refine wpList_storeG 24 (.tmp 3) (.tmp 15) _ #[.int .i64 0, .int .i64 0, .int .i64 0] rfl rfl rfl rfl k2' (by kernel_rfl) rfl (by simp [Value.oneCell']) rfl ?_)
    refine bodyPost_ret (results_vec2_tmp rfl _ _ _ (w.heap.size + 1) (w.heap.size + 1 + 1) 24 _ _ rfl rfl K1''.out K2''.out Tryd.underlying24 (by kernel_rfl) (by kernel_rfl)) rfl ?_
    exact ⟨by rw [Hr1.out]; rfl, T2'.out⟩
  case pos =>
    subst h0
    have hr1 := Hr.out
    rw [if_pos rfl] at hr1
    have y0 := k0.cell 0
    by_cases hn : t.lines.length = 0
    case pos =>
      have hnil : t.lines = [] := List.length_eq_zero_iff.1 hn
      rw [hnil] at hr1
      simp only at hr1
      have hn' : ((t.lines.length : Int) == 0) = true := by simp [hn]
      have k1' := blk_row (cs := #[.int .i64 0, .int .i64 0, .int .i64 0]) k1
      have k2' := k2.same (setRow_other w1 (w.heap.size + 1) (w.heap.size + 1 + 1) #[.int .i64 0, .int .i64 0, .int .i64 0] (by omega))
      have t1' := row_below (g := w.heap.size + 1) t1 (by omega) #[.int .i64 0, .int .i64 0, .int .i64 0]
      have k1'' := k1'.same (setRow_other (w1.setRow (w.heap.size + 1) #[.int .i64 0, .int .i64 0, .int .i64 0]) (w.heap.size + 1 + 1) (w.heap.size + 1) #[.int .i64 0, .int .i64 0, .int .i64 0] (by omega))
      have k2'' := blk_row (cs := #[.int .i64 0, .int .i64 0, .int .i64 0]) k2'
      have t2' := row_below (g := w.heap.size + 1 + 1) t1' (by omega) #[.int .i64 0, .int .i64 0, .int .i64 0]
      have Hr1 := Lib.hid hr1; clear hr1
      have K1'' := Lib.hid k1''; clear k1''
      have K2'' := Lib.hid k2''; clear k2''
      have T2' := Lib.hid t2'; clear t2'
      have T1 := Lib.hid t1; clear t1
      have T1' := Lib.hid t1'; clear t1'
      have K1' := Lib.hid k1'; clear k1'
      have Hnil := Lib.hid hnil; clear hnil
      clear hn
      go_wp2_with ((with_reducible show wpList _ _ _ (Oper.mk none _ _ _ _ _ :: _) _ _); first | refine wpList_storeG 24 (.tmp 2) (.tmp 21) _ #[.int .i64 0, .int .i64 0, .int .i64 0] rfl rfl rfl rfl k1 (by kernel_rfl) rfl (by simp [Value.oneCell']) rfl ?_ | refine wpList_storeG 24 (.tmp 3) (.tmp 22) _ #[.int .i64 0, .int .i64 0, .int .i64 0] rfl rfl rfl rfl k2' (by kernel_rfl) rfl (by simp [Value.oneCell']) rfl ?_)
      refine bodyPost_ret (results_vec2_tmp rfl _ _ _ (w.heap.size + 1) (w.heap.size + 1 + 1) 24 _ _ rfl rfl K1''.out K2''.out Tryd.underlying24 (by kernel_rfl) (by kernel_rfl)) rfl ?_
      exact ⟨by rw [Hr1.out]; rfl, T2'.out⟩
    case neg =>
      have hn' : ((t.lines.length : Int) == 0) = false := beq_eq_false_iff_ne.2 (by omega)
      have hn0 : 0 < t.lines.length := by omega
      obtain ⟨b, o, l, hd, rfl, hob, c0, c1, c2, c3, c4, c5, c6, z1, z2, z3⟩ := (Hl.out.later t1).getLn (i := 0) hn0
      have hls : t.lines = l :: t.lines.drop 1 := by have := hd.out; simpa using this
      rw [hls] at hr1
      simp only at hr1
      have hob' : b < w1.heap.size := hob
      have hobw : b < w.heap.size := by
        obtain ⟨b', o', l', _, hA, hb', _⟩ := Hl.out.getLn (i := 0) hn0
        cases hA
        exact hb'
      have hz0 : b + 0 * 7 = b := by omega
      simp only [Nat.zero_mul, Nat.add_zero] at c0 c1 c2 c3 c4 c5 c6
      have Hr1 := Lib.hid hr1; clear hr1
      have Hls := Lib.hid hls; clear hls
      have K0 := Lib.hid k0; clear k0
      have K1 := Lib.hid k1; clear k1
      have K2 := Lib.hid k2; clear k2
      have T1 := Lib.hid t1; clear t1
      have Z1 := Lib.hid z1; clear z1
      have Z2 := Lib.hid z2; clear z2
      have Z3 := Lib.hid z3; clear z3
      go_upto_region 6 with fail
      refine wp_region_floatS 12 (w.heap.size + 1) [⟨⟨100, 2, 24, #[.int .i64 0, .int .i64 0, .int .i64 0]⟩, some (10, 27, #[.int .i64 l.fr.1, .int .i64 l.fr.2.1, .int .i64 l.fr.2.2])⟩, ⟨⟨101, 3, 24, #[.int .i64 0, .int .i64 0, .int .i64 0]⟩, some (11, 32, #[.int .i64 l.fr.1, .int .i64 l.fr.2.1, .int .i64 l.fr.2.2])⟩] (fun i => if i = 100 then some (w.heap.size + 1) else if i = 101 then some (w.heap.size + 1 + 1) else none) (by kernel_rfl) (by kernel_rfl) (by
          intro x hx h
          simp at hx
          rcases hx with rfl | rfl <;> simp at h) (by
          intro x hx j v row h
          simp at hx
          rcases hx with rfl | rfl
          all_goals
            simp at h
            obtain ⟨-, -, rfl⟩ := h
            exact ⟨by kernel_rfl, rfl, by simp [Value.oneCell']⟩) (by omega) (by
          intro x hx
          simp at hx
          rcases hx with rfl | rfl
          · exact ⟨fun h => by simp at h, fun _ => ⟨_, rfl, K1.out, by omega⟩⟩
          · exact ⟨fun h => by simp at h, fun _ => ⟨_, rfl, K2.out, by omega⟩⟩) (by
          intro x hx y hy hxy g h1 h2
          simp at hx hy
          rcases hx with rfl | rfl <;> rcases hy with rfl | rfl <;> simp at h1 h2 hxy <;> omega) (by simp [putsF, Act.put, ptrV]) ?_
      apply Exists.intro
      refine And.intro ?walk (And.intro ?vals (And.intro ?slots ?tail))
      case walk =>
        intro W' hW'
        have e0 := cell_regrown ((cell_keep (hW'.block w.heap.size (by omega))).trans y0)
        have g0 := cell_regrown ((cell_keep (hW'.block b (by omega))).trans c0)
        have g1 := cell_regrown ((cell_keep (hW'.block b (by omega))).trans c1)
        have g2 := cell_regrown ((cell_keep (hW'.block b (by omega))).trans c2)
        simp only [virtP, fltP, nopT, List.take_succ_cons, List.take_zero, List.drop_succ_cons, List.drop_zero, List.map_cons, List.map_nil, List.append_nil]
        iterate 12 (go_big_quiet_step (fail))
        exact wpQuiet_nil rfl
      case vals =>
        intro x hx j v row h
        simp at hx
        rcases hx with rfl | rfl
        all_goals
          simp at h
          obtain ⟨-, rfl, rfl⟩ := h
          rfl
      case slots =>
        intro x hx
        simp at hx
        rcases hx with rfl | rfl <;> simp
      case tail =>
        intro p w' hbw' hB' hD hp'
        have hB4 := hB' _ (List.mem_cons_self)
        have hB5 := hB' _ (List.mem_cons_of_mem _ (List.mem_cons_self))
        have hp4 := hp' _ (List.mem_cons_self) (by simp)
        have hp5 := hp' _ (List.mem_cons_of_mem _ (List.mem_cons_self)) (by simp)
        simp only [Fs.fin] at hB4 hB5
        simp at hp4 hp5
        simp only [putsF, ptrV, List.drop_succ_cons, List.drop_zero, List.map_cons, List.map_nil]
        rw [← hp4] at hB4 ⊢
        rw [← hp5] at hB5 ⊢
        clear hB' hD hp' hp4 hp5
        have n1 := hB4.1
        have n2 := hB5.1
        have nt := T1.out.trans (hbw'.mono (by omega))
        have zw2 := hbw'.size
        have j0 := cell_keep (hbw'.block w.heap.size (by omega)) |>.trans y0
        simp only [Act.put]
        have hfi : Hid (hullF (l.fr, l.fr) (t.lines.drop 0) = hullF (l.fr, l.fr) (l :: t.lines.drop 1)) := by
          have h := Hls.out
          show hullF (l.fr, l.fr) t.lines = _
          rw [← h]
        clear y0 c0 c1 c2 c3 c4 c5 c6 hbw' hB4 hB5
        have N1 := Lib.hid n1; clear n1
        have N2 := Lib.hid n2; clear n2
        have Nt := Lib.hid nt; clear nt
        go_wp2
        clear j0
        go_loopw [36] (fun i wr => ∃ (k : Nat) (s : Box), k ≤ t.lines.length ∧ i = .int .i64 k ∧ Hid (hullF s (t.lines.drop k) = hullF (l.fr, l.fr) (l :: t.lines.drop 1)) ∧ Hid (RowKit.Below w.heap.size w wr) ∧ Hid (Blk wr (w.heap.size + 1) 24 #[.int .i64 s.1.1, .int .i64 s.1.2.1, .int .i64 s.1.2.2]) ∧ Hid (Blk wr (w.heap.size + 1 + 1) 24 #[.int .i64 s.2.1, .int .i64 s.2.2.1, .int .i64 s.2.2.2])) (fun i _ => t.lines.length - (intOf i).toNat)
        case atStart => exact ⟨0, (l.fr, l.fr), Nat.zero_le _, rfl, hfi, Nt.out, N1.out, N2.out⟩
        case round =>
          obtain ⟨k, s, hk, rfl, hs, hbw, hk1, hk2⟩ := hrel
          by_cases hlt : k < t.lines.length
          case pos =>
            obtain ⟨b', o', l', hd', hAe, hob', c0, c1, c2, c3, c4, c5, c6, z1, z2, z3⟩ := (Hl.out.later hbw.out).getLn hlt
            cases hAe
            have hsn : hullF (boxV (boxV s l'.fr) l'.to) (t.lines.drop (k + 1)) = hullF (l.fr, l.fr) (l :: t.lines.drop 1) := by
              have := hs.out
              rw [hd'.out] at this
              exact this
            have Hsn := Lib.hid hsn; clear hsn
            have Hd' := Lib.hid hd'; clear hd'
            have Z1 := Lib.hid z1; clear z1
            have Z2 := Lib.hid z2; clear z2
            have Z3 := Lib.hid z3; clear z3
            clear hs
            have hs1 := hk2.out.lt
            obtain ⟨wo, hwo⟩ : ∃ W, W = wr.alloc (.cells #[.int .i64 l'.fr.1, .int .i64 l'.fr.2.1, .int .i64 l'.fr.2.2, .int .i64 l'.to.1, .int .i64 l'.to.2.1, .int .i64 l'.to.2.2, .int .i64 l'.dep] 46) := ⟨_, rfl⟩
            have hbo : Blk wo wr.heap.size 46 #[.int .i64 l'.fr.1, .int .i64 l'.fr.2.1, .int .i64 l'.fr.2.2, .int .i64 l'.to.1, .int .i64 l'.to.2.1, .int .i64 l'.to.2.2, .int .i64 l'.dep] := by rw [hwo]; exact Blk.new _ _ _
            have i1 : Blk wo (w.heap.size + 1) 24 #[.int .i64 s.1.1, .int .i64 s.1.2.1, .int .i64 s.1.2.2] := by rw [hwo]; exact hk1.out.alloc _
            have i2 : Blk wo (w.heap.size + 1 + 1) 24 #[.int .i64 s.2.1, .int .i64 s.2.2.1, .int .i64 s.2.2.2] := by rw [hwo]; exact hk2.out.alloc _
            have it : RowKit.Below w.heap.size w wo := by rw [hwo]; exact hbw.out.alloc hbw.out.size _
            have x0 := hbo.cell 0
            have x1 := hbo.cell 1
            have x2 := hbo.cell 2
            have x3 := hbo.cell 3
            have x4 := hbo.cell 4
            have x5 := hbo.cell 5
            have Hbo := Lib.hid hbo; clear hbo
            have I1 := Lib.hid i1; clear i1
            have I2 := Lib.hid i2; clear i2
            have It := Lib.hid it; clear it
            go_upto_region 10 with fail
            (try rw [← hwo])
            clear c0 c1 c2 c3 c4 c5 c6 hwo
            go_wp2
            clear x0 x1 x2 x3 x4 x5
            go_loopw [45] (fun j wq => ∃ (q : Nat), q ≤ 2 ∧ j = .int .i64 q ∧ Hid (RowKit.Below w.heap.size w wq) ∧ Hid (Blk wq (w.heap.size + 1) 24 #[.int .i64 (stH s l' q).1.1, .int .i64 (stH s l' q).1.2.1, .int .i64 (stH s l' q).1.2.2]) ∧ Hid (Blk wq (w.heap.size + 1 + 1) 24 #[.int .i64 (stH s l' q).2.1, .int .i64 (stH s l' q).2.2.1, .int .i64 (stH s l' q).2.2.2])) (fun j _ => 2 - (intOf j).toNat)
            case atStart => exact ⟨0, by omega, rfl, It.out, I1.out, I2.out⟩
            case round =>
              obtain ⟨q, hq, rfl, ht, hr1, hr2⟩ := hrel
              by_cases hq2 : q < 2
              case pos =>
                have hst := stH_succ s l' hq2
                obtain ⟨u, hu⟩ : ∃ u, stH s l' q = u := ⟨_, rfl⟩
                have hu1 := hr1.out
                have hu2 := hr2.out
                rw [hu] at hst hu1 hu2
                rcases (show q = 0 ∨ q = 1 from by omega) with rfl | rfl
                · simp only [vOf] at hst
                  have hsz := hu2.lt
                  obtain ⟨wn, hwn⟩ : ∃ W, W = wr.alloc (.cells #[.int .i64 l'.fr.1, .int .i64 l'.fr.2.1, .int .i64 l'.fr.2.2] 24) := ⟨_, rfl⟩
                  have v0 : Blk wn wr.heap.size 24 #[.int .i64 l'.fr.1, .int .i64 l'.fr.2.1, .int .i64 l'.fr.2.2] := by rw [hwn]; exact Blk.new _ _ _
                  have v1 : Blk wn (w.heap.size + 1) 24 #[.int .i64 u.1.1, .int .i64 u.1.2.1, .int .i64 u.1.2.2] := by rw [hwn]; exact hu1.alloc _
                  have v2 : Blk wn (w.heap.size + 1 + 1) 24 #[.int .i64 u.2.1, .int .i64 u.2.2.1, .int .i64 u.2.2.2] := by rw [hwn]; exact hu2.alloc _
                  have vt : RowKit.Below w.heap.size w wn := by rw [hwn]; exact ht.out.alloc ht.out.size _
                  have m1 := blk_row (cs := #[.int .i64 (minI u.1.1 l'.fr.1), .int .i64 (minI u.1.2.1 l'.fr.2.1), .int .i64 (minI u.1.2.2 l'.fr.2.2)]) v1
                  have m0 := v0.same (setRow_other wn (w.heap.size + 1) wr.heap.size #[.int .i64 (minI u.1.1 l'.fr.1), .int .i64 (minI u.1.2.1 l'.fr.2.1), .int .i64 (minI u.1.2.2 l'.fr.2.2)] (by omega))
                  have m2 := v2.same (setRow_other wn (w.heap.size + 1) (w.heap.size + 1 + 1) #[.int .i64 (minI u.1.1 l'.fr.1), .int .i64 (minI u.1.2.1 l'.fr.2.1), .int .i64 (minI u.1.2.2 l'.fr.2.2)] (by omega))
                  have mt := row_below (g := w.heap.size + 1) vt (by omega) #[.int .i64 (minI u.1.1 l'.fr.1), .int .i64 (minI u.1.2.1 l'.fr.2.1), .int .i64 (minI u.1.2.2 l'.fr.2.2)]
                  obtain ⟨wm, hwm⟩ : ∃ W, W = wn.setRow (w.heap.size + 1) #[.int .i64 (minI u.1.1 l'.fr.1), .int .i64 (minI u.1.2.1 l'.fr.2.1), .int .i64 (minI u.1.2.2 l'.fr.2.2)] := ⟨_, rfl⟩
                  rw [← hwm] at m0 m1 m2 mt
                  have o2 := blk_row (cs := #[.int .i64 (maxI u.2.1 l'.fr.1), .int .i64 (maxI u.2.2.1 l'.fr.2.1), .int .i64 (maxI u.2.2.2 l'.fr.2.2)]) m2
                  have o1 := m1.same (setRow_other wm (w.heap.size + 1 + 1) (w.heap.size + 1) #[.int .i64 (maxI u.2.1 l'.fr.1), .int .i64 (maxI u.2.2.1 l'.fr.2.1), .int .i64 (maxI u.2.2.2 l'.fr.2.2)] (by omega))
                  have ot := row_below (g := w.heap.size + 1 + 1) mt (by omega) #[.int .i64 (maxI u.2.1 l'.fr.1), .int .i64 (maxI u.2.2.1 l'.fr.2.1), .int .i64 (maxI u.2.2.2 l'.fr.2.2)]
                  obtain ⟨wx, hwx⟩ : ∃ W, W = wm.setRow (w.heap.size + 1 + 1) #[.int .i64 (maxI u.2.1 l'.fr.1), .int .i64 (maxI u.2.2.1 l'.fr.2.1), .int .i64 (maxI u.2.2.2 l'.fr.2.2)] := ⟨_, rfl⟩
                  rw [← hwx] at o1 o2 ot
                  have M0 := Lib.hid m0; clear m0
                  have M1 := Lib.hid m1; clear m1
                  have M2 := Lib.hid m2; clear m2
                  have Mt := Lib.hid mt; clear mt
                  have O1 := Lib.hid o1; clear o1
                  have O2 := Lib.hid o2; clear o2
                  have Ot := Lib.hid ot; clear ot
                  have Vt := Lib.hid vt; clear vt
                  have Hst := Lib.hid hst; clear hst
                  have Hu := Lib.hid hu; clear hu
                  have V0 := Lib.hid v0; clear v0
                  have V2 := Lib.hid v2; clear v2
                  have Hwm := Lib.hid hwm; clear hwm
                  have Hwx := Lib.hid hwx; clear hwx
                  clear hu1 hu2 hr1 hr2
                  go_upto_region 13 with ((with_reducible show wpList _ _ _ (Oper.mk (some 47) _ _ _ _ _ :: _) _ _); refine wpList_value (v := .agg #[.int .i64 l'.fr.1, .int .i64 l'.fr.2.1, .int .i64 l'.fr.2.2]) rfl (by kernel_rfl) ?_)
                  rw [← hwn]
                  clear hwn
                  have x0 := V0.out.cell 0
                  have x1 := V0.out.cell 1
                  have x2 := V0.out.cell 2
                  have y0 := v1.cell 0
                  have y1 := v1.cell 1
                  have y2 := v1.cell 2
                  go_upto_region 14 with (first | ((with_reducible show wpList _ _ _ (Oper.mk (some 52) _ _ _ _ _ :: _) _ _); refine wpList_value (v := .int .i64 (minI u.1.1 l'.fr.1)) rfl (run_min2 _ _ (.tmp 49) (.tmp 51) _ rfl rfl rfl) ?_) | ((with_reducible show wpList _ _ _ (Oper.mk (some 57) _ _ _ _ _ :: _) _ _); refine wpList_value (v := .int .i64 (minI u.1.2.1 l'.fr.2.1)) rfl (run_min2 _ _ (.tmp 54) (.tmp 56) _ rfl rfl rfl) ?_) | ((with_reducible show wpList _ _ _ (Oper.mk (some 62) _ _ _ _ _ :: _) _ _); refine wpList_value (v := .int .i64 (minI u.1.2.2 l'.fr.2.2)) rfl (run_min2 _ _ (.tmp 59) (.tmp 61) _ rfl rfl rfl) ?_) | ((with_reducible show wpList _ _ _ (Oper.mk none _ _ _ _ _ :: _) _ _); refine wpList_storeG 24 (.tmp 2) (.tmp 63) _ #[.int .i64 (minI u.1.1 l'.fr.1), .int .i64 (minI u.1.2.1 l'.fr.2.1), .int .i64 (minI u.1.2.2 l'.fr.2.2)] rfl rfl rfl rfl v1 (by kernel_rfl) rfl (by simp [Value.oneCell']) rfl ?_))
                  rw [← Hwm.out]
                  clear x0 x1 x2 y0 y1 y2 v1
                  have x0 := M0.out.cell 0
                  have x1 := M0.out.cell 1
                  have x2 := M0.out.cell 2
                  have m2 := M2.out
                  have y0 := m2.cell 0
                  have y1 := m2.cell 1
                  have y2 := m2.cell 2
                  go_upto_region 15 with (first | ((with_reducible show wpList _ _ _ (Oper.mk (some 68) _ _ _ _ _ :: _) _ _); refine wpList_value (v := .int .i64 (maxI u.2.1 l'.fr.1)) rfl (run_max2 _ _ (.tmp 65) (.tmp 67) _ rfl rfl rfl) ?_) | ((with_reducible show wpList _ _ _ (Oper.mk (some 73) _ _ _ _ _ :: _) _ _); refine wpList_value (v := .int .i64 (maxI u.2.2.1 l'.fr.2.1)) rfl (run_max2 _ _ (.tmp 70) (.tmp 72) _ rfl rfl rfl) ?_) | ((with_reducible show wpList _ _ _ (Oper.mk (some 78) _ _ _ _ _ :: _) _ _); refine wpList_value (v := .int .i64 (maxI u.2.2.2 l'.fr.2.2)) rfl (run_max2 _ _ (.tmp 75) (.tmp 77) _ rfl rfl rfl) ?_) | ((with_reducible show wpList _ _ _ (Oper.mk none _ _ _ _ _ :: _) _ _); refine wpList_storeG 24 (.tmp 3) (.tmp 79) _ #[.int .i64 (maxI u.2.1 l'.fr.1), .int .i64 (maxI u.2.2.1 l'.fr.2.1), .int .i64 (maxI u.2.2.2 l'.fr.2.2)] rfl rfl rfl rfl m2 (by kernel_rfl) rfl (by simp [Value.oneCell']) rfl ?_))
                  rw [← Hwx.out]
                  clear x0 x1 x2 y0 y1 y2 m2
                  go_wp2
                  go_roundw
                  case rel => exact ⟨1, by omega, by go_num, Ot.out, by rw [Hst.out]; exact O1.out, by rw [Hst.out]; exact O2.out⟩
                  case measure => simp [intOf]
                · simp only [vOf] at hst
                  have hsz := hu2.lt
                  obtain ⟨wn, hwn⟩ : ∃ W, W = wr.alloc (.cells #[.int .i64 l'.to.1, .int .i64 l'.to.2.1, .int .i64 l'.to.2.2] 24) := ⟨_, rfl⟩
                  have v0 : Blk wn wr.heap.size 24 #[.int .i64 l'.to.1, .int .i64 l'.to.2.1, .int .i64 l'.to.2.2] := by rw [hwn]; exact Blk.new _ _ _
                  have v1 : Blk wn (w.heap.size + 1) 24 #[.int .i64 u.1.1, .int .i64 u.1.2.1, .int .i64 u.1.2.2] := by rw [hwn]; exact hu1.alloc _
                  have v2 : Blk wn (w.heap.size + 1 + 1) 24 #[.int .i64 u.2.1, .int .i64 u.2.2.1, .int .i64 u.2.2.2] := by rw [hwn]; exact hu2.alloc _
                  have vt : RowKit.Below w.heap.size w wn := by rw [hwn]; exact ht.out.alloc ht.out.size _
                  have m1 := blk_row (cs := #[.int .i64 (minI u.1.1 l'.to.1), .int .i64 (minI u.1.2.1 l'.to.2.1), .int .i64 (minI u.1.2.2 l'.to.2.2)]) v1
                  have m0 := v0.same (setRow_other wn (w.heap.size + 1) wr.heap.size #[.int .i64 (minI u.1.1 l'.to.1), .int .i64 (minI u.1.2.1 l'.to.2.1), .int .i64 (minI u.1.2.2 l'.to.2.2)] (by omega))
                  have m2 := v2.same (setRow_other wn (w.heap.size + 1) (w.heap.size + 1 + 1) #[.int .i64 (minI u.1.1 l'.to.1), .int .i64 (minI u.1.2.1 l'.to.2.1), .int .i64 (minI u.1.2.2 l'.to.2.2)] (by omega))
                  have mt := row_below (g := w.heap.size + 1) vt (by omega) #[.int .i64 (minI u.1.1 l'.to.1), .int .i64 (minI u.1.2.1 l'.to.2.1), .int .i64 (minI u.1.2.2 l'.to.2.2)]
                  obtain ⟨wm, hwm⟩ : ∃ W, W = wn.setRow (w.heap.size + 1) #[.int .i64 (minI u.1.1 l'.to.1), .int .i64 (minI u.1.2.1 l'.to.2.1), .int .i64 (minI u.1.2.2 l'.to.2.2)] := ⟨_, rfl⟩
                  rw [← hwm] at m0 m1 m2 mt
                  have o2 := blk_row (cs := #[.int .i64 (maxI u.2.1 l'.to.1), .int .i64 (maxI u.2.2.1 l'.to.2.1), .int .i64 (maxI u.2.2.2 l'.to.2.2)]) m2
                  have o1 := m1.same (setRow_other wm (w.heap.size + 1 + 1) (w.heap.size + 1) #[.int .i64 (maxI u.2.1 l'.to.1), .int .i64 (maxI u.2.2.1 l'.to.2.1), .int .i64 (maxI u.2.2.2 l'.to.2.2)] (by omega))
                  have ot := row_below (g := w.heap.size + 1 + 1) mt (by omega) #[.int .i64 (maxI u.2.1 l'.to.1), .int .i64 (maxI u.2.2.1 l'.to.2.1), .int .i64 (maxI u.2.2.2 l'.to.2.2)]
                  obtain ⟨wx, hwx⟩ : ∃ W, W = wm.setRow (w.heap.size + 1 + 1) #[.int .i64 (maxI u.2.1 l'.to.1), .int .i64 (maxI u.2.2.1 l'.to.2.1), .int .i64 (maxI u.2.2.2 l'.to.2.2)] := ⟨_, rfl⟩
                  rw [← hwx] at o1 o2 ot
                  have M0 := Lib.hid m0; clear m0
                  have M1 := Lib.hid m1; clear m1
                  have M2 := Lib.hid m2; clear m2
                  have Mt := Lib.hid mt; clear mt
                  have O1 := Lib.hid o1; clear o1
                  have O2 := Lib.hid o2; clear o2
                  have Ot := Lib.hid ot; clear ot
                  have Vt := Lib.hid vt; clear vt
                  have Hst := Lib.hid hst; clear hst
                  have Hu := Lib.hid hu; clear hu
                  have V0 := Lib.hid v0; clear v0
                  have V2 := Lib.hid v2; clear v2
                  have Hwm := Lib.hid hwm; clear hwm
                  have Hwx := Lib.hid hwx; clear hwx
                  clear hu1 hu2 hr1 hr2
                  go_upto_region 13 with ((with_reducible show wpList _ _ _ (Oper.mk (some 47) _ _ _ _ _ :: _) _ _); refine wpList_value (v := .agg #[.int .i64 l'.to.1, .int .i64 l'.to.2.1, .int .i64 l'.to.2.2]) rfl (by kernel_rfl) ?_)
                  rw [← hwn]
                  clear hwn
                  have x0 := V0.out.cell 0
                  have x1 := V0.out.cell 1
                  have x2 := V0.out.cell 2
                  have y0 := v1.cell 0
                  have y1 := v1.cell 1
                  have y2 := v1.cell 2
                  go_upto_region 14 with (first | ((with_reducible show wpList _ _ _ (Oper.mk (some 52) _ _ _ _ _ :: _) _ _); refine wpList_value (v := .int .i64 (minI u.1.1 l'.to.1)) rfl (run_min2 _ _ (.tmp 49) (.tmp 51) _ rfl rfl rfl) ?_) | ((with_reducible show wpList _ _ _ (Oper.mk (some 57) _ _ _ _ _ :: _) _ _); refine wpList_value (v := .int .i64 (minI u.1.2.1 l'.to.2.1)) rfl (run_min2 _ _ (.tmp 54) (.tmp 56) _ rfl rfl rfl) ?_) | ((with_reducible show wpList _ _ _ (Oper.mk (some 62) _ _ _ _ _ :: _) _ _); refine wpList_value (v := .int .i64 (minI u.1.2.2 l'.to.2.2)) rfl (run_min2 _ _ (.tmp 59) (.tmp 61) _ rfl rfl rfl) ?_) | ((with_reducible show wpList _ _ _ (Oper.mk none _ _ _ _ _ :: _) _ _); refine wpList_storeG 24 (.tmp 2) (.tmp 63) _ #[.int .i64 (minI u.1.1 l'.to.1), .int .i64 (minI u.1.2.1 l'.to.2.1), .int .i64 (minI u.1.2.2 l'.to.2.2)] rfl rfl rfl rfl v1 (by kernel_rfl) rfl (by simp [Value.oneCell']) rfl ?_))
                  rw [← Hwm.out]
                  clear x0 x1 x2 y0 y1 y2 v1
                  have x0 := M0.out.cell 0
                  have x1 := M0.out.cell 1
                  have x2 := M0.out.cell 2
                  have m2 := M2.out
                  have y0 := m2.cell 0
                  have y1 := m2.cell 1
                  have y2 := m2.cell 2
                  go_upto_region 15 with (first | ((with_reducible show wpList _ _ _ (Oper.mk (some 68) _ _ _ _ _ :: _) _ _); refine wpList_value (v := .int .i64 (maxI u.2.1 l'.to.1)) rfl (run_max2 _ _ (.tmp 65) (.tmp 67) _ rfl rfl rfl) ?_) | ((with_reducible show wpList _ _ _ (Oper.mk (some 73) _ _ _ _ _ :: _) _ _); refine wpList_value (v := .int .i64 (maxI u.2.2.1 l'.to.2.1)) rfl (run_max2 _ _ (.tmp 70) (.tmp 72) _ rfl rfl rfl) ?_) | ((with_reducible show wpList _ _ _ (Oper.mk (some 78) _ _ _ _ _ :: _) _ _); refine wpList_value (v := .int .i64 (maxI u.2.2.2 l'.to.2.2)) rfl (run_max2 _ _ (.tmp 75) (.tmp 77) _ rfl rfl rfl) ?_) | ((with_reducible show wpList _ _ _ (Oper.mk none _ _ _ _ _ :: _) _ _); refine wpList_storeG 24 (.tmp 3) (.tmp 79) _ #[.int .i64 (maxI u.2.1 l'.to.1), .int .i64 (maxI u.2.2.1 l'.to.2.1), .int .i64 (maxI u.2.2.2 l'.to.2.2)] rfl rfl rfl rfl m2 (by kernel_rfl) rfl (by simp [Value.oneCell']) rfl ?_))
                  rw [← Hwx.out]
                  clear x0 x1 x2 y0 y1 y2 m2
                  go_wp2
                  go_roundw
                  case rel => exact ⟨2, by omega, by go_num, Ot.out, by rw [Hst.out]; exact O1.out, by rw [Hst.out]; exact O2.out⟩
                  case measure => simp [intOf]
              case neg =>
                obtain rfl : q = 2 := by omega
                go_wp2
                go_roundw
                case rel => exact ⟨k + 1, boxV (boxV s l'.fr) l'.to, by omega, by go_num, Hsn.out, ht.out, hr1.out, hr2.out⟩
                case measure => simp [intOf]; omega
          case neg =>
            have hfin : hullF s [] = hullF (l.fr, l.fr) (l :: t.lines.drop 1) := by
              have := hs.out
              rw [List.drop_eq_nil_of_le (by omega)] at this
              exact this
            have y0 := hk1.out.cell 0
            have y1 := hk1.out.cell 1
            have y2 := hk1.out.cell 2
            have y3 := hk2.out.cell 0
            have y4 := hk2.out.cell 1
            have y5 := hk2.out.cell 2
            have u0 := hk1.out.free 0
            have u1 := hk1.out.free 1
            have u2 := hk1.out.free 2
            have u3 := hk2.out.free 0
            have u4 := hk2.out.free 1
            have u5 := hk2.out.free 2
            have Hfin := Lib.hid hfin; clear hfin
            have Hk1 := Lib.hid hk1; clear hk1
            have Hk2 := Lib.hid hk2; clear hk2
            have Hbw := Lib.hid hbw; clear hbw
            go_wp2
            go_region
            all_goals
              (try simp only [Exit.then])
              have hend := two3 Hk1.out Hk2.out (by omega) Hbw.out (by omega) (by omega) (.int .i64 s.1.1) (.int .i64 s.1.2.1) (.int .i64 s.1.2.2) (.int .i64 s.2.1) (.int .i64 s.2.2.1) (.int .i64 s.2.2.2)
              have Hend := Lib.hid hend; clear hend
              go_wp2
              (try simp only [Exit.inBlock, Exit.then])
              refine bodyPost_ret (results_vec2_tmp rfl _ _ _ (w.heap.size + 1) (w.heap.size + 1 + 1) 24 _ _ rfl rfl Hend.out.1 Hend.out.2.1 Tryd.underlying24 (by kernel_rfl) (by kernel_rfl)) rfl ?_
              refine ⟨?_, Hend.out.2.2⟩
              have he := Hr1.out
              rw [← Hfin.out] at he
              rw [he]
              rfl
end Go.Proofs.YtldccpmnboebmaaDoor
